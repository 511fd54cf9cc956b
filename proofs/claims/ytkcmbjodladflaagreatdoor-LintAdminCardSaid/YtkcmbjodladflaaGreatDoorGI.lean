/-
  Rights: the program; How many partitions each of some names has: the program; THE LIBRARY'S HEAP, of whatever stands behind its interface: what up, down, Fix, Push, Pop and Remove do, if Len, Less and Swap do as is said; THE HEAP'S ORDER: what up, down, Fix and Remove leave is a heap, if what was there was one but for the one place. Plain Lean; Package cmp: Compare and Or of ints; and the reference's SameInts; Claims: the small functions of the program and of the reference; Claims: the queue of names that want more, as a heap; Claims: names in the order of what they have (the library's stable sort, of few); The library's stable sort beyond one block, plainly: blocks that are swapped, merges; The library's stable sort beyond one block: the walks; The library's stable sort beyond one block: merges; The library's stable sort: any number of blocks. Own work (an AI agent).
-/
import Derived.Test.YtkcmbjodladflaaGreatDoorGH
import Derived.Test.YtkcmbjodladflaaGreatDoorGG
import Derived.Test.YtkcmbjodladflaaGreatDoorGD

section
set_option linter.all false
set_option maxRecDepth 100000
namespace Go.Proofs.YtkcmbjodladflaaGreatDoor
open Go.Ab
def txtA (n : Nat) : ByteArray := B ((if n % 2 = 1 then [114] else []) ++ ((if n / 2 % 2 = 1 then [119] else []) ++ (if n / 4 % 2 = 1 then [108] else [])))
def rgtA (s : ByteArray) : Option Nat := (List.range 8).find? fun n => decide (txtA n = s)
theorem lG_ {σ : Store} : ao_ Tryz.prog 148 [] σ fun v σ' => v = .agg [vStr ⟨#[114]⟩, vStr ⟨#[119]⟩, vStr ⟨#[108]⟩] ∧ σ = σ' := by
 refine aj_ Tryz.func148 rfl Tryz.ntmps148 (congrArg Array.toList Tryz.results148) (by simp only [List.length_cons, List.length_nil]; decide) ?_; simp only [af_, ak_, Nat.reduceAdd]
 refine ab_ ?_
 refine aa_ kr_ ?_
 refine aQ_ rfl rfl rfl g_ gl_ fun o0 ho0 => ?_
 repeat (rw [an_] at ho0; obtain ⟨_, ho0⟩ := ho0)
 refine ac_ ?_
 refine ab_ ?_
 refine aa_ kr_ ?_
 (refine aL_S rfl rfl v_ ?_)
 refine av_ rfl rfl rfl v_ v_ h_ g_ rfl g_ c_ (by rfl) le_ v_ ?_
 refine ac_ ?_
 refine am_ ?_
 refine ai_ (σ' := σ) v_ sub_ ?_
 exact ⟨rfl, rfl⟩
def ltr (k : Nat) : List UInt8 := if k = 0 then [114] else if k = 1 then [119] else if k = 2 then [108] else []
def ek_ (n : Nat) : Nat → List UInt8
 |0 => []
 |k + 1 => ek_ n k ++ (if n / 2 ^ k % 2 = 1 then ltr k else [])
theorem r7_ (n : Nat) : txtA n = B (ek_ n 3) := by
 unfold txtA ek_ ek_ ek_ ek_ ltr
 simp
theorem q2_ (n : Int) : bAnd .i64 n 1 = n % 2 := by
 unfold bAnd
 rw [show IntKind.i64.bits = 64 from rfl, BitVec.toNat_and, show (BitVec.ofInt 64 1).toNat = 2 ^ 1 - 1 from rfl, Nat.and_two_pow_sub_one_eq_mod, BitVec.toNat_ofInt]
 have e : (((n % ((2 ^ 64 : Nat) : Int)).toNat % 2 ^ 1 : Nat) : Int) = n % 2 := by omega
 rw [e, wrap_i64 _ (by omega) (by omega)]
theorem h6_ (n : Nat) : ∀ k, (ek_ n k).length ≤ k
 |0 => Nat.le_refl _
 |k + 1 => by
  have := h6_ n k
  have h2 : (if n / 2 ^ k % 2 = 1 then ltr k else []).length ≤ 1 := by
   split
   ·unfold ltr; repeat' split
    all_goals simp
   ·simp
  rw [ek_, List.length_append]; omega
theorem nf_ (n k : Nat) : (n : Int) / 2 ^ k % 2 = ((n / 2 ^ k % 2 : Nat) : Int) := by
 rw [Int.natCast_emod, Int.natCast_ediv, Int.natCast_pow]; rfl
theorem oS_ {n : Nat} {σ : Store} (hn : n < 8) : ao_ Tryz.prog 92 [vInt n] σ fun v σ' => v = vStr (txtA n) ∧ σ = σ' := by
  rw [r7_]
  refine aj_ Tryz.func92 rfl Tryz.ntmps92 (congrArg Array.toList Tryz.results92) (by simp only [List.length_cons, List.length_nil]; decide) ?_; simp only [af_, ak_, Nat.reduceAdd]
  refine ab_ ?_
  refine aa_ kr_ ?_
  (refine aL_S rfl rfl v_ ?_)
  refine ac_ ?_
  refine ab_ ?_
  refine aa_ kr_ ?_
  (refine aL_S rfl rfl v_ ?_)
  refine ac_ ?_
  refine ab_ ?_
  refine ab_ ?_
  refine aa_ kr_ ?_
  iterate 3 (refine aL_S rfl rfl v_ ?_)
  refine ay_ rfl rfl v_ rfl vg_ ?_
  refine ay_ rfl rfl v_ rfl vg_ ?_
  (refine aL_S rfl rfl v_ ?_)
  refine ac_ ?_
  refine ad_ v_ (fun hc2 => ?_) (fun hc2 => ?_)
  · replace hc2 := nm_ hc2
    omega
  · replace hc2 := nm_ hc2
    refine ah_ ?_
    refine ab_ ?_
    refine ab_ ?_
    refine aa_ kr_ ?_
    refine aL_X rfl rfl (ae_ rfl rfl (.inr ⟨rfl, rfl, rfl⟩) g_ va_ (lG_) ?_); rintro _ _ ⟨rfl, rfl⟩
    (refine aL_S rfl rfl v_ ?_)
    refine ac_ ?_
    refine al_ ?_
    refine ap_ (ι := Nat) (fun k => 3 - k) (fun k => k ≤ 3) (fun k => [(0, vInt n), (3, vStr (B (ek_ n k))), (13, .agg [vStr ⟨#[114]⟩, vStr ⟨#[119]⟩, vStr ⟨#[108]⟩]), (14, vInt k)]) (fun k => σ) 0 ?_ ?_ ?_ ?_
    · exact Nat.zero_le _
    · exact cv_
    · exact sub_
    rintro k hk
    simp only [ar_, au_]
    refine ab_ ?_
    refine aa_ kr_ ?_
    (refine aL_S rfl rfl v_ ?_)
    refine ac_ ?_
    refine ab_ ?_
    refine ad_ v_ (fun hc5 => ?_) (fun hc5 => ?_)
    · replace hc5 := nm_ hc5
      refine ah_ ?_
      refine ab_ ?_
      refine al_ ?_
      refine ab_ ?_
      have hlk : ([vStr ⟨#[114]⟩, vStr ⟨#[119]⟩, vStr ⟨#[108]⟩] : List AVal)[k]? = some (vStr (B (ltr k))) := by
        match k, (show k < 3 by omega) with
        | 0, _ => rfl
        | 1, _ => rfl
        | 2, _ => rfl
      have htl := h6_ n k
      have hll : (ltr k).length ≤ 1 := by unfold ltr; repeat' split
                                          all_goals simp
      have R := hlk
      refine aa_ kr_ ?_
      iterate 4 (refine aL_S rfl rfl v_ ?_)
      refine ac_ ?_
      refine ab_ ?_
      have R := And.intro q2_ nf_
      refine aa_ kr_ ?_
      iterate 5 (refine aL_S rfl rfl v_ ?_)
      refine ac_ ?_
      refine ad_ v_ (fun hc7 => ?_) (fun hc7 => ?_)
      · replace hc7 := nm_ hc7
        have hcov : ek_ n (k + 1) = ek_ n k ++ ltr k := by rw [ek_, if_pos (by omega)]
        refine aa_ kr_ ?_
        iterate 4 (refine aL_S rfl rfl v_ ?_)
        refine ac_ ?_
        refine aa_ kr_ ?_
        iterate 2 (refine aL_S rfl rfl v_ ?_)
        refine ac_ ?_
        refine aJ_ (ι := Nat) (i := k) (k + 1) ?_ ?_ ?_ ?_
        · omega
        · exact (by omega)
        · have R := hcov; exact cv_
        · exact sub_
      · replace hc7 := nm_ hc7
        have hcov : ek_ n (k + 1) = ek_ n k := by rw [ek_, if_neg (by omega), List.append_nil]
        refine ah_ ?_
        refine aa_ kr_ ?_
        iterate 2 (refine aL_S rfl rfl v_ ?_)
        refine ac_ ?_
        refine aJ_ (ι := Nat) (i := k) (k + 1) ?_ ?_ ?_ ?_
        · omega
        · exact (by omega)
        · have R := hcov; exact cv_
        · exact sub_
    · replace hc5 := nm_ hc5
      refine ax_ ?_
      refine ag_ ?_
      refine ag_ ?_
      refine aq_ ?_
      refine ab_ ?_
      obtain rfl : k = 3 := by omega
      refine aa_ kr_ ?_
      iterate 2 (refine aL_S rfl rfl v_ ?_)
      refine ac_ ?_
      refine am_ ?_
      refine ai_ (σ' := σ) v_ sub_ ?_
      exact ⟨rfl, rfl⟩
theorem n1_ {s : ByteArray} {σ : Store} : ao_ Tryz.prog 189 [vStr s] σ fun v σ' => v = .tup [vInt ((rgtA s).getD 0 : Nat), vB (rgtA s).isSome] ∧ σ = σ' := by
 refine aj_ Tryz.func189 rfl Tryz.ntmps189 (congrArg Array.toList Tryz.results189) (by simp only [List.length_cons, List.length_nil]; decide) ?_; simp only [af_, ak_, Nat.reduceAdd]
 refine ab_ ?_
 refine aa_ kr_ ?_
 iterate 2 (refine aL_S rfl rfl v_ ?_)
 refine ac_ ?_
 refine ab_ ?_
 refine ab_ ?_
 refine aa_ kr_ ?_
 (refine aL_S rfl rfl v_ ?_)
 refine ac_ ?_
 refine al_ ?_
 refine ap_ (ι := Nat) (fun k => 8 - k) (fun k => k ≤ 8 ∧ ∀ j, j < k → decide (txtA j = s) = false) (fun k => [(0, vStr s), (5, vInt k)]) (fun k => σ) 0 ?_ ?_ ?_ ?_
 ·exact ⟨Nat.zero_le _, fun j h => by omega⟩
 ·exact cv_
 ·exact sub_
 rintro k ⟨hk, ha⟩
 simp only [ar_, au_]
 refine ab_ ?_
 refine aa_ kr_ ?_
 (refine aL_S rfl rfl v_ ?_)
 refine ac_ ?_
 refine ab_ ?_
 refine ad_ v_ (fun hc2 => ?_) (fun hc2 => ?_)
 ·replace hc2 := nm_ hc2
  refine ah_ ?_
  refine ab_ ?_
  refine al_ ?_
  refine ab_ ?_
  refine aa_ kr_ ?_
  iterate 2 (refine aL_S rfl rfl v_ ?_)
  refine ac_ ?_
  refine ab_ ?_
  refine aa_ kr_ ?_
  (refine aL_S rfl rfl v_ ?_)
  refine aL_X rfl rfl (ae_ rfl rfl (.inr ⟨rfl, rfl, rfl⟩) g_ va_ (oS_ (by omega)) ?_); rintro _ _ ⟨rfl, rfl⟩
  iterate 2 (refine aL_S rfl rfl v_ ?_)
  refine ac_ ?_
  refine ad_ v_ (fun hc4 => ?_) (fun hc4 => ?_)
  ·replace hc4 := nm_ hc4
   refine ab_ ?_
   refine aa_ kr_ ?_
   iterate 3 (refine aL_S rfl rfl v_ ?_)
   refine ac_ ?_
   refine am_ ?_
   refine ai_ (σ' := σ) v_ sub_ ?_
   have hr : rgtA s = some k := by
    unfold rgtA
    exact gP_ (l := List.range 8) (List.getElem?_range (by omega)) (decide_eq_true hc4) (fun m y hm hy => by rw [List.getElem?_range (by omega)] at hy; obtain rfl := Option.some.inj hy; exact ha m hm)
   exact ⟨by rw [hr]; rfl, rfl⟩
  ·replace hc4 := nm_ hc4
   refine ah_ ?_
   refine aa_ kr_ ?_
   iterate 2 (refine aL_S rfl rfl v_ ?_)
   refine ac_ ?_
   refine aJ_ (ι := Nat) (i := k) (k + 1) ?_ ?_ ?_ ?_
   ·omega
   ·exact ⟨by omega, fun j hj => by rcases Nat.lt_or_eq_of_le (Nat.le_of_lt_succ hj) with h | h; exact ha j h; rw [h]; exact decide_eq_false hc4⟩
   ·exact cv_
   ·exact sub_
 ·replace hc2 := nm_ hc2
  refine ax_ ?_
  refine ag_ ?_
  refine ag_ ?_
  refine aq_ ?_
  refine ab_ ?_
  refine aa_ kr_ ?_
  iterate 2 (refine aL_S rfl rfl v_ ?_)
  refine ac_ ?_
  refine am_ ?_
  refine ai_ (σ' := σ) v_ sub_ ?_
  have hr : rgtA s = none := by
   unfold rgtA
   rw [List.find?_eq_none]
   intro y hy
   rw [ha y (by have := List.mem_range.1 hy; omega)]; simp
  exact ⟨by rw [hr]; rfl, rfl⟩
end Go.Proofs.YtkcmbjodladflaaGreatDoor
end

section
set_option linter.all false
set_option maxRecDepth 100000
namespace Go.Proofs.YtkcmbjodladflaaGreatDoor
open Go.Ab
open Go.MapKept (IsKey)
def cnt (l : List ByteArray) (s : ByteArray) : Nat := l.countP fun x => decide (x = s)
theorem nn_ {l : List ByteArray} {i : Nat} {x s : ByteArray} (hx : l[i]? = some x) : cnt (l.take (i + 1)) s = cnt (l.take i) s + if x = s then 1 else 0 := by
 unfold cnt
 rw [List.take_succ, hx, List.countP_append]
 by_cases h : x = s <;> simp [h]
theorem hw_ (l : List ByteArray) (s : ByteArray) : cnt l s ≤ l.length := List.countP_le_length
def aW_ (o n : List ByteArray) : List Int := n.map fun s => (cnt o s : Int)
def kvC (M : List (ByteArray × Int)) : List (Value × AVal) := M.map fun p => (.string p.1, vInt p.2)
def getC (M : List (ByteArray × Int)) (s : ByteArray) : Int := match M.find? (fun p => decide (p.1 = s)) with | some p => p.2 | none => 0
def putC (M : List (ByteArray × Int)) (s : ByteArray) (n : Int) : List (ByteArray × Int) := match M with
 |[] => [(s, n)]
 |p :: M => if p.1 = s then (s, n) :: M else p :: putC M s n
theorem je_ (M : List (ByteArray × Int)) : ∀ x ∈ kvC M, IsKey .string x.1 := by
 intro x hx
 obtain ⟨p, _, rfl⟩ := List.mem_map.1 hx
 trivial
theorem iu_ (s : ByteArray) (n : Int) : ∀ M, fd_ (.string s) (vInt n) (kvC M) = kvC (putC M s n)
 |[] => rfl
 |p :: M => by
  have ih := iu_ s n M
  unfold kvC at ih ⊢
  unfold putC
  by_cases h : p.1 = s
  ·simp [fd_, fF_, h]
  ·simp only [List.map_cons, fd_, fF_, h, decide_false, Bool.false_eq_true, if_false]
   rw [ih]
theorem i8_ (s t : ByteArray) (n : Int) : ∀ M, getC (putC M s n) t = if s = t then n else getC M t
 |[] => by by_cases h : s = t <;> simp [getC, putC, h]
 |p :: M => by
  have ih := i8_ s t n M
  unfold getC at ih ⊢
  unfold putC
  by_cases h : p.1 = s
  ·rw [if_pos h]
   simp only [List.find?_cons]
   by_cases h2 : s = t
   ·simp [h2]
   ·simp [h2, h]
  ·rw [if_neg h]
   simp only [List.find?_cons]
   by_cases h2 : p.1 = t
   ·have : ¬ s = t := fun hh => h (h2.trans hh.symm)
    simp [h2, this]
   ·simp only [h2, decide_false]
    exact ih
theorem kO_ (s : ByteArray) : ∀ M, cq_ .string (.string s) (kvC M) = some ((M.find? fun p => decide (p.1 = s)).map fun p => vInt p.2)
 |[] => rfl
 |p :: M => by
  have ih := kO_ s M
  unfold kvC at ih ⊢
  rw [List.map_cons, cq_, List.find?_cons]
  simp only [Instr.sameNow]
  by_cases h : p.1 = s
  ·have h' : (s == s) = true := (Go.MapKept.bytes_beq s s).2 rfl
   rw [h, h']
   simp
  ·have h' : (s == p.1) = false := by
    cases hh : (s == p.1) with
    |false => rfl
    |true => exact absurd (((Go.MapKept.bytes_beq _ _).1 hh).symm) h
   rw [h']
   simp only [h, decide_false]
   exact ih
theorem jg_ {σ : Store} {o : Nat} {M : List (ByteArray × Int)} (h : σ.heap o = some (.map (kvC M))) (s : ByteArray) : dA_ Tryz.prog σ 197 (.map o) (.lit (.string s)) false = some (vInt (getC M s)) := by
 have h1 : gg_ σ (.map o) = some (kvC M) := by simp [gg_, h]
 unfold dA_
 simp only [go_sem, h1, eD_, kO_, if_true]
 unfold getC
 cases M.find? (fun p => decide (p.1 = s)) <;> rfl
theorem i0_ {ow : List ByteArray} {i : Nat} {M : List (ByteArray × Int)} {x : ByteArray} (h : ∀ s, getC M s = (cnt (ow.take i) s : Int)) (hx : ow[i]? = some x) : ∀ s, getC (putC M x (getC M x + 1)) s = (cnt (ow.take (i + 1)) s : Int) := by
 intro s
 rw [i8_, nn_ hx]
 by_cases hs : x = s
 ·subst hs
  rw [if_pos rfl, if_pos rfl, h]
  omega
 ·rw [if_neg hs, if_neg hs, h]
  rfl
theorem pP_ {ow nm : List ByteArray} {σ : Store} {to tn : Bool} (ho : ow.length ≤ 1000) (hn : nm.length ≤ 1000) : ao_ Tryz.prog 133 [.sl 1 (ow.map vStr) to, .sl 1 (nm.map vStr) tn] σ fun v σ' => v = .sl 1 ((aW_ ow nm).map vInt) false ∧ σ = σ' := by
 refine aj_ Tryz.func133 rfl Tryz.ntmps133 (congrArg Array.toList Tryz.results133) (by simp only [List.length_cons, List.length_nil]; decide) ?_; simp only [af_, ak_, Nat.reduceAdd]
 refine ab_ ?_
 refine aa_ kr_ ?_
 (refine aL_S rfl rfl v_ ?_)
 refine ac_ ?_
 refine ab_ ?_
 refine aa_ kr_ ?_
 refine aL_X rfl rfl (ea_ rfl fun o11 ho11 => ?_)
 repeat (rw [an_] at ho11; obtain ⟨_, ho11⟩ := ho11)
 (refine aL_S rfl rfl v_ ?_)
 refine ac_ ?_
 refine ab_ ?_
 refine ab_ ?_
 refine aa_ kr_ ?_
 iterate 3 (refine aL_S rfl rfl v_ ?_)
 refine ac_ ?_
 refine al_ ?_
 refine ap_ (ι := Nat × List (ByteArray × Int)) (fun ⟨i, M⟩ => ow.length - i) (fun ⟨i, M⟩ => i ≤ ow.length ∧ ∀ s, getC M s = (cnt (ow.take i) s : Int)) (fun ⟨i, M⟩ => [(1, .sl 1 (nm.map vStr) tn), (5, .map o11), (12, .sl 1 (ow.map vStr) to), (13, vInt ow.length), (14, vInt i)]) (fun ⟨i, M⟩ => (σ.set o11 (.map (kvC M)))) (0, []) ?_ ?_ ?_ ?_
 ·exact ⟨Nat.zero_le _, fun s => rfl⟩
 ·exact cv_
 ·exact Store.Wk.refl _
 rintro ⟨i, M⟩ ⟨h1, h2⟩
 simp only [ar_, au_]
 refine ab_ ?_
 refine aa_ kr_ ?_
 (refine aL_S rfl rfl v_ ?_)
 refine ac_ ?_
 refine ab_ ?_
 refine ad_ v_ (fun hc3 => ?_) (fun hc3 => ?_)
 ·replace hc3 := nm_ hc3
  refine ah_ ?_
  refine ab_ ?_
  refine al_ ?_
  refine ab_ ?_
  have hi : i < ow.length := by omega
  obtain ⟨x, hx⟩ := aA_ hi
  have hl := jg_ (σ := σ.set o11 (.map (kvC M))) (Store.set_get ..) x
  have hb : getC M x ≤ 1000 := by rw [h2]; have := hw_ (ow.take i) x; simp at this; omega
  have hb0 : 0 ≤ getC M x := by rw [h2]; omega
  have R := hx
  refine aa_ kr_ ?_
  iterate 3 (refine aL_S rfl rfl v_ ?_)
  refine ac_ ?_
  have R := hl
  refine aa_ kr_ ?_
  iterate 4 (refine aL_S rfl rfl v_ ?_)
  refine j3_ rfl rfl (cp_ rfl g_ g_ v_ h_ v_ key_ (by exact je_ M) v_ ?_)
  refine ac_ ?_
  rw [iu_, Store.set_set]
  refine aa_ kr_ ?_
  iterate 2 (refine aL_S rfl rfl v_ ?_)
  refine ac_ ?_
  refine aJ_ (ι := Nat × List (ByteArray × Int)) (i := ⟨i, M⟩) (i + 1, putC M x (getC M x + 1)) ?_ ?_ ?_ ?_
  ·show ow.length - (i + 1) < ow.length - i; omega
  ·exact ⟨hi, i0_ h2 hx⟩
  ·exact cv_
  ·exact sub_
 ·replace hc3 := nm_ hc3
  refine ax_ ?_
  refine ag_ ?_
  refine ag_ ?_
  refine aq_ ?_
  refine ab_ ?_
  refine aa_ kr_ ?_
  refine ci_ 3 1 rfl rfl rfl (by rfl) fun k8 hk8 => ?_
  refine ac_ ?_
  refine ab_ ?_
  refine ab_ ?_
  refine aa_ kr_ ?_
  iterate 3 (refine aL_S rfl rfl v_ ?_)
  refine ac_ ?_
  refine al_ ?_
  refine ap_ (ι := Nat × Nat) (fun ⟨j, k⟩ => nm.length - j) (fun ⟨j, k⟩ => j ≤ nm.length ∧ σ.tok k = none) (fun ⟨j, k⟩ => [(5, .map o11), (8, .own k 1 ((aW_ ow (nm.take j)).map vInt)), (23, .sl 1 (nm.map vStr) tn), (24, vInt nm.length), (25, vInt j)]) (fun ⟨j, k⟩ => ((σ.newTok none k (3, 1)).set o11 (.map (kvC M)))) (0, k8) ?_ ?_ ?_ ?_
  ·exact ⟨Nat.zero_le _, hk8⟩
  ·exact cv_
  ·exact Store.Wk.refl _
  rintro ⟨j, k⟩ ⟨h3, h4⟩
  simp only [ar_, au_]
  refine ab_ ?_
  refine aa_ kr_ ?_
  (refine aL_S rfl rfl v_ ?_)
  refine ac_ ?_
  refine ab_ ?_
  refine ad_ v_ (fun hc9 => ?_) (fun hc9 => ?_)
  ·replace hc9 := nm_ hc9
   refine ah_ ?_
   refine ab_ ?_
   refine al_ ?_
   refine ab_ ?_
   have hj : j < nm.length := by omega
   obtain ⟨y, hy⟩ := aA_ hj
   have hl := jg_ (σ := (σ.newTok none k (3, 1)).set o11 (.map (kvC M))) (Store.set_get ..) y
   have hM : getC M y = (cnt ow y : Int) := by rw [h2, List.take_of_length_le (by omega)]
   have hld : aW_ ow (nm.take (j + 1)) = aW_ ow (nm.take j) ++ [(cnt ow y : Int)] := by unfold aW_; rw [List.take_succ, hy, List.map_append]; rfl
   have R := hy
   refine aa_ kr_ ?_
   iterate 3 (refine aL_S rfl rfl v_ ?_)
   refine ac_ ?_
   have R := And.intro hl hM
   refine aa_ kr_ ?_
   iterate 4 (refine aL_S rfl rfl v_ ?_)
   refine aw_ rfl rfl rfl g_ g_ rfl rfl h_ c2_ (by decide) ?_
   refine be_ rfl rfl rfl g_ g_ v_ h_ v_ c_ (by unfold aW_; simp; omega) fun k34 hk34 => ?_
   (refine aL_S rfl rfl v_ ?_)
   refine ac_ ?_
   refine aa_ kr_ ?_
   iterate 2 (refine aL_S rfl rfl v_ ?_)
   refine ac_ ?_
   refine aJ_ (ι := Nat × Nat) (i := ⟨j, k⟩) (j + 1, k34) ?_ ?_ ?_ ?_
   ·show nm.length - (j + 1) < nm.length - j; omega
   ·exact ⟨hj, (a8_ hk34).2⟩
   ·have R := hld; exact cv_
   ·exact sub_
  ·replace hc9 := nm_ hc9
   refine ax_ ?_
   refine ag_ ?_
   refine ag_ ?_
   refine aq_ ?_
   refine ab_ ?_
   obtain rfl : j = nm.length := by omega
   rw [List.take_length]
   refine aa_ kr_ ?_
   iterate 2 (refine aL_S rfl rfl v_ ?_)
   refine ac_ ?_
   refine am_ ?_
   exact a6_ (v := .sl 1 ((aW_ ow nm).map vInt) false) (v' := .own k 1 ((aW_ ow nm).map vInt)) va_ (.own1 _ _ _) sub_ ⟨rfl, rfl⟩
end Go.Proofs.YtkcmbjodladflaaGreatDoor
end

section
set_option linter.all false
set_option maxRecDepth 100000
namespace Go.Proofs.YtkcmbjodladflaaGreatDoor
open Go.Ab
structure HeapI (P : Program) (t : TypeId) (a : AVal) where
 St : Type
 at_ : St → Store → Prop
 len : St → Nat
 less : St → Nat → Nat → Bool
 swap : St → Nat → Nat → St
 small : ∀ s σ, at_ s σ → len s ≤ 1000000
 lenSwap : ∀ s i j, len (swap s i j) = len s
 hLen : ∀ s σ, at_ s σ → AInv P t a "Len" [] σ fun v σ' => v = vInt (len s) ∧ σ = σ'
 hLess : ∀ s σ (i j : Nat), at_ s σ → i < len s → j < len s → AInv P t a "Less" [vInt i, vInt j] σ fun v σ' => v = he_ (less s i j) ∧ σ = σ'
 hSwap : ∀ s σ (i j : Nat), at_ s σ → i < len s → j < len s → AInv P t a "Swap" [vInt i, vInt j] σ fun v σ' => v = .tup [] ∧ at_ (swap s i j) σ'
section
variable {t : TypeId} {a : AVal} (H : HeapI Tryz.prog t a)
def upS (s : H.St) (j : Nat) : H.St := if h : 0 < j then (if H.less s j ((j - 1) / 2) then upS (H.swap s ((j - 1) / 2) j) ((j - 1) / 2) else s) else s
termination_by j
decreasing_by omega
def bE_ (s : H.St) (i n : Nat) : Nat := if 2 * i + 2 < n ∧ H.less s (2 * i + 2) (2 * i + 1) = true then 2 * i + 2 else 2 * i + 1
theorem c6_ (s : H.St) {i n : Nat} (h : 2 * i + 1 < n) : i < bE_ H s i n ∧ bE_ H s i n < n := by unfold bE_; split <;> omega
def b4_ (s : H.St) (i n : Nat) : H.St × Nat :=
 if h : 2 * i + 1 < n then (if H.less s (bE_ H s i n) i then b4_ (H.swap s i (bE_ H s i n)) (bE_ H s i n) n else (s, i)) else (s, i)
termination_by n - i
decreasing_by have := c6_ H s h; omega
def fixS (s : H.St) (i n : Nat) : H.St := if i < (b4_ H s i n).2 then (b4_ H s i n).1 else upS H (b4_ H s i n).1 i
theorem mH_ (s : H.St) (j : Nat) : H.len (upS H s j) = H.len s := by
 induction j using Nat.strongRecOn generalizing s with
 |_ j ih =>
  rw [upS]
  split
  ·split
   ·rw [ih _ (by omega), H.lenSwap]
   ·rfl
  ·rfl
theorem dC_ (s : H.St) (i n : Nat) : H.len (b4_ H s i n).1 = H.len s := by
 generalize hm : n - i = m
 induction m using Nat.strongRecOn generalizing s i with
 |_ m ih =>
  rw [b4_]
  split
  ·rename_i h
   have := c6_ H s h
   split
   ·rw [ih (n - bE_ H s i n) (by omega) _ _ rfl, H.lenSwap]
   ·rfl
  ·rfl
theorem nw_ (s : H.St) (i n : Nat) : H.len (fixS H s i n) = H.len s := by
 unfold fixS
 split
 ·exact dC_ H s i n
 ·rw [mH_, dC_]
theorem HeapI.less_at {H : HeapI Tryz.prog t a} {s : H.St} {σ : Store} {x y : Int} (i j : Nat) (hx : x = i) (hy : y = j) (h : H.at_ s σ) (hi : i < H.len s) (hj : j < H.len s) : AInv Tryz.prog t a "Less" [vInt x, vInt y] σ fun v σ' => v = he_ (H.less s i j) ∧ σ = σ' := by
 subst hx; subst hy; exact H.hLess s σ i j h hi hj
theorem HeapI.swap_at {H : HeapI Tryz.prog t a} {s : H.St} {σ : Store} {x y : Int} (i j : Nat) (hx : x = i) (hy : y = j) (h : H.at_ s σ) (hi : i < H.len s) (hj : j < H.len s) : AInv Tryz.prog t a "Swap" [vInt x, vInt y] σ fun v σ' => v = .tup [] ∧ H.at_ (H.swap s i j) σ' := by
 subst hx; subst hy; exact H.hSwap s σ i j h hi hj
theorem par (j : Nat) : Int.tdiv ((j : Int) - 1) 2 = (((j - 1) / 2 : Nat) : Int) := by
 cases j with
 |zero => rfl
 |succ j =>
  rw [show ((j + 1 : Nat) : Int) - 1 = (j : Int) by omega]
  rfl
theorem rs_ {s : H.St} {j : Nat} {σ : Store} (hat : H.at_ s σ) (hj : j < H.len s) : ao_ Tryz.prog 156 [.iface t a, vInt j] σ fun v σ' => v = .tup [] ∧ H.at_ (upS H s j) σ' := by
 have hsm := H.small s σ hat
 refine aj_ Tryz.func156 rfl Tryz.ntmps156 (congrArg Array.toList Tryz.results156) (by simp only [List.length_cons, List.length_nil]; decide) ?_; simp only [af_, ak_, Nat.reduceAdd]
 refine al_ ?_
 refine ap_ (ι := Store × H.St × Nat) (fun ⟨τ, s', k⟩ => k) (fun ⟨τ, s', k⟩ => H.at_ s' τ ∧ k < H.len s' ∧ H.len s' ≤ 1000000 ∧ upS H s' k = upS H s j) (fun ⟨τ, s', k⟩ => [(0, .iface t a), (1, vInt k)]) (fun ⟨τ, s', k⟩ => τ) (σ, s, j) ?_ ?_ ?_ ?_
 ·exact ⟨hat, hj, hsm, rfl⟩
 ·exact cv_
 ·exact Store.Wk.refl _
 rintro ⟨τ, s', k⟩ ⟨h1, h2, h3, h4⟩
 simp only [ar_, au_]
 refine al_ ?_
 refine ab_ ?_
 have R := And.intro @gG_ par
 refine aa_ kr_ ?_
 iterate 4 (refine aL_S rfl rfl v_ ?_)
 refine ac_ ?_
 refine ab_ ?_
 refine ab_ ?_
 refine aa_ kr_ ?_
 iterate 4 (refine aL_S rfl rfl v_ ?_)
 refine ay_ rfl rfl v_ rfl vg_ ?_
 refine ay_ rfl rfl v_ rfl vg_ ?_
 refine ay_ rfl rfl v_ rfl vg_ ?_
 refine bQ_ rfl rfl v_ rfl (fun hb => bg_ (by rfl) vh_ vh_ (by have hb' := hb; (try simp only [decide_eq_true_eq, decide_eq_false_iff_not, Bool.not_eq_true', Bool.not_eq_false', Bool.and_eq_true, Bool.or_eq_true, Bool.and_eq_false_iff, Bool.or_eq_false_iff, Bool.not_eq_eq_eq_not, Bool.not_true, Bool.not_false, Int.not_le, Int.not_lt, beq_iff_eq] at hb'); exact (H.hLess s' τ k ((k - 1) / 2) h1 h2 (by omega))) fun _ _ h => h) ?_
 refine ay_ rfl rfl v_ rfl vg_ ?_
 (refine aL_S rfl rfl v_ ?_)
 refine ac_ ?_
 refine ad_ v_ (fun hc1 => ?_) (fun hc1 => ?_)
 ·replace hc1 := nm_ hc1
  refine ax_ ?_
  refine ag_ ?_
  refine ec_ (by decide) ?_
  refine ag_ ?_
  refine aq_ ?_
  refine aP_ (σ' := τ) v_ sub_ ?_
  refine ⟨rfl, ?_⟩
  rw [← h4, upS.eq_1 H s' k]
  by_cases hk0 : 0 < k
  ·rw [dif_pos hk0, if_neg (by rw [hc1.resolve_left (by omega)]; decide)]; exact h1
  ·rw [dif_neg hk0]; exact h1
 ·replace hc1 := nm_ hc1
  have hk0 : 0 < k := by omega
  have hls : H.less s' k ((k - 1) / 2) = true := by simpa using hc1.2
  refine ah_ ?_
  refine ab_ ?_
  refine aa_ kr_ ?_
  iterate 3 (refine aL_S rfl rfl v_ ?_)
  refine aL_X rfl rfl (bg_ rfl va_ va_ (H.hSwap s' τ ((k - 1) / 2) k h1 (by omega) h2) ?_); rintro _ τ2 ⟨rfl, hat2⟩
  refine ac_ ?_
  refine aa_ kr_ ?_
  iterate 2 (refine aL_S rfl rfl v_ ?_)
  refine ac_ ?_
  refine aJ_ (ι := Store × H.St × Nat) (i := ⟨τ, s', k⟩) (τ2, H.swap s' ((k - 1) / 2) k, (k - 1) / 2) ?_ ?_ ?_ ?_
  ·show (k - 1) / 2 < k; omega
  ·exact ⟨hat2, by show (k - 1) / 2 < _; rw [H.lenSwap]; omega, by rw [H.lenSwap]; omega, by rw [← h4, upS.eq_1 H s' k, dif_pos hk0, if_pos hls]⟩
  ·exact cv_
  ·exact Store.Wk.refl _
theorem ev_ {s : H.St} {k n : Nat} (h : 2 * k + 1 < n → H.less s (bE_ H s k n) k = false) : b4_ H s k n = (s, k) := by
 rw [b4_]
 split
 ·rename_i hh
  rw [if_neg (by rw [h hh]; decide)]
 ·rfl
theorem ls_ {s : H.St} {i n : Nat} {σ : Store} (hat : H.at_ s σ) (hn : n ≤ H.len s) (hi : i ≤ 1000000) : ao_ Tryz.prog 157 [.iface t a, vInt i, vInt n] σ fun v σ' => v = he_ (decide (i < (b4_ H s i n).2)) ∧ H.at_ (b4_ H s i n).1 σ' := by
 have hsm := H.small s σ hat
 refine aj_ Tryz.func157 rfl Tryz.ntmps157 (congrArg Array.toList Tryz.results157) (by simp only [List.length_cons, List.length_nil]; decide) ?_; simp only [af_, ak_, Nat.reduceAdd]
 refine ab_ ?_
 refine aa_ kr_ ?_
 (refine aL_S rfl rfl v_ ?_)
 refine ac_ ?_
 refine ab_ ?_
 refine aa_ kr_ ?_
 iterate 2 (refine aL_S rfl rfl v_ ?_)
 refine ac_ ?_
 refine ab_ ?_
 refine al_ ?_
 refine ap_ (ι := Store × H.St × Nat) (fun ⟨τ, s', k⟩ => n - k) (fun ⟨τ, s', k⟩ => H.at_ s' τ ∧ n ≤ H.len s' ∧ H.len s' ≤ 1000000 ∧ k ≤ 1000000 ∧ b4_ H s' k n = b4_ H s i n) (fun ⟨τ, s', k⟩ => [(0, .iface t a), (1, vInt i), (2, vInt n), (7, vInt k)]) (fun ⟨τ, s', k⟩ => τ) (σ, s, i) ?_ ?_ ?_ ?_
 ·exact ⟨hat, hn, hsm, hi, rfl⟩
 ·exact cv_
 ·exact Store.Wk.refl _
 rintro ⟨τ, s', k⟩ ⟨h1, h2, h3, h4, h5⟩
 simp only [ar_, au_]
 refine al_ ?_
 refine ab_ ?_
 refine aa_ kr_ ?_
 iterate 4 (refine aL_S rfl rfl v_ ?_)
 refine ac_ ?_
 refine ab_ ?_
 refine ab_ ?_
 refine aa_ kr_ ?_
 iterate 4 (refine aL_S rfl rfl v_ ?_)
 refine ay_ rfl rfl v_ rfl vg_ ?_
 refine ay_ rfl rfl v_ rfl vg_ ?_
 (refine aL_S rfl rfl v_ ?_)
 refine ac_ ?_
 refine ad_ v_ (fun hc3 => ?_) (fun hc3 => ?_)
 ·replace hc3 := nm_ hc3
  refine ax_ ?_
  refine ag_ ?_
  refine ec_ (by decide) ?_
  refine ag_ ?_
  refine aq_ ?_
  refine ab_ ?_
  refine aa_ kr_ ?_
  iterate 4 (refine aL_S rfl rfl v_ ?_)
  refine ac_ ?_
  refine am_ ?_
  refine ai_ (σ' := τ) v_ sub_ ?_
  rw [← h5, ev_ H (fun hh => absurd hh (by omega))]
  exact ⟨by simp only [he_, AVal.lit.injEq, Value.bool.injEq, decide_eq_decide]; omega, h1⟩
 ·replace hc3 := nm_ hc3
  have hk0 : 2 * k + 1 < n := by omega
  have hbd := c6_ H s' hk0
  refine ah_ ?_
  refine ab_ ?_
  refine aa_ kr_ ?_
  iterate 2 (refine aL_S rfl rfl v_ ?_)
  refine ac_ ?_
  refine bp_ (ι := Int) (fun x => x = ((bE_ H s' k n : Nat) : Int)) (fun x => [(0, .iface t a), (1, vInt i), (2, vInt n), (7, vInt k), (9, vInt x)]) (fun x => τ) ?_ ?_
  ·refine ab_ ?_
   refine aa_ kr_ ?_
   iterate 3 (refine aL_S rfl rfl v_ ?_)
   refine ac_ ?_
   refine ab_ ?_
   refine aa_ kr_ ?_
   iterate 4 (refine aL_S rfl rfl v_ ?_)
   refine aC_ rfl rfl v_ rfl vg_ ?_
   refine aC_ rfl rfl v_ rfl vg_ ?_
   refine aC_ rfl rfl v_ rfl vg_ ?_
   refine b8_ rfl rfl v_ rfl (fun hb => bg_ (by rfl) vh_ vh_ (by have hb' := hb; (try simp only [decide_eq_true_eq, decide_eq_false_iff_not, Bool.not_eq_true', Bool.not_eq_false', Bool.and_eq_true, Bool.or_eq_true, Bool.and_eq_false_iff, Bool.or_eq_false_iff, Bool.not_eq_eq_eq_not, Bool.not_true, Bool.not_false, Int.not_le, Int.not_lt, beq_iff_eq] at hb'); exact (H.less_at (2 * k + 2) (2 * k + 1) (by omega) (by omega) h1 (by omega) (by omega))) fun _ _ h => h) ?_
   (refine aL_S rfl rfl v_ ?_)
   refine ac_ ?_
   refine ad_ v_ (fun hc6 => ?_) (fun hc6 => ?_)
   ·replace hc6 := nm_ hc6
    refine aa_ kr_ ?_
    iterate 2 (refine aL_S rfl rfl v_ ?_)
    refine ac_ ?_
    refine ⟨(2 * (k : Int) + 1 + 1), ?_, ?_, ?_⟩
    ·unfold bE_; rw [if_pos ⟨by omega, hc6.2⟩]; omega
    ·exact cv_
    ·exact Store.Wk.refl _
   ·replace hc6 := nm_ hc6
    refine ah_ ?_
    refine ⟨(2 * (k : Int) + 1), ?_, ?_, ?_⟩
    ·unfold bE_; rw [if_neg (by rintro ⟨hh1, hh2⟩; rcases hc6 with hc6 | hc6; exact absurd hc6 (by omega); exact absurd (hh2.symm.trans hc6) (by decide))]; omega
    ·exact cv_
    ·exact Store.Wk.refl _
  ·rintro x rfl
   simp only [ar_, au_]
   refine ab_ ?_
   refine ab_ ?_
   refine aa_ kr_ ?_
   iterate 3 (refine aL_S rfl rfl v_ ?_)
   refine aL_X rfl rfl (bg_ rfl va_ va_ (H.hLess s' τ (bE_ H s' k n) k h1 (by omega) (by omega)) ?_); rintro _ _ ⟨rfl, rfl⟩
   (refine aL_S rfl rfl v_ ?_)
   refine ac_ ?_
   refine ad_ v_ (fun hc8 => ?_) (fun hc8 => ?_)
   ·replace hc8 := nm_ hc8
    refine ax_ ?_
    refine ag_ ?_
    refine ec_ (by decide) ?_
    refine ag_ ?_
    refine aq_ ?_
    refine ab_ ?_
    refine aa_ kr_ ?_
    iterate 4 (refine aL_S rfl rfl v_ ?_)
    refine ac_ ?_
    refine am_ ?_
    refine ai_ (σ' := τ) v_ sub_ ?_
    rw [← h5, ev_ H (fun _ => hc8)]
    exact ⟨by simp only [he_, AVal.lit.injEq, Value.bool.injEq, decide_eq_decide]; omega, h1⟩
   ·replace hc8 := nm_ hc8
    have hls : H.less s' (bE_ H s' k n) k = true := by simpa using hc8
    refine ah_ ?_
    refine ab_ ?_
    refine aa_ kr_ ?_
    iterate 3 (refine aL_S rfl rfl v_ ?_)
    refine aL_X rfl rfl (bg_ rfl va_ va_ (H.hSwap s' τ k (bE_ H s' k n) h1 (by omega) (by omega)) ?_); rintro _ τ2 ⟨rfl, hat2⟩
    refine ac_ ?_
    refine aa_ kr_ ?_
    iterate 2 (refine aL_S rfl rfl v_ ?_)
    refine ac_ ?_
    refine aJ_ (ι := Store × H.St × Nat) (i := ⟨τ, s', k⟩) (τ2, H.swap s' k (bE_ H s' k n), bE_ H s' k n) ?_ ?_ ?_ ?_
    ·show n - bE_ H s' k n < n - k; omega
    ·exact ⟨hat2, by rw [H.lenSwap]; omega, by rw [H.lenSwap]; omega, by show bE_ H s' k n ≤ _; omega, by rw [← h5, b4_.eq_1 H s' k n, dif_pos hk0, if_pos hls]⟩
    ·exact cv_
    ·exact Store.Wk.refl _
theorem rq_ {s : H.St} {i : Nat} {σ : Store} (hat : H.at_ s σ) (hi : i < H.len s) : ao_ Tryz.prog 112 [.iface t a, vInt i] σ fun v σ' => v = .tup [] ∧ H.at_ (fixS H s i (H.len s)) σ' := by
 have hsm := H.small s σ hat
 refine aj_ Tryz.func112 rfl Tryz.ntmps112 (congrArg Array.toList Tryz.results112) (by simp only [List.length_cons, List.length_nil]; decide) ?_; simp only [af_, ak_, Nat.reduceAdd]
 refine ab_ ?_
 refine aa_ kr_ ?_
 iterate 3 (refine aL_S rfl rfl v_ ?_)
 refine aL_X rfl rfl (bg_ rfl va_ va_ (H.hLen s σ hat) ?_); rintro _ _ ⟨rfl, rfl⟩
 refine aL_X rfl rfl (ae_ rfl rfl (.inr ⟨rfl, rfl, rfl⟩) g_ va_ (ls_ H hat (Nat.le_refl _) (by omega)) ?_); rintro _ τ ⟨rfl, hat2⟩
 (refine aL_S rfl rfl v_ ?_)
 refine ac_ ?_
 refine ad_ v_ (fun hc0 => ?_) (fun hc0 => ?_)
 ·replace hc0 := nm_ hc0
  refine aa_ kr_ ?_
  iterate 2 (refine aL_S rfl rfl v_ ?_)
  refine aL_X rfl rfl (ae_ rfl rfl (.inr ⟨rfl, rfl, rfl⟩) g_ va_ (rs_ H hat2 (by rw [dC_]; exact hi)) ?_); rintro _ τ2 ⟨rfl, hat3⟩
  refine ac_ ?_
  refine aP_ (σ' := τ2) v_ sub_ ?_
  exact ⟨rfl, by unfold fixS; rw [if_neg (by omega)]; exact hat3⟩
 ·replace hc0 := nm_ hc0
  refine ah_ ?_
  refine aP_ (σ' := τ) v_ sub_ ?_
  exact ⟨rfl, by unfold fixS; rw [if_pos (by omega)]; exact hat2⟩
theorem py_ {s : H.St} {x : AVal} {σ : Store} (hp : AInv Tryz.prog t a "Push" [x] σ fun v σ' => v = .tup [] ∧ H.at_ s σ') (h0 : 0 < H.len s) : ao_ Tryz.prog 111 [.iface t a, x] σ fun v σ' => v = .tup [] ∧ H.at_ (upS H s (H.len s - 1)) σ' := by
 refine aj_ Tryz.func111 rfl Tryz.ntmps111 (congrArg Array.toList Tryz.results111) (by simp only [List.length_cons, List.length_nil]; decide) ?_; simp only [af_, ak_, Nat.reduceAdd]
 refine ab_ ?_
 refine aa_ kr_ ?_
 iterate 2 (refine aL_S rfl rfl v_ ?_)
 refine aL_X rfl rfl (bg_ rfl va_ va_ (hp) ?_); rintro _ τ ⟨rfl, hat⟩
 refine ac_ ?_
 have hsm := H.small s τ hat
 have hle : ((H.len s : Nat) : Int) - 1 = ((H.len s - 1 : Nat) : Int) := by omega
 have R := hle
 refine aa_ kr_ ?_
 iterate 2 (refine aL_S rfl rfl v_ ?_)
 refine aL_X rfl rfl (bg_ rfl va_ va_ (H.hLen s τ hat) ?_); rintro _ _ ⟨rfl, rfl⟩
 (refine aL_S rfl rfl v_ ?_)
 refine aL_X rfl rfl (ae_ rfl rfl (.inr ⟨rfl, rfl, rfl⟩) g_ va_ (rs_ H hat (by omega)) ?_); rintro _ τ2 ⟨rfl, hat2⟩
 refine ac_ ?_
 refine aP_ (σ' := τ2) v_ sub_ ?_
 exact ⟨rfl, hat2⟩
theorem rr_ {s : H.St} {σ : Store} {Q : AVal → Store → Prop} (hat : H.at_ s σ) (h0 : 0 < H.len s) (hp : ∀ τ, H.at_ (b4_ H (H.swap s 0 (H.len s - 1)) 0 (H.len s - 1)).1 τ → AInv Tryz.prog t a "Pop" [] τ Q) : ao_ Tryz.prog 113 [.iface t a] σ Q := by
 have hsm := H.small s σ hat
 have hle : ((H.len s : Nat) : Int) - 1 = ((H.len s - 1 : Nat) : Int) := by omega
 refine aj_ Tryz.func113 rfl Tryz.ntmps113 (congrArg Array.toList Tryz.results113) (by simp only [List.length_cons, List.length_nil]; decide) ?_; simp only [af_, ak_, Nat.reduceAdd]
 refine ab_ ?_
 have R := hle
 refine aa_ kr_ ?_
 (refine aL_S rfl rfl v_ ?_)
 refine ac_ ?_
 refine ab_ ?_
 have R := hle
 refine aa_ kr_ ?_
 (refine aL_S rfl rfl v_ ?_)
 refine aL_X rfl rfl (bg_ rfl va_ va_ (H.hLen s σ hat) ?_); rintro _ _ ⟨rfl, rfl⟩
 iterate 2 (refine aL_S rfl rfl v_ ?_)
 refine ac_ ?_
 refine ab_ ?_
 have R := hle
 refine aa_ kr_ ?_
 iterate 2 (refine aL_S rfl rfl v_ ?_)
 refine aL_X rfl rfl (bg_ rfl va_ va_ (H.swap_at 0 (H.len s - 1) rfl rfl hat h0 (by omega)) ?_); rintro _ τ ⟨rfl, hat2⟩
 refine ac_ ?_
 refine ab_ ?_
 have R := hle
 refine aa_ kr_ ?_
 iterate 2 (refine aL_S rfl rfl v_ ?_)
 refine aL_X rfl rfl (ae_ rfl rfl (.inr ⟨rfl, rfl, rfl⟩) g_ va_ (ls_ H (i := 0) hat2 (by rw [H.lenSwap]; omega) (by omega)) ?_); rintro _ τ2 ⟨rfl, hat3⟩
 refine ac_ ?_
 refine ab_ ?_
 have R := hle
 refine aa_ kr_ ?_
 (refine aL_S rfl rfl v_ ?_)
 refine aL_X rfl rfl (bg_ rfl va_ va_ (hp τ2 hat3) ?_); rintro _ τ3 hq
 (refine aL_S rfl rfl v_ ?_)
 refine ac_ ?_
 refine am_ ?_
 refine ai_ (σ' := τ3) v_ sub_ ?_
 exact hq
end
end Go.Proofs.YtkcmbjodladflaaGreatDoor
end

section
set_option linter.all false
namespace Go.Proofs.YtkcmbjodladflaaGreatDoor
open Go.Ab
structure HeapOrd {P : Program} {t : TypeId} {a : AVal} (St : Type) (len : St → Nat) (less : St → Nat → Nat → Bool) (swap : St → Nat → Nat → St) where
 α : Type
 get : St → Nat → α
 lt : α → α → Bool
 hless : ∀ s i j, i < len s → j < len s → less s i j = lt (get s i) (get s j)
 hswap : ∀ s i j k, i < len s → j < len s → get (swap s i j) k = if k = i then get s j else if k = j then get s i else get s k
 trans : ∀ x y z, lt y x = false → lt z y = false → lt z x = false
 asym : ∀ x y, lt x y = true → lt y x = false
section
variable {t : TypeId} {a : AVal} {H : HeapI Tryz.prog t a} (O : HeapOrd (P := Tryz.prog) (t := t) (a := a) H.St H.len H.less H.swap)
def j2_ (s : H.St) (n : Nat) : Prop := ∀ k, 0 < k → k < n → O.lt (O.get s k) (O.get s ((k - 1) / 2)) = false
def cQ_ (s : H.St) (n i : Nat) : Prop :=
 (∀ k, 0 < k → k < n → k ≠ i → (k - 1) / 2 ≠ i → O.lt (O.get s k) (O.get s ((k - 1) / 2)) = false) ∧
 ∀ c, 0 < c → c < n → (c - 1) / 2 = i → 0 < i → O.lt (O.get s c) (O.get s ((i - 1) / 2)) = false
def iQ_ (s : H.St) (n i : Nat) : Prop := ∀ c, 0 < c → c < n → (c - 1) / 2 = i → O.lt (O.get s c) (O.get s i) = false
theorem dl_ {s : H.St} {n i : Nat} (h : cQ_ O s n i) (hk : iQ_ O s n i) (hp : 0 < i → i < n → O.lt (O.get s i) (O.get s ((i - 1) / 2)) = false) : j2_ O s n := by
 intro k h0 hn
 by_cases h1 : k = i
 ·subst h1; exact hp h0 hn
 ·by_cases h2 : (k - 1) / 2 = i
  ·rw [h2]; exact hk k h0 hn h2
  ·exact h.1 k h0 hn h1 h2
theorem mJ_ {n : Nat} : ∀ (j : Nat) (s : H.St), n ≤ H.len s → j < n → cQ_ O s n j → iQ_ O s n j → j2_ O (upS H s j) n := by
 intro j
 induction j using Nat.strongRecOn with
 |_ j ih =>
  intro s hn hj hb hk
  rw [upS]
  by_cases h0 : 0 < j
  ·rw [dif_pos h0]
   have hp : (j - 1) / 2 < j := by omega
   have hl := O.hless s j ((j - 1) / 2) (by omega) (by omega)
   by_cases hls : H.less s j ((j - 1) / 2) = true
   ·rw [if_pos hls]
    rw [hl] at hls
    have hg := fun k => O.hswap s ((j - 1) / 2) j k (by omega) (by omega)
    have hpar : ∀ k, 0 < k → k < n → k ≠ j → (k - 1) / 2 = (j - 1) / 2 → O.lt (O.get s k) (O.get s ((j - 1) / 2)) = false := by
     intro k h1 h2 h3 h4
     have := hb.1 k h1 h2 h3 (by omega)
     rwa [h4] at this
    refine ih ((j - 1) / 2) hp _ (by rw [H.lenSwap]; exact hn) (by omega) ⟨fun k h1 h2 h3 h4 => ?_, fun c h1 h2 h3 h4 => ?_⟩ fun c h1 h2 h3 => ?_
    ·rw [hg, hg, if_neg h3]
     by_cases h5 : (k - 1) / 2 = j
     ·rw [if_neg (by omega), if_neg (by omega), if_pos h5]
      exact hb.2 k h1 h2 h5 h0
     ·by_cases h6 : k = j
      ·subst h6; exact absurd rfl h4
      ·rw [if_neg h6, if_neg h4, if_neg h5]
       exact hb.1 k h1 h2 h6 h5
    ·have hpp : O.lt (O.get s ((j - 1) / 2)) (O.get s (((j - 1) / 2 - 1) / 2)) = false := hb.1 _ h4 (by omega) (by omega) (by omega)
     have e1 := hg c
     have e2 := hg (((j - 1) / 2 - 1) / 2)
     rw [if_neg (by omega)] at e1
     rw [if_neg (by omega), if_neg (by omega)] at e2
     rw [e1, e2]
     by_cases h6 : c = j
     ·rw [if_pos h6]; exact hpp
     ·rw [if_neg h6]
      exact O.trans _ _ _ hpp (hpar c h1 h2 h6 h3)
    ·rw [hg, hg, if_neg (by omega), if_pos rfl]
     by_cases h6 : c = j
     ·rw [if_pos h6]; exact O.asym _ _ hls
     ·rw [if_neg h6]
      exact O.trans _ _ _ (O.asym _ _ hls) (hpar c h1 h2 h6 h3)
   ·rw [if_neg hls]
    exact dl_ O hb hk fun _ _ => by rw [← hl]; simpa using hls
  ·rw [dif_neg h0]
   exact dl_ O hb hk fun h _ => absurd h h0
theorem ii_ {s : H.St} {i n : Nat} (hn : n ≤ H.len s) (h : 2 * i + 1 < n) {c : Nat} (h1 : 0 < c) (h2 : c < n) (h3 : (c - 1) / 2 = i) : O.lt (O.get s c) (O.get s (bE_ H s i n)) = false := by
 have irr : ∀ x, O.lt x x = false := fun x => by
  cases hx : O.lt x x with
  |false => rfl
  |true => have := O.asym x x hx; rw [hx] at this; cases this
 unfold bE_
 by_cases hh : 2 * i + 2 < n ∧ H.less s (2 * i + 2) (2 * i + 1) = true
 ·rw [if_pos hh]
  have hl := hh.2
  rw [O.hless _ _ _ (by omega) (by omega)] at hl
  have hc : c = 2 * i + 1 ∨ c = 2 * i + 2 := by omega
  rcases hc with rfl | rfl
  ·exact O.asym _ _ hl
  ·exact irr _
 ·rw [if_neg hh]
  have hc : c = 2 * i + 1 ∨ c = 2 * i + 2 := by omega
  rcases hc with rfl | rfl
  ·exact irr _
  ·have : H.less s (2 * i + 2) (2 * i + 1) ≠ true := fun hx => hh ⟨h2, hx⟩
   rw [O.hless _ _ _ (by omega) (by omega)] at this
   simpa using this
theorem hz_ {n : Nat} : ∀ (m i : Nat) (s : H.St), n - i = m → n ≤ H.len s → cQ_ O s n i →
  (b4_ H s i n = (s, i) ∧ iQ_ O s n i) ∨ (i < (b4_ H s i n).2 ∧ j2_ O (b4_ H s i n).1 n) := by
 intro m
 induction m using Nat.strongRecOn with
 |_ m ih =>
  intro i s hm hn hb
  by_cases h : 2 * i + 1 < n
  ·have hbd := c6_ H s h
   have hleast := fun c h1 h2 h3 => ii_ O hn h (c := c) h1 h2 h3
   have hpc : (bE_ H s i n - 1) / 2 = i := by unfold bE_; split <;> omega
   generalize hcd : bE_ H s i n = c at hbd hleast hpc
   have hl := O.hless s c i (by omega) (by omega)
   by_cases hls : H.less s c i = true
   ·right
    have e : b4_ H s i n = b4_ H (H.swap s i c) c n := by rw [b4_.eq_1 H s i n, dif_pos h, hcd, if_pos hls]
    rw [e]
    rw [hl] at hls
    have hg := fun k => O.hswap s i c k (by omega) (by omega)
    have hb' : cQ_ O (H.swap s i c) n c := by
     refine ⟨fun k h1 h2 h3 h4 => ?_, fun d h1 h2 h3 h4 => ?_⟩
     ·rw [hg, hg]
      by_cases h5 : k = i
      ·subst h5
       rw [if_pos rfl, if_neg (by omega), if_neg (by omega)]
       exact hb.2 c (by omega) hbd.2 hpc h1
      ·rw [if_neg h5, if_neg h3]
       by_cases h6 : (k - 1) / 2 = i
       ·rw [if_pos h6]; exact hleast k h1 h2 h6
       ·rw [if_neg h6, if_neg h4]; exact hb.1 k h1 h2 h5 h6
     ·rw [hg, hg, hpc, if_neg (by omega), if_neg (by omega), if_pos rfl]
      have := hb.1 d h1 h2 (by omega) (by omega)
      rwa [h3] at this
    have hup : O.lt (O.get (H.swap s i c) c) (O.get (H.swap s i c) ((c - 1) / 2)) = false := by
     rw [hpc, hg, hg, if_neg (by omega), if_pos rfl, if_pos rfl]
     exact O.asym _ _ hls
    rcases ih (n - c) (by omega) c (H.swap s i c) rfl (by rw [H.lenSwap]; exact hn) hb' with ⟨h1, h2⟩ | ⟨h1, h2⟩
    ·rw [h1]
     exact ⟨hbd.1, dl_ O hb' h2 fun _ _ => hup⟩
    ·exact ⟨by omega, h2⟩
   ·left
    have hls' : H.less s c i = false := by simpa using hls
    refine ⟨ev_ H (fun _ => by rw [hcd]; exact hls'), fun d h1 h2 h3 => ?_⟩
    rw [hl] at hls'
    exact O.trans _ _ _ hls' (hleast d h1 h2 h3)
  ·left
   exact ⟨ev_ H (fun hh => absurd hh h), fun c h1 h2 h3 => by omega⟩
theorem nx_ {n i : Nat} {s : H.St} (hn : n ≤ H.len s) (hi : i < n) (hb : cQ_ O s n i) : j2_ O (fixS H s i n) n := by
 unfold fixS
 rcases hz_ O (n - i) i s rfl hn hb with ⟨h1, h2⟩ | ⟨h1, h2⟩
 ·rw [h1, if_neg (Nat.lt_irrefl i)]
  exact mJ_ O i s hn hi hb h2
 ·rw [if_pos h1]; exact h2
theorem nC_ {n : Nat} {s : H.St} (h : j2_ O s n) : ∀ k, k < n → 0 < n → O.lt (O.get s k) (O.get s 0) = false := by
 intro k
 induction k using Nat.strongRecOn with
 |_ k ih =>
  intro hk hn
  by_cases h0 : 0 < k
  ·exact O.trans _ _ _ (ih ((k - 1) / 2) (by omega) (by omega) hn) (h k h0 hk)
  ·obtain rfl : k = 0 := by omega
   cases hx : O.lt (O.get s 0) (O.get s 0) with
   |false => rfl
   |true => have := O.asym _ _ hx; rw [hx] at this; cases this
theorem jR_ {p : H.St → Prop} (hp : ∀ s i j, i < H.len s → j < H.len s → p s → p (H.swap s i j)) : ∀ (j : Nat) (s : H.St), j < H.len s → p s → p (upS H s j) := by
 intro j
 induction j using Nat.strongRecOn with
 |_ j ih =>
  intro s hj h
  rw [upS]
  split
  ·split
   ·exact ih _ (by omega) _ (by rw [H.lenSwap]; omega) (hp _ _ _ (by omega) hj h)
   ·exact h
  ·exact h
theorem gk_ {p : H.St → Prop} (hp : ∀ s i j, i < H.len s → j < H.len s → p s → p (H.swap s i j)) {n : Nat} : ∀ (m i : Nat) (s : H.St), n - i = m → n ≤ H.len s → p s → p (b4_ H s i n).1 := by
 intro m
 induction m using Nat.strongRecOn with
 |_ m ih =>
  intro i s hm hn h
  rw [b4_]
  split
  ·rename_i hh
   have := c6_ H s hh
   split
   ·exact ih (n - bE_ H s i n) (by omega) _ _ rfl (by rw [H.lenSwap]; exact hn) (hp _ _ _ (by omega) (by omega) h)
   ·exact h
  ·exact h
theorem lj_ {p : H.St → Prop} (hp : ∀ s i j, i < H.len s → j < H.len s → p s → p (H.swap s i j)) {n i : Nat} {s : H.St} (hn : n ≤ H.len s) (hi : i < H.len s) (h : p s) : p (fixS H s i n) := by
 unfold fixS
 have := gk_ hp (n - i) i s rfl hn h
 split
 ·exact this
 ·exact jR_ hp i _ (by rw [dC_]; exact hi) this
theorem k9_ {n : Nat} : ∀ (d i : Nat) (s : H.St) (m : Nat), n - i = d → n ≤ H.len s → n ≤ m → O.get (b4_ H s i n).1 m = O.get s m := by
 intro d
 induction d using Nat.strongRecOn with
 |_ d ih =>
  intro i s m hd hn hm
  rw [b4_]
  split
  ·rename_i hh
   have := c6_ H s hh
   split
   ·rw [ih (n - bE_ H s i n) (by omega) _ _ m rfl (by rw [H.lenSwap]; exact hn) hm, O.hswap _ _ _ _ (by omega) (by omega), if_neg (by omega), if_neg (by omega)]
   ·rfl
  ·rfl
end
end Go.Proofs.YtkcmbjodladflaaGreatDoor
end

section
set_option linter.all false
set_option maxRecDepth 100000
namespace Go.Proofs.YtkcmbjodladflaaGreatDoor
open Go.Ab
def cmpI (a b : Int) : Int := if a < b then -1 else if b < a then 1 else 0
@[go_sem] theorem zz99 : isGo Tryz.prog 251 = true := by kernel_rfl
theorem lw_ {a : Int} {σ : Store} : ao_ Tryz.prog 251 [vInt a] σ fun v σ' => v = he_ false ∧ σ = σ' := by
 refine aj_ Tryz.func251 rfl Tryz.ntmps251 (congrArg Array.toList Tryz.results251) (by simp only [List.length_cons, List.length_nil]; decide) ?_; simp only [af_, ak_, Nat.reduceAdd]
 refine ab_ ?_
 refine aa_ kr_ ?_
 (refine aL_S rfl rfl v_ ?_)
 refine ac_ ?_
 refine ab_ ?_
 refine aa_ kr_ ?_
 iterate 4 (refine aL_S rfl rfl v_ ?_)
 refine ac_ ?_
 refine am_ ?_
 refine ai_ (σ' := σ) v_ sub_ ?_
 exact ⟨rfl, rfl⟩
theorem rb_ {a b : Int} {σ : Store} : ao_ Tryz.prog 229 [vInt a, vInt b] σ fun v σ' => v = vInt (cmpI a b) ∧ σ = σ' := by
 refine aj_ Tryz.func229 rfl Tryz.ntmps229 (congrArg Array.toList Tryz.results229) (by simp only [List.length_cons, List.length_nil]; decide) ?_; simp only [af_, ak_, Nat.reduceAdd]
 refine ab_ ?_
 refine aa_ kr_ ?_
 (refine aL_S rfl rfl v_ ?_)
 refine ac_ ?_
 refine ab_ ?_
 refine aa_ kr_ ?_
 (refine aL_S rfl rfl v_ ?_)
 refine aL_X rfl rfl (ae_ rfl rfl (.inr ⟨rfl, rfl, rfl⟩) g_ va_ (lw_) ?_); rintro _ _ ⟨rfl, rfl⟩
 (refine aL_S rfl rfl v_ ?_)
 refine ac_ ?_
 refine ab_ ?_
 refine aa_ kr_ ?_
 (refine aL_S rfl rfl v_ ?_)
 refine aL_X rfl rfl (ae_ rfl rfl (.inr ⟨rfl, rfl, rfl⟩) g_ va_ (lw_) ?_); rintro _ _ ⟨rfl, rfl⟩
 (refine aL_S rfl rfl v_ ?_)
 refine ac_ ?_
 refine ab_ ?_
 refine ab_ ?_
 refine aa_ kr_ ?_
 (refine aL_S rfl rfl v_ ?_)
 refine ac_ ?_
 refine ad_ v_ (fun hc3 => ?_) (fun hc3 => ?_)
 ·replace hc3 := nm_ hc3
  cases hc3
 ·replace hc3 := nm_ hc3
  refine ah_ ?_
  refine ab_ ?_
  refine ab_ ?_
  refine aa_ kr_ ?_
  (refine aL_S rfl rfl v_ ?_)
  refine ac_ ?_
  refine ad_ v_ (fun hc7 => ?_) (fun hc7 => ?_)
  ·replace hc7 := nm_ hc7
   cases hc7
  ·replace hc7 := nm_ hc7
   refine ah_ ?_
   refine ab_ ?_
   refine ab_ ?_
   refine aa_ kr_ ?_
   iterate 3 (refine aL_S rfl rfl v_ ?_)
   refine ac_ ?_
   refine ad_ v_ (fun hc9 => ?_) (fun hc9 => ?_)
   ·replace hc9 := nm_ hc9
    refine ab_ ?_
    refine aa_ kr_ ?_
    (refine aL_S rfl rfl v_ ?_)
    refine ac_ ?_
    refine am_ ?_
    refine ai_ (σ' := σ) v_ sub_ ?_
    exact ⟨by unfold cmpI; split <;> (try split) <;> first | rfl | omega, rfl⟩
   ·replace hc9 := nm_ hc9
    refine ah_ ?_
    refine ab_ ?_
    refine ab_ ?_
    refine aa_ kr_ ?_
    iterate 3 (refine aL_S rfl rfl v_ ?_)
    refine ac_ ?_
    refine ad_ v_ (fun hc11 => ?_) (fun hc11 => ?_)
    ·replace hc11 := nm_ hc11
     refine ab_ ?_
     refine aa_ kr_ ?_
     (refine aL_S rfl rfl v_ ?_)
     refine ac_ ?_
     refine am_ ?_
     refine ai_ (σ' := σ) v_ sub_ ?_
     exact ⟨by unfold cmpI; split <;> (try split) <;> first | rfl | omega, rfl⟩
    ·replace hc11 := nm_ hc11
     refine ah_ ?_
     refine ab_ ?_
     refine aa_ kr_ ?_
     (refine aL_S rfl rfl v_ ?_)
     refine ac_ ?_
     refine am_ ?_
     refine ai_ (σ' := σ) v_ sub_ ?_
     exact ⟨by unfold cmpI; split <;> (try split) <;> first | rfl | omega, rfl⟩
def orL : List Int → Int
 |[] => 0
 |x :: l => if x = 0 then orL l else x
theorem or_c {l : List Int} {σ : Store} (hl : l.length ≤ 1000) : ao_ Tryz.prog 228 [.sl 1 (l.map vInt) true] σ fun v σ' => v = vInt (orL l) ∧ σ = σ' := by
 refine aj_ Tryz.func228 rfl Tryz.ntmps228 (congrArg Array.toList Tryz.results228) (by simp only [List.length_cons, List.length_nil]; decide) ?_; simp only [af_, ak_, Nat.reduceAdd]
 refine ab_ ?_
 refine aa_ kr_ ?_
 (refine aL_S rfl rfl v_ ?_)
 refine ac_ ?_
 refine ab_ ?_
 refine aa_ kr_ ?_
 (refine aL_S rfl rfl v_ ?_)
 refine ac_ ?_
 refine ab_ ?_
 refine ab_ ?_
 refine aa_ kr_ ?_
 iterate 3 (refine aL_S rfl rfl v_ ?_)
 refine ac_ ?_
 refine al_ ?_
 refine ap_ (ι := Nat) (fun i => l.length - i) (fun i => i ≤ l.length ∧ orL (l.drop i) = orL l) (fun i => [(3, vInt 0), (6, .sl 1 (l.map vInt) true), (7, vInt l.length), (8, vInt i)]) (fun i => σ) 0 ?_ ?_ ?_ ?_
 ·exact ⟨Nat.zero_le _, rfl⟩
 ·exact cv_
 ·exact sub_
 rintro i ⟨h1, h2⟩
 simp only [ar_, au_]
 refine ab_ ?_
 refine aa_ kr_ ?_
 (refine aL_S rfl rfl v_ ?_)
 refine ac_ ?_
 refine ab_ ?_
 refine ad_ v_ (fun hc3 => ?_) (fun hc3 => ?_)
 ·replace hc3 := nm_ hc3
  refine ah_ ?_
  refine ab_ ?_
  refine al_ ?_
  refine ab_ ?_
  have hi : i < l.length := by omega
  obtain ⟨x, hz⟩ : ∃ x, l[i]? = some x := ⟨l[i], by simp [hi]⟩
  have hd : l.drop i = x :: l.drop (i + 1) := by
   rw [List.drop_eq_getElem_cons hi]
   congr 1
   exact Option.some.inj ((List.getElem?_eq_getElem hi).symm.trans hz)
  have R := hz
  refine aa_ kr_ ?_
  iterate 3 (refine aL_S rfl rfl v_ ?_)
  refine ac_ ?_
  refine ab_ ?_
  refine aa_ kr_ ?_
  iterate 3 (refine aL_S rfl rfl v_ ?_)
  refine ac_ ?_
  refine ad_ v_ (fun hc5 => ?_) (fun hc5 => ?_)
  ·replace hc5 := nm_ hc5
   refine ab_ ?_
   refine aa_ kr_ ?_
   iterate 2 (refine aL_S rfl rfl v_ ?_)
   refine ac_ ?_
   refine am_ ?_
   refine ai_ (σ' := σ) v_ sub_ ?_
   exact ⟨by rw [← h2, hd, orL, if_neg (by simpa using hc5)], rfl⟩
  ·replace hc5 := nm_ hc5
   refine ah_ ?_
   refine aa_ kr_ ?_
   iterate 2 (refine aL_S rfl rfl v_ ?_)
   refine ac_ ?_
   refine aJ_ (ι := Nat) (i := i) (i + 1) ?_ ?_ ?_ ?_
   ·omega
   ·exact ⟨by omega, by rw [← h2, hd, orL, if_pos hc5]⟩
   ·exact cv_
   ·exact sub_
 ·replace hc3 := nm_ hc3
  refine ax_ ?_
  refine ag_ ?_
  refine ag_ ?_
  refine aq_ ?_
  refine ab_ ?_
  refine aa_ kr_ ?_
  iterate 2 (refine aL_S rfl rfl v_ ?_)
  refine ac_ ?_
  refine am_ ?_
  refine ai_ (σ' := σ) v_ sub_ ?_
  exact ⟨by rw [← h2, List.drop_eq_nil_of_le (by omega)]; rfl, rfl⟩
theorem sZ_ {a b : Int} {σ : Store} : ao_ Tryz.prog 228 [.sl 1 [vInt a, vInt b] true] σ fun v σ' => v = vInt (if a = 0 then b else a) ∧ σ = σ' :=
 (or_c (l := [a, b]) (by simp)).mono fun v σ' h => by
  refine ⟨h.1.trans ?_, h.2⟩
  simp only [orL]
  split
  ·split
   ·rename_i h0; rw [h0]
   ·rfl
  ·rfl
end Go.Proofs.YtkcmbjodladflaaGreatDoor
end

section
set_option linter.all false
set_option maxRecDepth 100000
namespace Go.Proofs.YtkcmbjodladflaaGreatDoor
open Go.Ab
open Go.MapKept (IsKey)
theorem pQ_ {ow nm : List ByteArray} {σ : Store} {to tn : Bool} (ho : ow.length ≤ 1000) (hn : nm.length ≤ 1000) : ao_ Tryz.prog 133 [.sl 1 (ow.map vStr) to, .sl 1 (nm.map vStr) tn] σ fun v σ' => v = .sl 1 ((aW_ ow nm).map vInt) false ∧ Fr σ [] σ' [] :=
 (pP_ ho hn).mono fun v σ' ⟨h1, h2⟩ => ⟨h1, h2 ▸ Fr.refl σ []⟩
def idxI (l : List ByteArray) (s : ByteArray) : Int := match l.findIdx? (fun x => decide (x = s)) with | some k => (k : Int) | none => -1
theorem ja_ {l : List ByteArray} {s : ByteArray} (h : ∀ (k : Nat) x, l[k]? = some x → x ≠ s) : idxI l s = -1 := by
 unfold idxI
 rw [List.findIdx?_eq_none_iff.2 fun x hx => by
  obtain ⟨k, hk, rfl⟩ := List.getElem_of_mem hx
  simpa using h k _ (List.getElem?_eq_getElem hk)]
theorem nE_ {l : List ByteArray} {s : ByteArray} {i : Nat} (hi : l[i]? = some s) (h : ∀ (k : Nat) x, k < i → l[k]? = some x → x ≠ s) : idxI l s = i := by
 unfold idxI
 obtain ⟨hlt, he⟩ := List.getElem?_eq_some_iff.1 hi
 rw [List.findIdx?_eq_some_iff_getElem.2 ⟨hlt, by simp [he], fun j hj => by simpa using h j _ hj (List.getElem?_eq_getElem (by omega))⟩]
def cw_ (out : List ByteArray) (s : ByteArray) : List ByteArray := if idxI out s < 0 then out ++ [s] else out
def a2_ (l : List ByteArray) : List ByteArray := l.foldl cw_ []
theorem i6_ : ∀ (l out : List ByteArray), (l.foldl cw_ out).length ≤ out.length + l.length
 |[], out => Nat.le_refl _
 |x :: l, out => by
  rw [List.foldl_cons]
  refine Nat.le_trans (i6_ l _) ?_
  unfold cw_
  split <;> simp <;> omega
theorem gY_ (l : List ByteArray) : (a2_ l).length ≤ l.length := by
 have := i6_ l []
 unfold a2_
 simpa using this
end Go.Proofs.YtkcmbjodladflaaGreatDoor
end

section
set_option linter.all false
set_option maxRecDepth 100000
namespace Go.Proofs.YtkcmbjodladflaaGreatDoor
open Go.Ab
structure Sh where
 o : Nat
 nm : ByteArray
 pl : Int
 has : Int
 want : Int
instance : Inhabited Sh := ⟨⟨0, ByteArray.empty, 0, 0, 0⟩⟩
def shC (x : Sh) : AObj := .cells [vStr x.nm, vInt x.pl, vInt x.has, vInt x.want]
def shQ (L : List Sh) : AObj := .cells (L.map fun x => .ref x.o 0)
attribute [go_sem] shC shQ
def ds_ (x y : Sh) : Bool := decide (x.has < y.has ∨ x.has = y.has ∧ x.pl < y.pl)
theorem lF_ (x y : Sh) : decide ((if cmpI x.has y.has = 0 then cmpI x.pl y.pl else cmpI x.has y.has) < 0) = ds_ x y := by
 unfold ds_ cmpI
 rw [decide_eq_decide]
 repeat' split
 all_goals omega
theorem q5_ {oq n : Nat} {σ : Store} : ao_ Tryz.prog 281 [.msl oq 1 0 n] σ fun v σ' => v = vInt n ∧ σ = σ' := by
 refine aj_ Tryz.func281 rfl Tryz.ntmps281 (congrArg Array.toList Tryz.results281) (by simp only [List.length_cons, List.length_nil]; decide) ?_; simp only [af_, ak_, Nat.reduceAdd]
 refine ab_ ?_
 refine aa_ kr_ ?_
 (refine aL_S rfl rfl v_ ?_)
 refine ac_ ?_
 refine ab_ ?_
 refine aa_ kr_ ?_
 iterate 3 (refine aL_S rfl rfl v_ ?_)
 refine ac_ ?_
 refine am_ ?_
 refine ai_ (σ' := σ) v_ sub_ ?_
 exact ⟨rfl, rfl⟩
theorem nj_ {σ : Store} : ao_ Tryz.prog 281 [.lit (.slice none 0 0)] σ fun v σ' => v = vInt 0 ∧ σ = σ' := by
 refine aj_ Tryz.func281 rfl Tryz.ntmps281 (congrArg Array.toList Tryz.results281) (by simp only [List.length_cons, List.length_nil]; decide) ?_; simp only [af_, ak_, Nat.reduceAdd]
 refine ab_ ?_
 refine aa_ kr_ ?_
 (refine aL_S rfl rfl v_ ?_)
 refine ac_ ?_
 refine ab_ ?_
 refine aa_ kr_ ?_
 iterate 3 (refine aL_S rfl rfl v_ ?_)
 refine ac_ ?_
 refine am_ ?_
 refine ai_ (σ' := σ) v_ sub_ ?_
 exact ⟨rfl, rfl⟩
theorem pg_ {oq i k : Nat} {L : List Sh} {x y : Sh} {σ : Store} (hq : σ.heap oq = some (shQ L)) (hx : L[i]? = some x) (hy : L[k]? = some y) (hex : σ.heap x.o = some (shC x)) (hey : σ.heap y.o = some (shC y)) :
  ao_ Tryz.prog 282 [.msl oq 1 0 L.length, vInt i, vInt k] σ fun v σ' => v = he_ (ds_ x y) ∧ σ = σ' := by
 have hi : i < L.length := (List.getElem?_eq_some_iff.1 hx).1
 have hk : k < L.length := (List.getElem?_eq_some_iff.1 hy).1
 refine aj_ Tryz.func282 rfl Tryz.ntmps282 (congrArg Array.toList Tryz.results282) (by simp only [List.length_cons, List.length_nil]; decide) ?_; simp only [af_, ak_, Nat.reduceAdd]
 refine ab_ ?_
 have R := And.intro hx (And.intro hy (And.intro hex (And.intro hey hq)))
 refine aa_ kr_ ?_
 (refine aL_S rfl rfl v_ ?_)
 refine ac_ ?_
 refine ab_ ?_
 have R := And.intro hx (And.intro hy (And.intro hex (And.intro hey hq)))
 refine aG_ (.op 0 0 (.op 1 0 (.op 2 0 (.op 3 0 (.op 4 0 (.op 5 0 (.op 6 0 (.op 7 0 (.op 8 0 (.op 9 0 (.op 10 0 (.op 11 0 (.op 12 0 (.op 13 0 (.op 15 0 (.op 16 0 (.op 17 0 (.op 18 0 (.op 19 0 (.op 20 0 (.op 21 0 (.op 22 0 (.op 23 0 (.op 24 0 (.op 25 0 (.op 26 0 (.op 27 0 (.op 28 0 (.op 14 1 (.op 29 1 (.op 30 1 (.op 31 1 (.op 32 0 (.op 33 0 .nil)))))))))))))))))))))))))))))))))) Tryz.mixed kr_ ?_
 iterate 28 (refine dR_S o_ (by rfl) (by rfl) v_ ?_)
 refine dR_X o_ (by rfl) (by rfl) (ae_ (by rfl) (by rfl) (.inr ⟨by rfl, by rfl, by rfl⟩) g_ va_ (rb_) ?_); rintro _ _ ⟨rfl, rfl⟩; refine ⟨sub_, ?_⟩
 refine dR_X o_ (by rfl) (by rfl) (ae_ (by rfl) (by rfl) (.inr ⟨by rfl, by rfl, by rfl⟩) g_ va_ (rb_) ?_); rintro _ _ ⟨rfl, rfl⟩; refine ⟨sub_, ?_⟩
 refine dR_X o_ (by rfl) (by rfl) (aD_ (by rfl) g_ g_ (by rfl) (by rfl) h_ c2_ (by decide) ⟨sub_, ?_⟩)
 refine dR_X o_ (by rfl) (by rfl) (ae_ (by rfl) (by rfl) (.inr ⟨by rfl, by rfl, by rfl⟩) g_ va_ (sZ_) ?_); rintro _ _ ⟨rfl, rfl⟩; refine ⟨sub_, ?_⟩
 iterate 2 (refine dR_S o_ (by rfl) (by rfl) v_ ?_)
 refine aL_ ?_
 refine am_ ?_
 refine ai_ (σ' := σ) v_ sub_ ?_
 exact ⟨by rw [← lF_], rfl⟩
def cd_ (L : List Sh) (i k : Nat) : List Sh := match L[i]?, L[k]? with
 |some x, some y => (L.set i y).set k x
 |_, _ => L
theorem do_ {L : List Sh} {i k : Nat} {x y : Sh} (hx : L[i]? = some x) (hy : L[k]? = some y) : cd_ L i k = (L.set i y).set k x := by simp [cd_, hx, hy]
theorem dK_ {L : List Sh} {i k : Nat} {x y : Sh} (hx : L[i]? = some x) (hy : L[k]? = some y) : ((L.map fun x => AVal.ref x.o 0).set i (.ref y.o 0)).set k (.ref x.o 0) = (cd_ L i k).map fun x => AVal.ref x.o 0 := by
 rw [do_ hx hy, List.map_set, List.map_set]
theorem h5_ {L : List Sh} {i k : Nat} (hi : i < L.length) (hk : k < L.length) (m : Nat) : (cd_ L i k)[m]? = if m = i then L[k]? else if m = k then L[i]? else L[m]? := by
 rw [do_ (List.getElem?_eq_getElem hi) (List.getElem?_eq_getElem hk)]
 simp only [List.getElem?_set, List.length_set]
 by_cases h1 : m = i
 ·subst h1
  rw [if_pos rfl]
  by_cases h2 : k = m
  ·subst h2; rw [if_pos rfl, if_pos hi]; simp [hi]
  ·rw [if_neg h2, if_pos rfl, if_pos hi]; simp [hk]
 ·rw [if_neg h1]
  by_cases h2 : m = k
  ·subst h2; rw [if_pos rfl, if_pos hk, if_pos rfl]; simp [hi]
  ·rw [if_neg (Ne.symm h2), if_neg (Ne.symm h1), if_neg h2]
theorem cO_ (L : List Sh) (i k : Nat) : (cd_ L i k).length = L.length := by unfold cd_; split <;> simp
theorem ce_ (L : List Sh) (i k : Nat) : (cd_ L i k).Perm L := by
 unfold cd_
 split
 ·rename_i x y hx hy
  obtain ⟨hi, rfl⟩ := List.getElem?_eq_some_iff.1 hx
  obtain ⟨hk, rfl⟩ := List.getElem?_eq_some_iff.1 hy
  exact List.set_set_perm hi hk
 ·exact .refl _
theorem nM_ {σ : Store} {oq : Nat} {L : List Sh} {x : Sh} (hq : σ.heap oq = some (shQ L)) (hex : σ.heap x.o = some (shC x)) : x.o ≠ oq := by
 intro h
 rw [h, hq] at hex
 cases L with
 |nil => simp [shQ, shC] at hex
 |cons a l => simp [shQ, shC] at hex
theorem pi_ {oq i k : Nat} {L : List Sh} {x y : Sh} {σ : Store} (hq : σ.heap oq = some (shQ L)) (hx : L[i]? = some x) (hy : L[k]? = some y) :
  ao_ Tryz.prog 283 [.msl oq 1 0 L.length, vInt i, vInt k] σ fun v σ' => v = .tup [] ∧ σ' = σ.set oq (shQ (cd_ L i k)) := by
 have hi : i < L.length := (List.getElem?_eq_some_iff.1 hx).1
 have hk : k < L.length := (List.getElem?_eq_some_iff.1 hy).1
 refine aj_ Tryz.func283 rfl Tryz.ntmps283 (congrArg Array.toList Tryz.results283) (by simp only [List.length_cons, List.length_nil]; decide) ?_; simp only [af_, ak_, Nat.reduceAdd]
 have R := And.intro hx (And.intro hy hq)
 refine aG_ (.op 0 0 (.op 1 0 (.op 2 0 (.op 3 0 (.op 4 0 (.op 5 0 (.op 6 0 (.op 7 0 (.op 8 0 (.op 9 0 (.op 10 0 (.op 11 0 (.op 12 0 (.op 13 2 (.op 14 0 (.op 15 2 .nil)))))))))))))))) Tryz.mixed kr_ ?_
 iterate 13 (refine dR_S o_ (by rfl) (by rfl) v_ ?_)
 refine aM_ o_ (by rfl) (by rfl) (by rfl) v_ v_ h_ g_ rfl g_ c_ (by rfl) le_ (bs_ le_) ?_
 (refine dR_S o_ (by rfl) (by rfl) v_ ?_)
 refine aM_ o_ (by rfl) (by rfl) (by rfl) v_ v_ h_ g_ rfl g_ c_ (by rfl) le_ (bs_ le_) ?_
 refine aL_ ?_
 simp only [Store.set_set, dK_ hx hy]
 refine aP_ (σ' := σ.set oq (shQ (cd_ L i k))) v_ sub_ ?_
 exact ⟨rfl, rfl⟩
theorem k2_ {T e : Nat} {σ : Store} (hT : σ.heap T = some (.cells [.lit (.slice none 0 0)])) :
  ao_ Tryz.prog 285 [.ref T 0, .iface 129 (.ref e 0)] σ fun v σ' => v = .tup [] ∧ ∃ o', σ.heap o' = none ∧ σ' = (σ.set o' (.cells [.ref e 0])).set T (.cells [.msl o' 1 0 1]) := by
 refine aj_ Tryz.func285 rfl Tryz.ntmps285 (congrArg Array.toList Tryz.results285) (by simp only [List.length_cons, List.length_nil]; decide) ?_; simp only [af_, ak_, Nat.reduceAdd]
 refine ab_ ?_
 have R := hT
 refine aa_ kr_ ?_
 iterate 7 (refine aL_S rfl rfl v_ ?_)
 refine ac_ ?_
 refine ab_ ?_
 have R := hT
 refine aa_ kr_ ?_
 (refine aL_S rfl rfl v_ ?_)
 refine ac_ ?_
 refine ad_ v_ (fun hc1 => ?_) (fun hc1 => ?_)
 ·replace hc1 := nm_ hc1
  have R := hT
  refine aa_ kr_ ?_
  iterate 5 (refine aL_S rfl rfl v_ ?_)
  refine aw_ rfl rfl rfl g_ g_ rfl rfl h_ c2_ (by decide) ?_
  refine aL_X rfl rfl (bX_ rfl g_ g_ (.inr ⟨va_, rfl, rfl, rfl⟩) v_ ne_ c_ (by simp) fun o18 ho18 => ?_)
  repeat (rw [an_] at ho18; obtain ⟨_, ho18⟩ := ho18)
  have hoT : T ≠ o18 := aT_ hT ho18
  (refine aL_S rfl rfl v_ ?_)
  refine av_ rfl rfl rfl v_ v_ h_ g_ rfl g_ c_ (by rfl) le_ v_ ?_
  refine ac_ ?_
  refine aP_ (σ' := (σ.set o18 (.cells [.ref e 0])).set T (.cells [.msl o18 1 0 1])) v_ sub_ ?_
  exact ⟨rfl, o18, ho18, rfl⟩
 ·replace hc1 := nm_ hc1
  cases hc1
theorem ph_ {T e oq : Nat} {L : List Sh} {σ : Store} (hT : σ.heap T = some (.cells [.msl oq 1 0 L.length])) (hq : σ.heap oq = some (shQ L)) (hTq : T ≠ oq) (hL : L.length ≤ 1000) :
  ao_ Tryz.prog 285 [.ref T 0, .iface 129 (.ref e 0)] σ fun v σ' => v = .tup [] ∧ ∃ o', σ.heap o' = none ∧ σ' = ((σ.del oq).set o' (.cells ((L.map fun x => AVal.ref x.o 0) ++ [.ref e 0]))).set T (.cells [.msl o' 1 0 (L.length + 1)]) := by
 refine aj_ Tryz.func285 rfl Tryz.ntmps285 (congrArg Array.toList Tryz.results285) (by simp only [List.length_cons, List.length_nil]; decide) ?_; simp only [af_, ak_, Nat.reduceAdd]
 refine ab_ ?_
 have R := And.intro hT hq
 refine aa_ kr_ ?_
 iterate 7 (refine aL_S rfl rfl v_ ?_)
 refine ac_ ?_
 refine ab_ ?_
 have R := And.intro hT hq
 refine aa_ kr_ ?_
 (refine aL_S rfl rfl v_ ?_)
 refine ac_ ?_
 refine ad_ v_ (fun hc1 => ?_) (fun hc1 => ?_)
 ·replace hc1 := nm_ hc1
  have R := And.intro hT hq
  refine aa_ kr_ ?_
  iterate 5 (refine aL_S rfl rfl v_ ?_)
  refine aw_ rfl rfl rfl g_ g_ rfl rfl h_ c2_ (by decide) ?_
  refine aL_X rfl rfl (bX_ rfl g_ g_ (.inl ⟨_, _, v_, h_, rfl, rfl, by first | (simp; done) | (simp; omega)⟩) v_ ne_ c_ (by simp; omega) fun o18 ho18 => ?_)
  repeat (rw [an_] at ho18; obtain ⟨_, ho18⟩ := ho18)
  have hoT : T ≠ o18 := aT_ hT ho18
  have hst : List.take (L.length * 1) (L.map fun x => AVal.ref x.o 0) ++ flat [AVal.ref e 0] = (L.map fun x => AVal.ref x.o 0) ++ [.ref e 0] := by simp [flat, AVal.cells, List.take_of_length_le]
  rw [hst]
  simp only [Store.delO]
  (refine aL_S rfl rfl v_ ?_)
  refine av_ rfl rfl rfl v_ v_ h_ g_ rfl g_ c_ (by rfl) le_ v_ ?_
  refine ac_ ?_
  refine aP_ (σ' := ((σ.del oq).set o18 (.cells ((L.map fun x => AVal.ref x.o 0) ++ [.ref e 0]))).set T (.cells [.msl o18 1 0 (L.length + 1)])) v_ sub_ ?_
  exact ⟨rfl, o18, ho18, rfl⟩
 ·replace hc1 := nm_ hc1
  cases hc1
theorem q6_ {T oq : Nat} {x : Sh} {L : List Sh} {σ : Store} (hT : σ.heap T = some (.cells [.msl oq 1 0 (L.length + 1)])) (hq : σ.heap oq = some (shQ (L ++ [x]))) (hTq : T ≠ oq) (hL : L.length ≤ 1000) :
  ao_ Tryz.prog 284 [.ref T 0] σ fun v σ' => v = .iface 129 (.ref x.o 0) ∧ σ' = (σ.set T (.cells [.msl oq 1 0 L.length])).set oq (shQ L) := by
 have hx : ((L.map fun x => AVal.ref x.o 0) ++ [AVal.ref x.o 0])[L.length]? = some (.ref x.o 0) := by simp
 have hle : ((L.length + 1 : Nat) : Int) - 1 = ((L.length : Nat) : Int) := by omega
 refine aj_ Tryz.func284 rfl Tryz.ntmps284 (congrArg Array.toList Tryz.results284) (by simp only [List.length_cons, List.length_nil]; decide) ?_; simp only [af_, ak_, Nat.reduceAdd]
 refine ab_ ?_
 have R := And.intro hT (And.intro hq (And.intro hx (And.intro hle (And.intro hTq ((Ne.symm hTq))))))
 refine aa_ kr_ ?_
 (refine aL_S rfl rfl v_ ?_)
 refine ac_ ?_
 refine ab_ ?_
 have R := And.intro hT (And.intro hq (And.intro hx (And.intro hle (And.intro hTq ((Ne.symm hTq))))))
 refine aa_ kr_ ?_
 iterate 6 (refine aL_S rfl rfl v_ ?_)
 refine ac_ ?_
 refine ab_ ?_
 have R := And.intro hT (And.intro hq (And.intro hx (And.intro hle (And.intro hTq ((Ne.symm hTq))))))
 refine aa_ kr_ ?_
 iterate 7 (refine aL_S rfl rfl v_ ?_)
 refine ac_ ?_
 refine ab_ ?_
 have R := And.intro hT (And.intro hq (And.intro hx (And.intro hle (And.intro hTq ((Ne.symm hTq))))))
 refine aa_ kr_ ?_
 iterate 7 (refine aL_S rfl rfl v_ ?_)
 refine av_ rfl rfl rfl v_ v_ h_ g_ rfl g_ c_ (by rfl) le_ v_ ?_
 refine ac_ ?_
 refine ab_ ?_
 have R := And.intro hT (And.intro hq (And.intro hx (And.intro hle (And.intro hTq ((Ne.symm hTq))))))
 refine aa_ kr_ ?_
 iterate 3 (refine aL_S rfl rfl v_ ?_)
 refine ac_ ?_
 refine am_ ?_
 refine ai_ (σ' := (σ.set T (.cells [.msl oq 1 0 L.length])).set oq (shQ L)) va_ ?_ ⟨rfl, rfl⟩
 have h1 := Store.wkTake (τ := σ.set T (.cells [.msl oq 1 0 L.length])) (o := oq) (n := L.length) (cs := (L ++ [x]).map fun x => AVal.ref x.o 0) (by rw [Store.set_ne _ _ (Ne.symm hTq)]; exact hq)
 rw [show ((L ++ [x]).map fun x => AVal.ref x.o 0).take L.length = L.map fun x => AVal.ref x.o 0 by simp] at h1
 exact h1
structure CQ (σ : Store) (T : Nat) (L : List Sh) (S : List Nat) : Prop where
 t : ∃ qv, σ.heap T = some (.cells [qv]) ∧ ((qv = .lit (.slice none 0 0) ∧ L = []) ∨ ∃ oq, oq ∈ S ∧ qv = .msl oq 1 0 L.length ∧ σ.heap oq = some (shQ L))
 e : ∀ x ∈ L, σ.heap x.o = some (shC x)
 ts : T ∈ S
 len : L.length ≤ 1000
theorem pT_ {σ : Store} {T oq n : Nat} {L : List Sh} (hT : σ.heap T = some (.cells [.msl oq 1 0 n])) (hq : σ.heap oq = some (shQ L)) : T ≠ oq := by
 intro h
 rw [← h, hT] at hq
 cases L with
 |nil => simp [shQ] at hq
 |cons a l => simp [shQ] at hq
theorem pU_ {σ : Store} {T : Nat} {a : AVal} {x : Sh} (hT : σ.heap T = some (.cells [a])) (hx : σ.heap x.o = some (shC x)) : x.o ≠ T := by
 intro h
 rw [h, hT] at hx
 simp [shC] at hx
def gU_ (L : List Sh) (i k : Nat) : Bool := match L[i]?, L[k]? with
 |some x, some y => ds_ x y
 |_, _ => false
def bd_ (T : Nat) (σ0 : Store) (S0 : List Nat) : HeapI Tryz.prog 134 (.ref T 0) where
 St := List Sh
 at_ L σ := ∃ S, CQ σ T L S ∧ Fr σ0 S0 σ S
 len L := L.length
 less := gU_
 swap := cd_
 small L σ := fun ⟨S, h, _⟩ => Nat.le_trans h.len (by decide)
 lenSwap L i k := cO_ L i k
 hLen L σ := by
  rintro ⟨S, h, hf⟩
  obtain ⟨qv, hT, hq⟩ := h.t
  rcases hq with ⟨rfl, rfl⟩ | ⟨oq, hoq, rfl, hq⟩
  ·exact ⟨281, false, _, by kernel_rfl, (by first | (simp (disch := omega) only [go_sem, hT, ↓reduceIte, Nat.reduceEqDiff, Nat.reduceAdd, Nat.reduceSub, Nat.reduceMul, Nat.reduceLeDiff, reduceCtorEq, Int.reduceToNat, Int.reduceLE, Int.reduceLT]; rfl) | simp (disch := omega) only [go_sem, hT, ↓reduceIte, Nat.reduceEqDiff, Nat.reduceAdd, Nat.reduceSub, Nat.reduceMul, Nat.reduceLeDiff, reduceCtorEq, Int.reduceToNat, Int.reduceLE, Int.reduceLT]), by simp only [go_sem], nj_⟩
  ·exact ⟨281, false, _, by kernel_rfl, (by first | (simp (disch := omega) only [go_sem, hT, ↓reduceIte, Nat.reduceEqDiff, Nat.reduceAdd, Nat.reduceSub, Nat.reduceMul, Nat.reduceLeDiff, reduceCtorEq, Int.reduceToNat, Int.reduceLE, Int.reduceLT]; rfl) | simp (disch := omega) only [go_sem, hT, ↓reduceIte, Nat.reduceEqDiff, Nat.reduceAdd, Nat.reduceSub, Nat.reduceMul, Nat.reduceLeDiff, reduceCtorEq, Int.reduceToNat, Int.reduceLE, Int.reduceLT]), by simp only [go_sem], q5_⟩
 hLess L σ i k := by
  rintro ⟨S, h, hf⟩ hi hk
  obtain ⟨qv, hT, hq⟩ := h.t
  rcases hq with ⟨rfl, rfl⟩ | ⟨oq, hoq, rfl, hq⟩
  ·exact absurd hi (Nat.not_lt_zero _)
  ·have hx : L[i]? = some L[i] := List.getElem?_eq_getElem hi
   have hy : L[k]? = some L[k] := List.getElem?_eq_getElem hk
   refine ⟨282, false, _, by kernel_rfl, (by first | (simp (disch := omega) only [go_sem, hT, ↓reduceIte, Nat.reduceEqDiff, Nat.reduceAdd, Nat.reduceSub, Nat.reduceMul, Nat.reduceLeDiff, reduceCtorEq, Int.reduceToNat, Int.reduceLE, Int.reduceLT]; rfl) | simp (disch := omega) only [go_sem, hT, ↓reduceIte, Nat.reduceEqDiff, Nat.reduceAdd, Nat.reduceSub, Nat.reduceMul, Nat.reduceLeDiff, reduceCtorEq, Int.reduceToNat, Int.reduceLE, Int.reduceLT]), by simp only [go_sem], (pg_ hq hx hy (h.e _ (List.getElem_mem hi)) (h.e _ (List.getElem_mem hk))).mono fun v σ' hh => ?_⟩
   refine ⟨hh.1.trans ?_, hh.2⟩
   unfold gU_
   rw [hx, hy]
 hSwap L σ i k := by
  rintro ⟨S, h, hf⟩ hi hk
  obtain ⟨qv, hT, hq⟩ := h.t
  rcases hq with ⟨rfl, rfl⟩ | ⟨oq, hoq, rfl, hq⟩
  ·exact absurd hi (Nat.not_lt_zero _)
  ·have hx : L[i]? = some L[i] := List.getElem?_eq_getElem hi
   have hy : L[k]? = some L[k] := List.getElem?_eq_getElem hk
   refine ⟨283, false, _, by kernel_rfl, (by first | (simp (disch := omega) only [go_sem, hT, ↓reduceIte, Nat.reduceEqDiff, Nat.reduceAdd, Nat.reduceSub, Nat.reduceMul, Nat.reduceLeDiff, reduceCtorEq, Int.reduceToNat, Int.reduceLE, Int.reduceLT]; rfl) | simp (disch := omega) only [go_sem, hT, ↓reduceIte, Nat.reduceEqDiff, Nat.reduceAdd, Nat.reduceSub, Nat.reduceMul, Nat.reduceLeDiff, reduceCtorEq, Int.reduceToNat, Int.reduceLE, Int.reduceLT]), by simp only [go_sem], (pi_ hq hx hy).mono fun v σ' hh => ⟨hh.1, S, ?_⟩⟩
   rw [hh.2]
   refine ⟨⟨⟨_, by rw [Store.set_ne _ _ (pT_ hT hq)]; exact hT, .inr ⟨oq, hoq, by rw [cO_], Store.set_get ..⟩⟩, fun x hx => ?_, h.ts, by rw [cO_]; exact h.len⟩, hf.set hoq⟩
   have hx' := h.e x ((ce_ L i k).mem_iff.1 hx)
   rw [Store.set_ne _ _ (nM_ hq hx')]; exact hx'
def c7_ (T : Nat) (σ0 : Store) (S0 : List Nat) : HeapOrd (P := Tryz.prog) (t := 134) (a := .ref T 0) (bd_ T σ0 S0).St (bd_ T σ0 S0).len (bd_ T σ0 S0).less (bd_ T σ0 S0).swap where
 α := Sh
 get := fun (L : List Sh) k => L[k]?.getD default
 lt := ds_
 hless := fun (L : List Sh) i k (hi : i < L.length) (hk : k < L.length) => by
  show gU_ L i k = _
  unfold gU_
  rw [List.getElem?_eq_getElem hi, List.getElem?_eq_getElem hk]
  rfl
 hswap := fun (L : List Sh) i j k (hi : i < L.length) (hj : j < L.length) => by
  show (cd_ L i j)[k]?.getD _ = _
  rw [h5_ hi hj]
  split
  ·rfl
  ·split <;> rfl
 trans := fun x y z h1 h2 => by simp only [ds_, decide_eq_false_iff_not] at *; omega
 asym := fun x y h => by simp only [ds_, decide_eq_false_iff_not, decide_eq_true_eq] at *; omega
def gS (L : List Sh) (k : Nat) : Sh := L[k]?.getD default
def gF_ (L : List Sh) : Prop := ∀ k, 0 < k → k < L.length → ds_ (gS L k) (gS L ((k - 1) / 2)) = false
theorem lC_ {T : Nat} {σ0 : Store} {S0 : List Nat} (M : List Sh) : ∀ (s : (bd_ T σ0 S0).St) i j, i < (bd_ T σ0 S0).len s → j < (bd_ T σ0 S0).len s → (fun L : List Sh => L.Perm M) s → (fun L : List Sh => L.Perm M) ((bd_ T σ0 S0).swap s i j) :=
 fun s i j _ _ h => (ce_ s i j).trans h
theorem hK_ {L : List Sh} {p k : Nat} {y : Sh} (hp : p < L.length) : gS (L.set p y) k = if k = p then y else gS L k := by
 unfold gS
 rw [List.getElem?_set]
 by_cases h : k = p
 ·subst h; rw [if_pos rfl, if_pos hp, if_pos rfl]; rfl
 ·rw [if_neg (Ne.symm h), if_neg h]
theorem rX_ {T : Nat} {L : List Sh} {S : List Nat} {y : Sh} {σ : Store} (h : CQ σ T (L.set 0 y) S) (hL : gF_ L) (hp : 0 < L.length) :
  ao_ Tryz.prog 112 [.iface 134 (.ref T 0), vInt 0] σ fun v σ' => v = .tup [] ∧ ∃ L' S', CQ σ' T L' S' ∧ Fr σ S σ' S' ∧ gF_ L' ∧ L'.Perm (L.set 0 y) := by
 refine (rq_ (bd_ T σ S) (s := L.set 0 y) (i := 0) ⟨S, h, .refl σ S⟩ (by show 0 < (L.set 0 y).length; simpa using hp)).mono fun v σ' hh => ⟨hh.1, ?_⟩
 obtain ⟨S', h1, h2⟩ := hh.2
 have hlen : (bd_ T σ S).len (L.set 0 y) = L.length := by show (L.set 0 y).length = _; simp
 have hlen' := nw_ (bd_ T σ S) (L.set 0 y) 0 L.length
 rw [hlen] at h1 hlen'
 refine ⟨_, S', h1, h2, ?_, ?_⟩
 ·have hb : cQ_ (c7_ T σ S) (L.set 0 y) L.length 0 := by
   refine ⟨fun k h1 h2 h3 h4 => ?_, fun c h1 h2 h3 h4 => absurd h4 (Nat.lt_irrefl 0)⟩
   show ds_ (gS (L.set 0 y) k) (gS (L.set 0 y) ((k - 1) / 2)) = false
   rw [hK_ hp, hK_ hp, if_neg h3, if_neg h4]
   exact hL k h1 h2
  have := nx_ (c7_ T σ S) (n := L.length) (i := 0) (s := L.set 0 y) (by rw [hlen]; exact Nat.le_refl _) hp hb
  intro k h3 h4
  exact this k h3 (by rw [← hlen']; exact h4)
 ·exact lj_ (H := bd_ T σ S) (p := fun M : List Sh => M.Perm (L.set 0 y)) (n := L.length) (i := 0) (s := L.set 0 y) (lC_ _) (by rw [hlen]; exact Nat.le_refl _) (by rw [hlen]; exact hp) (List.Perm.refl _)
theorem n9_ {T : Nat} {L : List Sh} {S : List Nat} {x : Sh} {σ : Store} (h : CQ σ T L S) (hx : σ.heap x.o = some (shC x)) (hL : L.length < 1000) :
  AInv Tryz.prog 134 (.ref T 0) "Push" [.iface 129 (.ref x.o 0)] σ fun v σ' => v = .tup [] ∧ ∃ S', CQ σ' T (L ++ [x]) S' ∧ Fr σ S σ' S' := by
 obtain ⟨qv, hT, hq⟩ := h.t
 have hxT := pU_ hT hx
 refine ⟨285, true, _, by kernel_rfl, (by first | (simp (disch := omega) only [go_sem, hT, ↓reduceIte, Nat.reduceEqDiff, Nat.reduceAdd, Nat.reduceSub, Nat.reduceMul, Nat.reduceLeDiff, reduceCtorEq, Int.reduceToNat, Int.reduceLE, Int.reduceLT]; rfl) | simp (disch := omega) only [go_sem, hT, ↓reduceIte, Nat.reduceEqDiff, Nat.reduceAdd, Nat.reduceSub, Nat.reduceMul, Nat.reduceLeDiff, reduceCtorEq, Int.reduceToNat, Int.reduceLE, Int.reduceLT]), by simp only [go_sem], ?_⟩
 rcases hq with ⟨rfl, rfl⟩ | ⟨oq, hoq, rfl, hq⟩
 ·refine (k2_ hT).mono fun v σ' ⟨hv, o', h2, h3⟩ => ⟨hv, o' :: S, ?_, ?_⟩
  ·subst h3
   have hTo : T ≠ o' := aT_ hT h2
   refine ⟨⟨_, Store.set_get .., .inr ⟨o', by simp, rfl, by rw [Store.set_ne _ _ (Ne.symm hTo), Store.set_get]; rfl⟩⟩, fun y hy => ?_, by simp [h.ts], by simp⟩
   obtain rfl : y = x := by simpa using hy
   rw [Store.set_ne _ _ hxT, Store.set_ne _ _ (aT_ hx h2)]; exact hx
  ·subst h3
   exact ((Fr.refl σ S).setNew h2).set (by simp [h.ts])
 ·have hTq := pT_ hT hq
  refine (ph_ hT hq hTq (by omega)).mono fun v σ' ⟨hv, o', h2, h3⟩ => ⟨hv, o' :: S, ?_, ?_⟩
  ·subst h3
   have hTo : T ≠ o' := aT_ hT h2
   refine ⟨⟨_, Store.set_get .., .inr ⟨o', by simp, by simp, by rw [Store.set_ne _ _ (Ne.symm hTo), Store.set_get]; unfold shQ; rw [List.map_append]; rfl⟩⟩, fun y hy => ?_, by simp [h.ts], by simp; omega⟩
   have hye : σ.heap y.o = some (shC y) := by
    rcases List.mem_append.1 hy with hy | hy
    ·exact h.e y hy
    ·obtain rfl : y = x := by simpa using hy
     exact hx
   rw [Store.set_ne _ _ (pU_ hT hye), Store.set_ne _ _ (aT_ hye h2), Store.del_ne _ (nM_ hq hye)]; exact hye
  ·subst h3
   exact (((Fr.refl σ S).del hoq).setNew (by
    by_cases ho : o' = oq
    ·rw [ho, Store.del_get]
    ·rw [Store.del_ne _ ho]; exact h2)).set (by simp [h.ts])
theorem qj_ {T : Nat} {L : List Sh} {S : List Nat} {x : Sh} {σ : Store} (h : CQ σ T L S) (hH : gF_ L) (hx : σ.heap x.o = some (shC x)) (hL : L.length < 1000) :
  ao_ Tryz.prog 111 [.iface 134 (.ref T 0), .iface 129 (.ref x.o 0)] σ fun v σ' => v = .tup [] ∧ ∃ L' S', CQ σ' T L' S' ∧ Fr σ S σ' S' ∧ gF_ L' ∧ L'.Perm (L ++ [x]) := by
 obtain ⟨f, ptr, r, q1, q2, q3, q4⟩ := n9_ h hx hL
 refine (py_ (bd_ T σ S) (s := L ++ [x]) ⟨f, ptr, r, q1, q2, q3, q4⟩ (by show 0 < (L ++ [x]).length; simp)).mono fun v σ' hh => ⟨hh.1, ?_⟩
 obtain ⟨S', h1, h2⟩ := hh.2
 have hlen : (bd_ T σ S).len (L ++ [x]) = L.length + 1 := by show (L ++ [x]).length = _; simp
 have hlen' := mH_ (bd_ T σ S) (L ++ [x]) L.length
 rw [hlen] at hlen'
 rw [hlen, Nat.add_sub_cancel] at h1
 refine ⟨_, S', h1, h2, ?_, ?_⟩
 ·have hg : ∀ k, k < L.length → gS (L ++ [x]) k = gS L k := fun k hk => by unfold gS; rw [List.getElem?_append_left hk]
  have hb : cQ_ (c7_ T σ S) (L ++ [x]) (L.length + 1) L.length ∧ iQ_ (c7_ T σ S) (L ++ [x]) (L.length + 1) L.length := by
   refine ⟨⟨fun k h1 h2 h3 h4 => ?_, fun c h1 h2 h3 h4 => absurd h3 (by omega)⟩, fun c h1 h2 h3 => absurd h3 (by omega)⟩
   show ds_ (gS (L ++ [x]) k) (gS (L ++ [x]) ((k - 1) / 2)) = false
   rw [hg _ (by omega), hg _ (by omega)]
   exact hH k h1 (by omega)
  have := mJ_ (c7_ T σ S) (n := L.length + 1) L.length (L ++ [x]) (by rw [hlen]; exact Nat.le_refl _) (Nat.lt_succ_self _) hb.1 hb.2
  intro k h3 h4
  exact this k h3 (by rw [← hlen']; exact h4)
 ·exact jR_ (H := bd_ T σ S) (p := fun M : List Sh => M.Perm (L ++ [x])) (lC_ _) L.length (L ++ [x]) (by rw [hlen]; exact Nat.lt_succ_self _) (List.Perm.refl _)
theorem oe_ {L : List Sh} {n : Nat} {x : Sh} (hn : L.length = n + 1) (hx : gS L n = x) : ∃ L', L = L' ++ [x] ∧ L'.length = n := by
 refine ⟨L.dropLast, ?_, by simp [hn]⟩
 have hne : L ≠ [] := fun h => by rw [h] at hn; simp at hn
 have : L.getLast hne = x := by
  rw [List.getLast_eq_getElem, ← hx]
  unfold gS
  simp [hn]
 rw [← this]
 exact (List.dropLast_concat_getLast hne).symm
theorem rY_ {T : Nat} {L : List Sh} {S : List Nat} {σ : Store} (h : CQ σ T L S) (hH : cQ_ (c7_ T σ S) L L.length 0) (h0 : 0 < L.length) :
  ao_ Tryz.prog 113 [.iface 134 (.ref T 0)] σ fun v σ' => ∃ L' S', CQ σ' T L' S' ∧ Fr σ S σ' S' ∧ gF_ L' ∧ (L' ++ [gS L 0]).Perm L := by
 obtain ⟨n, hn⟩ : ∃ n, L.length = n + 1 := ⟨L.length - 1, by omega⟩
 have hlen : (bd_ T σ S).len L = n + 1 := hn
 refine rr_ (bd_ T σ S) (s := L) ⟨S, h, .refl σ S⟩ h0 fun τ hτ => ?_
 rw [hlen, Nat.add_sub_cancel] at hτ
 obtain ⟨S', h1, h2⟩ := hτ
 have hsl : (bd_ T σ S).len ((bd_ T σ S).swap L 0 n) = n + 1 := ((bd_ T σ S).lenSwap L 0 n).trans hlen
 have hlen' : (b4_ (bd_ T σ S) ((bd_ T σ S).swap L 0 n) 0 n).1.length = n + 1 := (dC_ (bd_ T σ S) _ 0 n).trans hsl
 have hg := fun k => (c7_ T σ S).hswap L 0 n k (by show 0 < L.length; omega) (by show n < L.length; omega)
 have hlast : gS (b4_ (bd_ T σ S) ((bd_ T σ S).swap L 0 n) 0 n).1 n = gS L 0 := by
  refine (k9_ (c7_ T σ S) (n - 0) 0 _ n rfl (by rw [hsl]; omega) (Nat.le_refl _)).trans ?_
  rw [hg]
  split
  ·rename_i hh; rw [hh]; rfl
  ·rw [if_pos rfl]; rfl
 have hperm : List.Perm (b4_ (bd_ T σ S) ((bd_ T σ S).swap L 0 n) 0 n).1 L := gk_ (H := bd_ T σ S) (p := fun M : List Sh => M.Perm L) (lC_ _) (n - 0) 0 _ rfl (by rw [hsl]; omega) (ce_ L 0 n)
 have hheap : j2_ (c7_ T σ S) (b4_ (bd_ T σ S) ((bd_ T σ S).swap L 0 n) 0 n).1 n := by
  have hb : cQ_ (c7_ T σ S) ((bd_ T σ S).swap L 0 n) n 0 := by
   refine ⟨fun k h1 h2 h3 h4 => ?_, fun c h1 h2 h3 h4 => absurd h4 (Nat.lt_irrefl 0)⟩
   rw [hg, hg, if_neg h3, if_neg (by omega), if_neg h4, if_neg (by omega)]
   exact hH.1 k h1 (by omega) h3 h4
  rcases hz_ (c7_ T σ S) (n - 0) 0 _ rfl (by rw [hsl]; omega) hb with ⟨q1, q2⟩ | ⟨q1, q2⟩
  ·rw [q1]; exact dl_ _ hb q2 fun hh => absurd hh (Nat.lt_irrefl 0)
  ·exact q2
 generalize (b4_ (bd_ T σ S) ((bd_ T σ S).swap L 0 n) 0 n).1 = R at h1 hlen' hlast hperm hheap
 obtain ⟨L', rfl, hL'⟩ := oe_ hlen' hlast
 obtain ⟨qv, hT, hq⟩ := h1.t
 rcases hq with ⟨_, h0⟩ | ⟨oq, hoq, rfl, hq⟩
 ·simp at h0
 have hll : (L' ++ [gS L 0]).length = L'.length + 1 := by simp
 rw [hll] at hT
 have hTq := pT_ hT hq
 have hll2 := h1.len
 rw [hll] at hll2
 refine ⟨284, true, _, by kernel_rfl, (by first | (simp (disch := omega) only [go_sem, hT, ↓reduceIte, Nat.reduceEqDiff, Nat.reduceAdd, Nat.reduceSub, Nat.reduceMul, Nat.reduceLeDiff, reduceCtorEq, Int.reduceToNat, Int.reduceLE, Int.reduceLT]; rfl) | simp (disch := omega) only [go_sem, hT, ↓reduceIte, Nat.reduceEqDiff, Nat.reduceAdd, Nat.reduceSub, Nat.reduceMul, Nat.reduceLeDiff, reduceCtorEq, Int.reduceToNat, Int.reduceLE, Int.reduceLT]), by simp only [go_sem], (q6_ hT hq hTq (by omega)).mono fun v σ' hh => ?_⟩
 obtain ⟨_, rfl⟩ := hh
 refine ⟨L', S', ⟨⟨_, by rw [Store.set_ne _ _ hTq, Store.set_get], .inr ⟨oq, hoq, rfl, Store.set_get ..⟩⟩, fun y hy => ?_, h1.ts, by omega⟩, (h2.set h1.ts).set hoq, ?_, hperm⟩
 ·have hye := h1.e y (List.mem_append_left _ hy)
  rw [Store.set_ne _ _ (nM_ hq hye), Store.set_ne _ _ (pU_ hT hye)]; exact hye
 ·intro k h5 h6
  have h7 := hheap k h5 (by omega)
  have hg : ∀ k, k < L'.length → gS (L' ++ [gS L 0]) k = gS L' k := fun k hk => by unfold gS; rw [List.getElem?_append_left hk]
  rw [← hg k h6, ← hg _ (by omega)]
  exact h7
end Go.Proofs.YtkcmbjodladflaaGreatDoor
end

section
set_option linter.all false
set_option maxRecDepth 100000
namespace Go.Proofs.YtkcmbjodladflaaGreatDoor
open Go.Ab
def eV_ (L : List Sh) : Nat → List Sh
 |0 => L
 |j + 1 => if (gS L j).has < (gS L (j + 1)).has then eV_ (cd_ L j (j + 1)) j else L
def cE_ (L : List Sh) : Nat → List Sh
 |0 => L
 |i + 1 => eV_ (cE_ L i) i
theorem gn_ : ∀ (j : Nat) (L : List Sh), (eV_ L j).Perm L
 |0, L => .refl _
 |j + 1, L => by
  unfold eV_
  split
  ·exact (gn_ j _).trans (ce_ ..)
  ·exact .refl _
theorem go_ (L : List Sh) : ∀ i, (cE_ L i).Perm L
 |0 => .refl _
 |i + 1 => (gn_ i _).trans (go_ L i)
def ahd (x y : Sh) : Prop := y.has < x.has ∨ x.has = y.has ∧ x.pl < y.pl
instance (x y : Sh) : Decidable (ahd x y) := by unfold ahd; infer_instance
def geH (e : Sh) (x : Sh) : Bool := decide (e.has ≤ x.has)
def ltH (e : Sh) (x : Sh) : Bool := decide (x.has < e.has)
theorem oF_ {A B : List Sh} {e : Sh} : gS (A ++ e :: B) A.length = e := by
 unfold gS
 rw [List.getElem?_append_right (Nat.le_refl _), Nat.sub_self]; rfl
theorem ha_ {A B : List Sh} {y e : Sh} : cd_ (A ++ y :: e :: B) A.length (A.length + 1) = A ++ e :: y :: B := by
 have h1 : (A ++ y :: e :: B)[A.length]? = some y := by rw [List.getElem?_append_right (Nat.le_refl _), Nat.sub_self]; rfl
 have h2 : (A ++ y :: e :: B)[A.length + 1]? = some e := by rw [List.getElem?_append_right (by omega), Nat.add_sub_cancel_left]; rfl
 rw [do_ h1 h2]
 rw [List.set_append_right _ _ (Nat.le_refl _), Nat.sub_self, List.set_append_right _ _ (by simp), Nat.add_sub_cancel_left]
 rfl
theorem hL_ : ∀ (n : Nat) (A : List Sh), A.length = n → A.Pairwise ahd → ∀ (e : Sh) (B : List Sh), eV_ (A ++ e :: B) A.length = A.filter (geH e) ++ e :: (A.filter (ltH e) ++ B)
 |0, A, hn, _, e, B => by
  obtain rfl := List.eq_nil_of_length_eq_zero hn
  rfl
 |n + 1, A, hn, hp, e, B => by
  have hne : A ≠ [] := fun h => by rw [h] at hn; simp at hn
  obtain ⟨A', y, rfl⟩ : ∃ A' y, A = A' ++ [y] := ⟨A.dropLast, A.getLast hne, (List.dropLast_concat_getLast hne).symm⟩
  have hl : (A' ++ [y]).length = A'.length + 1 := by simp
  rw [List.pairwise_append] at hp
  obtain ⟨hp1, _, hp2⟩ := hp
  rw [hl, List.append_assoc, List.singleton_append, eV_]
  have g1 : gS (A' ++ y :: e :: B) A'.length = y := oF_
  have g2 : gS (A' ++ y :: e :: B) (A'.length + 1) = e := by
   have := oF_ (A := A' ++ [y]) (B := B) (e := e)
   rw [hl, List.append_assoc, List.singleton_append] at this
   exact this
  rw [g1, g2]
  split
  ·rename_i hlt
   rw [ha_, hL_ n A' (by omega) hp1 e (y :: B), List.filter_append, List.filter_append]
   have f1 : [y].filter (geH e) = [] := by simp [geH]; omega
   have f2 : [y].filter (ltH e) = [y] := by simp [ltH, hlt]
   rw [f1, f2, List.append_nil]
   simp
  ·rename_i hlt
   have hall : ∀ x ∈ A' ++ [y], e.has ≤ x.has := fun x hx => by
    rcases List.mem_append.1 hx with hx | hx
    ·have := hp2 x hx y (by simp)
     unfold ahd at this
     omega
    ·obtain rfl : x = y := by simpa using hx
     omega
   rw [List.filter_eq_self.2 fun x hx => by simpa [geH] using hall x hx, List.filter_eq_nil_iff.2 fun x hx => by have := hall x hx; simp [ltH]; omega]
   simp
theorem eW_ (L : List Sh) (hpl : L.Pairwise fun x y => x.pl < y.pl) : ∀ i, i ≤ L.length → ∃ S, cE_ L i = S ++ L.drop i ∧ S.Perm (L.take i) ∧ S.Pairwise ahd
 |0, _ => ⟨[], by simp [cE_], by simp, by simp⟩
 |i + 1, hi => by
  obtain ⟨S, h1, h2, h3⟩ := eW_ L hpl i (by omega)
  have hd : L.drop i = L[i] :: L.drop (i + 1) := List.drop_eq_getElem_cons (by omega)
  have hSl : S.length = i := by have := h2.length_eq; simp at this; omega
  have hins := hL_ S.length S rfl h3 L[i] (L.drop (i + 1))
  rw [hSl] at hins
  have hpe : ∀ x ∈ S, x.pl < (L[i]).pl := fun x hx => by
   have hx' := h2.mem_iff.1 hx
   obtain ⟨k, hk, rfl⟩ := List.getElem_of_mem hx'
   simp only [List.length_take] at hk
   rw [List.getElem_take]
   exact List.pairwise_iff_getElem.1 hpl k i (by omega) (by omega) (by omega)
  refine ⟨S.filter (geH L[i]) ++ L[i] :: S.filter (ltH L[i]), by rw [cE_, h1, hd, hins]; simp, ?_, ?_⟩
  ·have e1 : (S.filter (geH L[i]) ++ S.filter (ltH L[i])).Perm S := by
    have : S.filter (ltH L[i]) = S.filter fun x => !geH L[i] x := by
     congr 1; funext x
     unfold geH ltH
     by_cases h : x.has < (L[i]).has
     ·simp [h]
     ·simp [h]; omega
    rw [this]
    exact List.filter_append_perm _ _
   have e2 : L.take (i + 1) = L.take i ++ [L[i]] := by rw [List.take_succ, List.getElem?_eq_getElem (by omega)]; rfl
   rw [e2]
   refine List.perm_middle.trans ?_
   refine ((e1.trans h2).cons _).trans ?_
   exact (List.perm_append_singleton _ _).symm
  ·rw [List.pairwise_append, List.pairwise_cons]
   refine ⟨h3.sublist (List.filter_sublist ..), ⟨fun x hx => ?_, h3.sublist (List.filter_sublist ..)⟩, fun x hx y hy => ?_⟩
   ·have := (List.mem_filter.1 hx).2
    simp only [ltH, decide_eq_true_eq] at this
    exact .inl this
   ·obtain ⟨hx1, hx2⟩ := List.mem_filter.1 hx
    simp only [geH, decide_eq_true_eq] at hx2
    rcases List.mem_cons.1 hy with rfl | hy
    ·have := hpe x hx1
     unfold ahd
     omega
    ·have := (List.mem_filter.1 hy).2
     simp only [ltH, decide_eq_true_eq] at this
     exact .inl (by omega)
theorem g4_ {x y : Sh} {σ : Store} (hx : σ.heap x.o = some (shC x)) (hy : σ.heap y.o = some (shC y)) (bx : 0 ≤ x.has ∧ x.has ≤ 1000) (by_ : 0 ≤ y.has ∧ y.has ≤ 1000) : ao_ Tryz.prog 155 [.ref x.o 0, .ref y.o 0] σ fun v σ' => v = vInt (y.has - x.has) ∧ σ = σ' := by
 refine aj_ Tryz.func155 rfl Tryz.ntmps155 (congrArg Array.toList Tryz.results155) (by simp only [List.length_cons, List.length_nil]; decide) ?_; simp only [af_, ak_, Nat.reduceAdd]
 refine ab_ ?_
 have R := And.intro hx hy
 refine aa_ kr_ ?_
 (refine aL_S rfl rfl v_ ?_)
 refine ac_ ?_
 refine ab_ ?_
 have R := And.intro hx hy
 refine aG_ (.op 0 0 (.op 1 0 (.op 2 0 (.op 3 0 (.op 4 0 (.op 5 0 (.op 6 0 (.op 7 0 (.op 8 0 (.op 9 0 .nil)))))))))) Tryz.mixed kr_ ?_
 iterate 10 (refine dR_S o_ (by rfl) (by rfl) v_ ?_)
 refine aL_ ?_
 refine am_ ?_
 refine ai_ (σ' := σ) v_ sub_ ?_
 exact ⟨rfl, rfl⟩
def cmpF : AVal := .lit (.func (.func 155) #[] #[])
attribute [go_sem] cmpF
theorem rt_ {σ : Store} {o : Nat} {L : List Sh} {x : Sh} {y : AObj} (ho : σ.heap o = some (shQ L)) (hx : σ.heap x.o = some (shC x)) : (σ.set o y).heap x.o = some (shC x) := by
 rw [Store.set_ne _ _ (nM_ ho hx)]; exact hx
theorem gC_ {C : List Sh} {i k : Nat} {x y : Sh} (hx : C[i]? = some x) (hy : C[k]? = some y) (hik : i ≠ k) : cd_ C i k = cd_ C k i := by
 rw [do_ hx hy, do_ hy hx, List.set_comm _ _ hik]
theorem nF_ {C : List Sh} {j : Nat} {x y : Sh} (h0 : 0 < j) (hx : C[j]? = some x) (hy : C[j - 1]? = some y) (hlt : y.has < x.has) : eV_ C j = eV_ (cd_ C j (j - 1)) (j - 1) := by
 cases j with
 |zero => omega
 |succ j =>
  rw [Nat.add_sub_cancel] at hy ⊢
  rw [eV_, if_pos (by unfold gS; rw [hx, hy]; exact hlt), gC_ hy hx (by omega)]
theorem pz_ {C : List Sh} {j : Nat} {x y : Sh} (hx : C[j]? = some x) (hy : C[j - 1]? = some y) (h : ¬ (0 < j ∧ y.has < x.has)) : eV_ C j = C := by
 cases j with
 |zero => rfl
 |succ j =>
  rw [Nat.add_sub_cancel] at hy
  rw [eV_, if_neg (by unfold gS; rw [hx, hy]; exact fun hh => h ⟨Nat.succ_pos j, hh⟩)]
end Go.Proofs.YtkcmbjodladflaaGreatDoor
end

section
set_option linter.all false
set_option maxRecDepth 100000
namespace Go.Proofs.YtkcmbjodladflaaGreatDoor
open Go.Ab
theorem c4_ {x y z : Sh} (h : ahd x y) (k : ahd y z) : ahd x z := by unfold ahd at *; omega
def swR (Z : List Sh) (a b : Nat) : Nat → List Sh
 |0 => Z
 |n + 1 => cd_ (swR Z a b n) (a + n) (b + n)
theorem iK_ (Z : List Sh) (a b : Nat) : ∀ n, (swR Z a b n).length = Z.length
 |0 => rfl
 |n + 1 => by rw [swR, cO_, iK_ Z a b n]
theorem mw_ (Z : List Sh) (a b : Nat) : ∀ n, a + n ≤ b → b + n ≤ Z.length → ∀ m : Nat, (swR Z a b n)[m]? = if a ≤ m ∧ m < a + n then Z[m - a + b]? else if b ≤ m ∧ m < b + n then Z[m - b + a]? else Z[m]?
 |0, _, _, m => by rw [swR, if_neg (by omega), if_neg (by omega)]
 |n + 1, h1, h2, m => by
  have ih := mw_ Z a b n (by omega) (by omega)
  have hl := iK_ Z a b n
  rw [swR, h5_ (by omega) (by omega), ih, ih, ih]
  by_cases e1 : m = a + n
  ·rw [if_pos e1, if_neg (by omega), if_neg (by omega), if_pos (by omega)]; congr 1; omega
  ·rw [if_neg e1]
   by_cases e2 : m = b + n
   ·rw [if_pos e2, if_neg (by omega), if_neg (by omega), if_neg (by omega), if_pos (by omega)]; congr 1; omega
   ·rw [if_neg e2]
    by_cases e3 : a ≤ m ∧ m < a + n
    ·rw [if_pos e3, if_pos (by omega)]
    ·rw [if_neg e3, if_neg (show ¬ (a ≤ m ∧ m < a + (n + 1)) by omega)]
     by_cases e4 : b ≤ m ∧ m < b + n
     ·rw [if_pos e4, if_pos (by omega)]
     ·rw [if_neg e4, if_neg (by omega)]
theorem iL_ {P U M V S : List Sh} (hl : U.length = V.length) : swR (P ++ (U ++ (M ++ (V ++ S)))) P.length (P.length + U.length + M.length) U.length = P ++ (V ++ (M ++ (U ++ S))) := by
 apply List.ext_getElem?
 intro m
 rw [mw_ _ _ _ _ (by omega) (by simp; omega)]
 simp only [List.getElem?_append]
 repeat' split
 all_goals first
  |(exfalso; omega)
  |rfl
  |(congr 1; omega)
theorem jN_ {A : List Sh} (h : A.Pairwise ahd) {i j : Nat} {x y : Sh} (hij : i ≤ j) (hx : A[i]? = some x) (hy : A[j]? = some y) : x = y ∨ ahd x y := by
 rcases Nat.lt_or_eq_of_le hij with hlt | rfl
 ·obtain ⟨h1, rfl⟩ := List.getElem?_eq_some_iff.1 hx
  obtain ⟨h2, rfl⟩ := List.getElem?_eq_some_iff.1 hy
  exact .inr (List.pairwise_iff_getElem.1 h i j h1 h2 hlt)
 ·rw [hx] at hy; exact .inl (Option.some.inj hy)
theorem jl_ {A : List Sh} {s : Nat} {x : Sh} (h : x ∈ A.take s) : ∃ i, i < s ∧ A[i]? = some x := by
 obtain ⟨i, hi, rfl⟩ := List.getElem_of_mem h
 rw [List.length_take] at hi
 exact ⟨i, by omega, by rw [List.getElem_take]; exact List.getElem?_eq_getElem (by omega)⟩
theorem jj_ {A : List Sh} {s : Nat} {x : Sh} (h : x ∈ A.drop s) : ∃ i, s ≤ i ∧ A[i]? = some x := by
 obtain ⟨i, hi, rfl⟩ := List.getElem_of_mem h
 rw [List.length_drop] at hi
 exact ⟨s + i, by omega, by rw [List.getElem_drop]; exact List.getElem?_eq_getElem (by omega)⟩
theorem oC_ {A B : List Sh} {s e : Nat} (hA : A.Pairwise ahd) (hB : B.Pairwise ahd) (h : s = 0 ∨ B.length ≤ e ∨ ∃ x y, A[s - 1]? = some x ∧ B[e]? = some y ∧ ahd x y) : ∀ x ∈ A.take s, ∀ y ∈ B.drop e, ahd x y := fun x hx y hy => by
 obtain ⟨i, hi, hxi⟩ := jl_ hx
 obtain ⟨j, hj, hyj⟩ := jj_ hy
 rcases h with h | h | ⟨u, v, hu, hv, huv⟩
 ·omega
 ·have := (List.getElem?_eq_some_iff.1 hyj).1; omega
 ·have h1 := jN_ hA (show i ≤ s - 1 by omega) hxi hu
  have h2 := jN_ hB hj hv hyj
  rcases h1 with rfl | h1 <;> rcases h2 with rfl | h2
  ·exact huv
  ·exact c4_ huv h2
  ·exact c4_ h1 huv
  ·exact c4_ h1 (c4_ huv h2)
theorem qv_ {A : List Sh} (h : A.Pairwise ahd) (s : Nat) : ∀ x ∈ A.take s, ∀ y ∈ A.drop s, ahd x y := by
 rw [← List.take_append_drop s A, List.pairwise_append] at h
 exact h.2.2
theorem jo_ {A B M1 M2 : List Sh} {s e : Nat} (hA : A.Pairwise ahd) (hB : B.Pairwise ahd) (h1 : s = 0 ∨ B.length ≤ e ∨ ∃ x y, A[s - 1]? = some x ∧ B[e]? = some y ∧ ahd x y) (h2 : e = 0 ∨ A.length ≤ s ∨ ∃ x y, B[e - 1]? = some x ∧ A[s]? = some y ∧ ahd x y)
  (p1 : M1.Perm (A.take s ++ B.take e)) (s1 : M1.Pairwise ahd) (p2 : M2.Perm (A.drop s ++ B.drop e)) (s2 : M2.Pairwise ahd) : (M1 ++ M2).Perm (A ++ B) ∧ (M1 ++ M2).Pairwise ahd := by
 refine ⟨?_, List.pairwise_append.2 ⟨s1, s2, fun x hx y hy => ?_⟩⟩
 ·refine (p1.append p2).trans ?_
  conv => rhs; rw [← List.take_append_drop s A, ← List.take_append_drop e B]
  rw [List.append_assoc, List.append_assoc]
  refine List.Perm.append_left _ ?_
  rw [← List.append_assoc, ← List.append_assoc]
  exact List.Perm.append_right _ List.perm_append_comm
 ·have hx' := p1.mem_iff.1 hx
  have hy' := p2.mem_iff.1 hy
  rcases List.mem_append.1 hx' with hx' | hx' <;> rcases List.mem_append.1 hy' with hy' | hy'
  ·exact qv_ hA s x hx' y hy'
  ·exact oC_ hA hB h1 x hx' y hy'
  ·exact oC_ hB hA h2 x hx' y hy'
  ·exact qv_ hB e x hx' y hy'
theorem oH_ {B : List Sh} {x : Sh} {i : Nat} (hB : B.Pairwise ahd) (h1 : i = 0 ∨ ∃ y, B[i - 1]? = some y ∧ ahd y x) (h2 : B.length ≤ i ∨ ∃ y, B[i]? = some y ∧ ahd x y) : (B.take i ++ x :: B.drop i).Pairwise ahd := by
 refine List.pairwise_append.2 ⟨hB.sublist (List.take_sublist ..), List.pairwise_cons.2 ⟨fun y hy => ?_, hB.sublist (List.drop_sublist ..)⟩, fun y hy z hz => ?_⟩
 ·obtain ⟨j, hj, hyj⟩ := jj_ hy
  rcases h2 with h | ⟨v, hv, hxv⟩
  ·have := (List.getElem?_eq_some_iff.1 hyj).1; omega
  ·rcases jN_ hB hj hv hyj with rfl | h
   ·exact hxv
   ·exact c4_ hxv h
 ·have hyx : ahd y x := by
   obtain ⟨j, hj, hyj⟩ := jl_ hy
   rcases h1 with h | ⟨v, hv, hvx⟩
   ·omega
   ·rcases jN_ hB (show j ≤ i - 1 by omega) hyj hv with rfl | h
    ·exact hvx
    ·exact c4_ h hvx
  rcases List.mem_cons.1 hz with rfl | hz
  ·exact hyx
  ·exact qv_ hB i y hy z hz
theorem jd_ {B : List Sh} {x : Sh} {i : Nat} : (B.take i ++ x :: B.drop i).Perm (x :: B) := by
 refine List.perm_middle.trans ?_
 rw [List.take_append_drop]
def mvR (Z : List Sh) (a : Nat) : Nat → List Sh
 |0 => Z
 |k + 1 => cd_ (mvR Z a k) (a + k) (a + k + 1)
theorem lU_ {P B S : List Sh} {x : Sh} : ∀ k, k ≤ B.length → mvR (P ++ x :: (B ++ S)) P.length k = P ++ (B.take k ++ x :: (B.drop k ++ S))
 |0, _ => by simp [mvR]
 |k + 1, h => by
  have ih := lU_ (P := P) (B := B) (S := S) (x := x) k (by omega)
  obtain ⟨y, hy⟩ := aA_ (l := B) (k := k) (by omega)
  have hd : B.drop k = y :: B.drop (k + 1) := dD_ hy
  have ht : B.take (k + 1) = B.take k ++ [y] := aX_ hy
  have hl : (P ++ B.take k).length = P.length + k := by rw [List.length_append, List.length_take, Nat.min_eq_left (by omega)]
  have := ha_ (A := P ++ B.take k) (B := B.drop (k + 1) ++ S) (y := x) (e := y)
  rw [hl] at this
  rw [mvR, ih, hd, ht]
  simp only [List.append_assoc, List.cons_append, List.nil_append, List.singleton_append] at this ⊢
  exact this
def mvL (Z : List Sh) (m : Nat) : Nat → List Sh
 |0 => Z
 |k + 1 => cd_ (mvL Z m k) (m - k - 1) (m - k)
theorem lT_ {P A S : List Sh} {y : Sh} : ∀ k, k ≤ A.length → mvL (P ++ (A ++ y :: S)) (P.length + A.length) k = P ++ (A.take (A.length - k) ++ y :: (A.drop (A.length - k) ++ S))
 |0, _ => by simp [mvL]
 |k + 1, h => by
  have ih := lT_ (P := P) (A := A) (S := S) (y := y) k (by omega)
  obtain ⟨i, hi⟩ : ∃ i, A.length - (k + 1) = i := ⟨_, rfl⟩
  have hi1 : A.length - k = i + 1 := by omega
  obtain ⟨z, hz⟩ := aA_ (l := A) (k := i) (by omega)
  have hd : A.drop i = z :: A.drop (i + 1) := dD_ hz
  have ht : A.take (i + 1) = A.take i ++ [z] := aX_ hz
  have hl : (P ++ A.take i).length = P.length + i := by rw [List.length_append, List.length_take, Nat.min_eq_left (by omega)]
  have := ha_ (A := P ++ A.take i) (B := A.drop (i + 1) ++ S) (y := z) (e := y)
  rw [hl] at this
  rw [mvL, ih, hi1, ht, hi, hd, show P.length + A.length - k - 1 = P.length + i by omega, show P.length + A.length - k = P.length + i + 1 by omega]
  simp only [List.append_assoc, List.cons_append, List.nil_append, List.singleton_append] at this ⊢
  exact this
end Go.Proofs.YtkcmbjodladflaaGreatDoor
end

section
set_option linter.all false
set_option maxRecDepth 100000
namespace Go.Proofs.YtkcmbjodladflaaGreatDoor
open Go.Ab
structure OkQ (σ : Store) (o : Nat) (Z : List Sh) : Prop where
 q : σ.heap o = some (shQ Z)
 e : ∀ x ∈ Z, σ.heap x.o = some (shC x)
 b : ∀ x ∈ Z, 0 ≤ x.has ∧ x.has ≤ 1000
 l : Z.length ≤ 1000
theorem OkQ.set {σ : Store} {o : Nat} {Z Z' : List Sh} (h : OkQ σ o Z) (hp : Z'.Perm Z) : OkQ (σ.set o (shQ Z')) o Z' :=
 ⟨Store.set_get .., fun x hx => rt_ h.q (h.e x (hp.mem_iff.1 hx)), fun x hx => h.b x (hp.mem_iff.1 hx), by rw [hp.length_eq]; exact h.l⟩
theorem iM_ {o a b n : Nat} {Z : List Sh} {σ : Store} (h : OkQ σ o Z) (hab : a + n ≤ b) (hbn : b + n ≤ Z.length) :
  ao_ Tryz.prog 262 [.msl o 1 0 Z.length, vInt a, vInt b, vInt n, cmpF] σ fun v σ' => v = .tup [] ∧ σ' = σ.set o (shQ (swR Z a b n)) := by
 have hl := h.l
 refine aj_ Tryz.func262 rfl Tryz.ntmps262 (congrArg Array.toList Tryz.results262) (by simp only [List.length_cons, List.length_nil]; decide) ?_; simp only [af_, ak_, Nat.reduceAdd]
 refine ab_ ?_
 refine aa_ kr_ ?_
 (refine aL_S rfl rfl v_ ?_)
 refine ac_ ?_
 refine al_ ?_
 refine ap_ (ι := Nat) (fun i => n - i) (fun i => i ≤ n) (fun i => [(0, .msl o 1 0 Z.length), (1, vInt a), (2, vInt b), (3, vInt n), (10, vInt i)]) (fun i => (σ.set o (shQ (swR Z a b i)))) 0 ?_ ?_ ?_ ?_
 ·exact Nat.zero_le _
 ·exact cv_
 ·rw [show swR Z a b 0 = Z from rfl, Store.set_self h.q]; exact Store.Wk.refl _
 rintro i hi
 simp only [ar_, au_]
 refine ab_ ?_
 refine ab_ ?_
 refine aa_ kr_ ?_
 iterate 3 (refine aL_S rfl rfl v_ ?_)
 refine ac_ ?_
 refine ad_ v_ (fun hc1 => ?_) (fun hc1 => ?_)
 ·replace hc1 := nm_ hc1
  refine ah_ ?_
  refine ab_ ?_
  refine al_ ?_
  have hsl := iK_ Z a b i
  obtain ⟨x, hx⟩ := aA_ (l := swR Z a b i) (k := a + i) (by omega)
  obtain ⟨y, hy⟩ := aA_ (l := swR Z a b i) (k := b + i) (by omega)
  have ha1 : ((a : Int) + (i : Int)) = ((a + i : Nat) : Int) := by omega
  have hb1 : ((b : Int) + (i : Int)) = ((b + i : Nat) : Int) := by omega
  have R := And.intro hx (And.intro hy (And.intro ha1 hb1))
  refine aG_ (.op 0 0 (.op 1 0 (.op 2 0 (.op 3 0 (.op 4 0 (.op 5 0 (.op 6 0 (.any 7 (.op 8 0 (.op 9 0 (.op 10 0 (.op 11 0 (.op 12 0 (.op 13 0 (.op 14 0 (.op 15 0 (.op 16 0 (.op 17 0 (.op 18 0 (.op 19 0 (.op 20 0 (.op 21 2 (.op 22 0 (.op 23 2 .nil)))))))))))))))))))))))) Tryz.mixed kr_ ?_
  iterate 7 (refine dR_S o_ (by rfl) (by rfl) v_ ?_)
  refine dR_A o_ (by rfl) (by rfl) (fun _ => v_) ?_
  iterate 13 (refine dR_S o_ (by rfl) (by rfl) v_ ?_)
  refine aM_ o_ (by rfl) (by rfl) (by rfl) v_ v_ h_ g_ rfl g_ c_ (by rfl) le_ (bs_ le_) ?_
  (refine dR_S o_ (by rfl) (by rfl) v_ ?_)
  refine aM_ o_ (by rfl) (by rfl) (by rfl) v_ v_ h_ g_ rfl g_ c_ (by rfl) le_ (bs_ le_) ?_
  refine aL_ ?_
  simp only [Store.set_set, dK_ hx hy]
  refine aa_ kr_ ?_
  iterate 3 (refine aL_S rfl rfl v_ ?_)
  refine ac_ ?_
  refine aJ_ (ι := Nat) (i := i) (i + 1) ?_ ?_ ?_ ?_
  ·omega
  ·exact (by omega)
  ·exact cv_
  ·exact Store.Wk.refl _
 ·replace hc1 := nm_ hc1
  refine ax_ ?_
  refine ag_ ?_
  refine ag_ ?_
  refine aq_ ?_
  obtain rfl : i = n := by omega
  exact aP_ (σ' := σ.set o (shQ (swR Z a b i))) va_ (Store.Wk.refl _) ⟨rfl, rfl⟩
theorem p6_ {p u v s : List Sh} : (p ++ (u ++ (v ++ s))).Perm (p ++ (v ++ (u ++ s))) := by
 refine List.Perm.append_left _ ?_
 rw [← List.append_assoc, ← List.append_assoc]
 exact List.Perm.append_right _ List.perm_append_comm
theorem n2_ {o a m b N : Nat} {P U V S : List Sh} {σ : Store} (h : OkQ σ o (P ++ (U ++ (V ++ S)))) (ha : a = P.length) (hm : m = a + U.length) (hb : b = m + V.length) (hN : N = (P ++ (U ++ (V ++ S))).length) (hu : 0 < U.length) (hv : 0 < V.length) :
  ao_ Tryz.prog 250 [.msl o 1 0 N, vInt a, vInt m, vInt b, cmpF] σ fun v σ' => v = .tup [] ∧ σ' = σ.set o (shQ (P ++ (V ++ (U ++ S)))) := by
 have hl := h.l
 rw [← hN] at hl
 have hNe : N = P.length + (U.length + (V.length + S.length)) := by rw [hN]; simp
 obtain ⟨T, hT⟩ : ∃ T, P ++ (V ++ (U ++ S)) = T := ⟨_, rfl⟩
 have hpT : T.Perm (P ++ (U ++ (V ++ S))) := by rw [← hT]; exact p6_
 rw [hT]
 refine aj_ Tryz.func250 rfl Tryz.ntmps250 (congrArg Array.toList Tryz.results250) (by simp only [List.length_cons, List.length_nil]; decide) ?_; simp only [af_, ak_, Nat.reduceAdd]
 refine ab_ ?_
 have hi1 : (m : Int) - (a : Int) = (U.length : Int) := by omega
 have hi2 : (b : Int) - (m : Int) = (V.length : Int) := by omega
 refine aa_ kr_ ?_
 iterate 4 (refine aL_S rfl rfl v_ ?_)
 refine ac_ ?_
 refine ab_ ?_
 refine aa_ kr_ ?_
 iterate 4 (refine aL_S rfl rfl v_ ?_)
 refine ac_ ?_
 refine ab_ ?_
 refine al_ ?_
 refine ap_ (ι := List Sh × List Sh × List Sh × List Sh) (fun ⟨p, u, v, s⟩ => u.length + v.length) (fun ⟨p, u, v, s⟩ => 0 < u.length ∧ 0 < v.length ∧ p.length + u.length = m ∧ p ++ (v ++ (u ++ s)) = T) (fun ⟨p, u, v, s⟩ => [(0, .msl o 1 0 N), (2, vInt m), (4, cmpF), (10, vInt u.length), (11, vInt v.length)]) (fun ⟨p, u, v, s⟩ => (σ.set o (shQ (p ++ (u ++ (v ++ s)))))) (P, U, V, S) ?_ ?_ ?_ ?_
 ·exact ⟨hu, hv, by show P.length + U.length = m; omega, hT⟩
 ·have R := And.intro hi1 hi2; exact cv_
 ·show (σ.set o (shQ (P ++ (U ++ (V ++ S))))).Wk σ; rw [Store.set_self h.q]; exact Store.Wk.refl _
 rintro ⟨p, u, v, s⟩ ⟨hu1, hv1, hpu, hTT⟩
 simp only [ar_, au_]
 refine ab_ ?_
 refine ab_ ?_
 have hcN : (p ++ (u ++ (v ++ s))).length = N := by
  have e1 := congrArg List.length hTT
  have e2 := hpT.length_eq
  rw [← hN] at e2
  simp only [List.length_append] at e1 ⊢; omega
 have hsN : p.length + (u.length + (v.length + s.length)) = N := by rw [← hcN]; simp
 have hO : OkQ (σ.set o (shQ (p ++ (u ++ (v ++ s))))) o (p ++ (u ++ (v ++ s))) := h.set (p6_.trans (by rw [hTT]; exact hpT))
 have hmi : (m : Int) - (u.length : Int) = (p.length : Int) := by omega
 refine aa_ kr_ ?_
 iterate 3 (refine aL_S rfl rfl v_ ?_)
 refine ac_ ?_
 refine ad_ v_ (fun hc2 => ?_) (fun hc2 => ?_)
 ·replace hc2 := nm_ hc2
  refine ah_ ?_
  refine al_ ?_
  refine ab_ ?_
  refine aa_ kr_ ?_
  iterate 3 (refine aL_S rfl rfl v_ ?_)
  refine ac_ ?_
  refine ad_ v_ (fun hc3 => ?_) (fun hc3 => ?_)
  ·replace hc3 := nm_ hc3
   skip
   have hsw1 : swR (p ++ (u ++ (v ++ s))) p.length m v.length = (p ++ v) ++ (u.drop v.length ++ (u.take v.length ++ s)) := by
    have e := iL_ (P := p) (U := u.take v.length) (M := u.drop v.length) (V := v) (S := s) (by rw [List.length_take]; omega)
    have e2 : (u.take v.length).length = v.length := by rw [List.length_take]; omega
    rw [e2, List.length_drop, show p.length + v.length + (u.length - v.length) = m by omega] at e
    rw [← List.append_assoc (u.take v.length), List.take_append_drop] at e
    rw [e, List.append_assoc]
   have hc1a : ((u.drop v.length).length : Int) = (u.length : Int) - (v.length : Int) := by rw [List.length_drop]; omega
   have hc1b : ((u.take v.length).length : Int) = (v.length : Int) := by rw [List.length_take]; omega
   refine ab_ ?_
   have R := And.intro hmi hcN
   refine aa_ kr_ ?_
   iterate 7 (refine aL_S rfl rfl v_ ?_)
   refine aL_X rfl rfl (ae_ rfl rfl (.inr ⟨rfl, rfl, rfl⟩) g_ va_ (ao_.wkA (args := [.msl o 1 0 N, vInt p.length, vInt m, vInt v.length, cmpF]) (hcN ▸ iM_ hO (by omega) (by omega)) rfl (fun j hj hj' => by match j, hj with | 0, _ => exact .refl _ | 1, _ => exact .refl _ | 2, _ => exact .refl _ | 3, _ => exact .refl _ | 4, _ => exact .refl _)) ?_); rintro _ _ ⟨rfl, rfl⟩
   refine ac_ ?_
   refine aa_ kr_ ?_
   iterate 4 (refine aL_S rfl rfl v_ ?_)
   refine ac_ ?_
   refine aJ_ (ι := List Sh × List Sh × List Sh × List Sh) (i := ⟨p, u, v, s⟩) (p ++ v, u.drop v.length, u.take v.length, s) ?_ ?_ ?_ ?_
   ·show (u.drop v.length).length + (u.take v.length).length < u.length + v.length; rw [List.length_drop, List.length_take]; omega
   ·exact ⟨by show 0 < (u.drop v.length).length; rw [List.length_drop]; omega, by show 0 < (u.take v.length).length; rw [List.length_take]; omega, by show (p ++ v).length + (u.drop v.length).length = m; rw [List.length_append, List.length_drop]; omega, by show (p ++ v) ++ (u.take v.length ++ (u.drop v.length ++ s)) = T; rw [← List.append_assoc (u.take v.length), List.take_append_drop, List.append_assoc]; exact hTT⟩
   ·have R := And.intro hc1a hc1b; exact cv_
   ·rw [show swR (p ++ (u ++ (v ++ s))) p.length m v.length = (p ++ v) ++ (u.drop v.length ++ (u.take v.length ++ s)) from hsw1, Store.set_set]; exact Store.Wk.refl _
  ·replace hc3 := nm_ hc3
   skip
   have hlt : u.length < v.length := by omega
   have hsw2 : swR (p ++ (u ++ (v ++ s))) p.length (m + v.length - u.length) u.length = p ++ (v.drop (v.length - u.length) ++ (v.take (v.length - u.length) ++ (u ++ s))) := by
    have e := iL_ (P := p) (U := u) (M := v.take (v.length - u.length)) (V := v.drop (v.length - u.length)) (S := s) (by rw [List.length_drop]; omega)
    have e2 : (v.take (v.length - u.length)).length = v.length - u.length := by rw [List.length_take]; omega
    rw [e2, show p.length + u.length + (v.length - u.length) = m + v.length - u.length by omega] at e
    rw [← List.append_assoc (v.take _), List.take_append_drop] at e
    exact e
   have hc2a : ((v.drop (v.length - u.length)).length : Int) = (u.length : Int) := by rw [List.length_drop]; omega
   have hc2b : ((v.take (v.length - u.length)).length : Int) = (v.length : Int) - (u.length : Int) := by rw [List.length_take]; omega
   have hmj : (m : Int) + (v.length : Int) - (u.length : Int) = ((m + v.length - u.length : Nat) : Int) := by omega
   refine ab_ ?_
   have R := And.intro hmi hmj
   refine aa_ kr_ ?_
   iterate 11 (refine aL_S rfl rfl v_ ?_)
   refine aL_X rfl rfl (ae_ rfl rfl (.inr ⟨rfl, rfl, rfl⟩) g_ va_ (ao_.wkA (args := [.msl o 1 0 N, vInt p.length, vInt (m + v.length - u.length : Nat), vInt u.length, cmpF]) (hcN ▸ iM_ hO (by omega) (by omega)) rfl (fun j hj hj' => by match j, hj with | 0, _ => exact .refl _ | 1, _ => exact .refl _ | 2, _ => exact .refl _ | 3, _ => exact .refl _ | 4, _ => exact .refl _)) ?_); rintro _ _ ⟨rfl, rfl⟩
   refine ac_ ?_
   refine aa_ kr_ ?_
   iterate 4 (refine aL_S rfl rfl v_ ?_)
   refine ac_ ?_
   refine aJ_ (ι := List Sh × List Sh × List Sh × List Sh) (i := ⟨p, u, v, s⟩) (p, v.drop (v.length - u.length), v.take (v.length - u.length), u ++ s) ?_ ?_ ?_ ?_
   ·show (v.drop (v.length - u.length)).length + (v.take (v.length - u.length)).length < u.length + v.length; rw [List.length_drop, List.length_take]; omega
   ·exact ⟨by show 0 < (v.drop (v.length - u.length)).length; rw [List.length_drop]; omega, by show 0 < (v.take (v.length - u.length)).length; rw [List.length_take]; omega, by show p.length + (v.drop (v.length - u.length)).length = m; rw [List.length_drop]; omega, by show p ++ (v.take (v.length - u.length) ++ (v.drop (v.length - u.length) ++ (u ++ s))) = T; rw [← List.append_assoc (v.take _), List.take_append_drop]; exact hTT⟩
   ·have R := And.intro hc2a hc2b; exact cv_
   ·rw [show swR (p ++ (u ++ (v ++ s))) p.length (m + v.length - u.length) u.length = p ++ (v.drop (v.length - u.length) ++ (v.take (v.length - u.length) ++ (u ++ s))) from hsw2, Store.set_set]; exact Store.Wk.refl _
 ·replace hc2 := nm_ hc2
  refine ax_ ?_
  refine ag_ ?_
  refine ag_ ?_
  refine aq_ ?_
  have R := hmi
  refine aa_ kr_ ?_
  iterate 7 (refine aL_S rfl rfl v_ ?_)
  refine aL_X rfl rfl (ae_ rfl rfl (.inr ⟨rfl, rfl, rfl⟩) g_ va_ (ao_.wkA (args := [.msl o 1 0 N, vInt p.length, vInt m, vInt u.length, cmpF]) (hcN ▸ iM_ hO (by omega) (by omega)) rfl (fun j hj hj' => by match j, hj with | 0, _ => exact .refl _ | 1, _ => exact .refl _ | 2, _ => exact .refl _ | 3, _ => exact .refl _ | 4, _ => exact .refl _)) ?_); rintro _ _ ⟨rfl, rfl⟩
  refine ac_ ?_
  have huv : u.length = v.length := by omega
  have e := iL_ (P := p) (U := u) (M := []) (V := v) (S := s) huv
  simp only [List.nil_append, List.length_nil, Nat.add_zero] at e
  rw [hpu] at e
  exact aP_ (σ' := σ.set o (shQ T)) va_ (by rw [e, hTT, Store.set_set]; exact Store.Wk.refl _) ⟨rfl, rfl⟩
end Go.Proofs.YtkcmbjodladflaaGreatDoor
end

section
set_option linter.all false
set_option maxRecDepth 100000
namespace Go.Proofs.YtkcmbjodladflaaGreatDoor
open Go.Ab
theorem dX_ (n : Int) (h0 : 0 ≤ n) (h1 : n ≤ 18446744073709551615) : IntKind.u64.wrap n = n := by
 unfold IntKind.wrap
 simp only [IntKind.bits, IntKind.signed, Bool.false_and]
 have e1 : (2 : Int) ^ 64 = 18446744073709551616 := by decide
 simp only [e1]
 first | omega | (split <;> simp at * <;> omega) | (simp; omega)
@[go_sem] theorem m4_ (k' : IntKind) (a b : Int) (h0 : 0 ≤ b) (h1 : b ≤ 64) : aint .shr .u64 a k' b = some (.int .u64 (a / 2 ^ b.toNat)) := eP_ .u64 k' a b h0 h1
theorem jq_ (Z : List Sh) (a : Nat) : ∀ k, (mvR Z a k).Perm Z
 |0 => .refl _
 |k + 1 => (ce_ ..).trans (jq_ Z a k)
theorem jp_ (Z : List Sh) (m : Nat) : ∀ k, (mvL Z m k).Perm Z
 |0 => .refl _
 |k + 1 => (ce_ ..).trans (jp_ Z m k)
theorem getA {P A R : List Sh} {i : Nat} {z : Sh} (h : A[i]? = some z) : (P ++ (A ++ R))[P.length + i]? = some z := by
 have hl := (List.getElem?_eq_some_iff.1 h).1
 rw [List.getElem?_append_right (by omega), List.getElem?_append_left (by omega)]
 rw [show P.length + i - P.length = i by omega]; exact h
theorem getB {P A B R : List Sh} {i : Nat} {z : Sh} (h : B[i]? = some z) : (P ++ (A ++ (B ++ R)))[P.length + A.length + i]? = some z := by
 have := getA (P := P ++ A) (A := B) (R := R) h
 rw [List.length_append, List.append_assoc] at this
 exact this
theorem qu_ {p A B S : List Sh} (s e : Nat) : (p ++ (A.take s ++ (B.take e ++ (A.drop s ++ (B.drop e ++ S))))).Perm (p ++ (A ++ (B ++ S))) := by
 have h1 : (p ++ (A ++ (B ++ S))) = (p ++ A.take s) ++ (A.drop s ++ (B.take e ++ (B.drop e ++ S))) := by
  rw [List.append_assoc, ← List.append_assoc (A.take s), List.take_append_drop, ← List.append_assoc (B.take e), List.take_append_drop]
 rw [h1, ← List.append_assoc p]
 exact p6_
theorem s5_ {p A B S : List Sh} (s e : Nat) : p ++ (A ++ (B ++ S)) = (p ++ A.take s) ++ (A.drop s ++ (B.take e ++ (B.drop e ++ S))) := by
 rw [List.append_assoc, ← List.append_assoc (A.take s), List.take_append_drop, ← List.append_assoc (B.take e), List.take_append_drop]
def SymC (n : Nat) : Prop := ∀ {N o a m b : Nat} {P A B S : List Sh} {σ : Store}, A.length + B.length ≤ n → OkQ σ o (P ++ (A ++ (B ++ S))) → a = P.length → m = a + A.length → b = m + B.length → N = (P ++ (A ++ (B ++ S))).length → 0 < A.length → 0 < B.length → A.Pairwise ahd → B.Pairwise ahd → (∀ x ∈ A, ∀ y ∈ B, x.pl < y.pl) →
  ao_ Tryz.prog 226 [.msl o 1 0 N, vInt a, vInt m, vInt b, cmpF] σ fun v σ' => v = .tup [] ∧ ∃ M, M.Perm (A ++ B) ∧ M.Pairwise ahd ∧ σ' = σ.set o (shQ (P ++ (M ++ S)))
set_option maxHeartbeats 4000000 in
theorem mz_ {n : Nat} (ih : SymC n) {N o a m b : Nat} {P A B S : List Sh} {σ : Store} (hn : A.length + B.length ≤ n + 1) (h : OkQ σ o (P ++ (A ++ (B ++ S)))) (ha : a = P.length) (hm : m = a + A.length) (hb : b = m + B.length) (hN : N = (P ++ (A ++ (B ++ S))).length) (hA0 : 0 < A.length) (hB0 : 0 < B.length) (hA : A.Pairwise ahd) (hB : B.Pairwise ahd) (hpl : (∀ x ∈ A, ∀ y ∈ B, x.pl < y.pl)) :
  ao_ Tryz.prog 226 [.msl o 1 0 N, vInt a, vInt m, vInt b, cmpF] σ fun v σ' => v = .tup [] ∧ ∃ M, M.Perm (A ++ B) ∧ M.Pairwise ahd ∧ σ' = σ.set o (shQ (P ++ (M ++ S))) := by
 obtain ⟨Z, hZ⟩ : ∃ Z, P ++ (A ++ (B ++ S)) = Z := ⟨_, rfl⟩
 have hlen : N = P.length + (A.length + (B.length + S.length)) := by rw [hN]; simp
 have hl := h.l
 rw [← hN] at hl
 have zA : ∀ i z, A[i]? = some z → Z[a + i]? = some z := fun i z hz => by rw [← hZ, ha]; exact getA hz
 have zB : ∀ i z, B[i]? = some z → Z[m + i]? = some z := fun i z hz => by rw [← hZ, hm, ha]; exact getB hz
 have mA : ∀ i z, A[i]? = some z → z ∈ Z := fun i z hz => List.mem_of_getElem? (zA i z hz)
 have mB : ∀ i z, B[i]? = some z → z ∈ Z := fun i z hz => List.mem_of_getElem? (zB i z hz)
 have hpl2 : ∀ (i j : Nat) (x y : Sh), A[i]? = some x → B[j]? = some y → x.pl < y.pl := fun i j x y hx hy => hpl x (List.mem_of_getElem? hx) y (List.mem_of_getElem? hy)
 have h' := h
 rw [hZ] at h hN
 have hq := h.q
 have hZN : Z.length = N := hN.symm
 refine aj_ Tryz.func226 rfl Tryz.ntmps226 (congrArg Array.toList Tryz.results226) (by simp only [List.length_cons, List.length_nil]; decide) ?_; simp only [af_, ak_, Nat.reduceAdd]
 refine ab_ ?_
 refine ab_ ?_
 refine aa_ kr_ ?_
 iterate 4 (refine aL_S rfl rfl v_ ?_)
 refine ac_ ?_
 refine ad_ v_ (fun hc0 => ?_) (fun hc0 => ?_)
 ·replace hc0 := nm_ hc0
  obtain ⟨x, rfl⟩ : ∃ x, A = [x] := by
   match A, (show A.length = 1 by omega) with
   |[x], _ => exact ⟨x, rfl⟩
  have hm1 : m = a + 1 := hm
  have zx := zA 0 x rfl
  rw [Nat.add_zero] at zx
  have ex := h.e x (mA 0 x rfl)
  have bx := h.b x (mA 0 x rfl)
  refine ab_ ?_
  refine aa_ kr_ ?_
  iterate 2 (refine aL_S rfl rfl v_ ?_)
  refine ac_ ?_
  refine ab_ ?_
  refine aa_ kr_ ?_
  iterate 2 (refine aL_S rfl rfl v_ ?_)
  refine ac_ ?_
  refine ab_ ?_
  refine al_ ?_
  refine ap_ (ι := Nat × Nat) (fun ⟨i, j⟩ => j - i) (fun ⟨i, j⟩ => m ≤ i ∧ i ≤ j ∧ j ≤ b ∧ (i = m ∨ ∃ y, B[i - m - 1]? = some y ∧ ahd y x) ∧ (j = b ∨ ∃ y, B[j - m]? = some y ∧ ahd x y)) (fun ⟨i, j⟩ => [(0, .msl o 1 0 N), (1, vInt a), (4, cmpF), (10, vInt i), (11, vInt j)]) (fun ⟨i, j⟩ => σ) (m, b) ?_ ?_ ?_ ?_
  ·exact ⟨Nat.le_refl _, by show m ≤ b; omega, Nat.le_refl _, .inl rfl, .inl rfl⟩
  ·exact cv_
  ·exact sub_
  rintro ⟨i, j⟩ ⟨i1, i2, i3, i4, i5⟩
  simp only [ar_, au_]
  refine ab_ ?_
  refine ab_ ?_
  refine aa_ kr_ ?_
  iterate 3 (refine aL_S rfl rfl v_ ?_)
  refine ac_ ?_
  refine ad_ v_ (fun hc3 => ?_) (fun hc3 => ?_)
  ·replace hc3 := nm_ hc3
   refine ah_ ?_
   refine al_ ?_
   refine ab_ ?_
   have hdiv : ((i : Int) + j) / 2 ^ 1 = (((i + j) / 2 : Nat) : Int) := by omega
   obtain ⟨y, hy⟩ := aA_ (l := B) (k := (i + j) / 2 - m) (by omega)
   have zy := zB _ y hy
   rw [show m + ((i + j) / 2 - m) = (i + j) / 2 by omega] at zy
   have ey := h.e y (mB _ y hy)
   have by_ := h.b y (mB _ y hy)
   have hp := hpl2 0 _ x y rfl hy
   have R := And.intro dX_ hdiv
   refine aa_ kr_ ?_
   iterate 7 (refine aL_S rfl rfl v_ ?_)
   refine ac_ ?_
   refine ab_ ?_
   have R := And.intro hq (And.intro zx (And.intro zy hZN))
   refine aG_ (.op 0 0 (.op 1 0 (.op 2 0 (.op 3 0 (.op 4 0 (.op 5 0 (.op 6 0 (.op 7 0 (.op 8 0 (.op 9 1 (.op 10 0 .nil))))))))))) Tryz.mixed kr_ ?_
   iterate 9 (refine dR_S o_ (by rfl) (by rfl) v_ ?_)
   refine dR_X o_ (by rfl) (by rfl) (ae_ (by rfl) (by rfl) (.inr ⟨va_, by rfl, by rfl⟩) g_ va_ (g4_ (x := y) (y := x) ey ex by_ bx) ?_); rintro _ _ ⟨rfl, rfl⟩; refine ⟨sub_, ?_⟩
   (refine dR_S o_ (by rfl) (by rfl) v_ ?_)
   refine aL_ ?_
   refine ad_ v_ (fun hc5 => ?_) (fun hc5 => ?_)
   ·replace hc5 := nm_ hc5
    have hyx : ahd y x := .inl (by omega)
    refine aa_ kr_ ?_
    iterate 3 (refine aL_S rfl rfl v_ ?_)
    refine ac_ ?_
    refine aJ_ (ι := Nat × Nat) (i := ⟨i, j⟩) ((i + j) / 2 + 1, j) ?_ ?_ ?_ ?_
    ·show j - ((i + j) / 2 + 1) < j - i; omega
    ·exact ⟨by show m ≤ (i + j) / 2 + 1; omega, by show (i + j) / 2 + 1 ≤ j; omega, i3, .inr ⟨y, by show B[(i + j) / 2 + 1 - m - 1]? = _; rw [show (i + j) / 2 + 1 - m - 1 = (i + j) / 2 - m by omega]; exact hy, hyx⟩, i5⟩
    ·have R := hdiv; exact cv_
    ·exact sub_
   ·replace hc5 := nm_ hc5
    have hxy : ahd x y := by unfold ahd; omega
    refine aa_ kr_ ?_
    iterate 2 (refine aL_S rfl rfl v_ ?_)
    refine ac_ ?_
    refine aJ_ (ι := Nat × Nat) (i := ⟨i, j⟩) (i, (i + j) / 2) ?_ ?_ ?_ ?_
    ·show (i + j) / 2 - i < j - i; omega
    ·exact ⟨i1, by show i ≤ (i + j) / 2; omega, by show (i + j) / 2 ≤ b; omega, i4, .inr ⟨y, hy, hxy⟩⟩
    ·have R := hdiv; exact cv_
    ·exact sub_
  ·replace hc3 := nm_ hc3
   refine ax_ ?_
   refine ag_ ?_
   refine ag_ ?_
   refine aq_ ?_
   refine ab_ ?_
   refine ab_ ?_
   refine aa_ kr_ ?_
   iterate 2 (refine aL_S rfl rfl v_ ?_)
   refine ac_ ?_
   refine al_ ?_
   refine ap_ (ι := Nat) (fun k => i - k) (fun k => a ≤ k ∧ k + 1 ≤ i) (fun k => [(0, .msl o 1 0 N), (10, vInt i), (13, vInt k)]) (fun k => (σ.set o (shQ (mvR Z a (k - a))))) a ?_ ?_ ?_ ?_
   ·exact ⟨Nat.le_refl _, by omega⟩
   ·exact cv_
   ·rw [Nat.sub_self, show mvR Z a 0 = Z from rfl, Store.set_self hq]; exact Store.Wk.refl _
   rintro k ⟨k1, k2⟩
   simp only [ar_, au_]
   refine ab_ ?_
   refine ab_ ?_
   refine aa_ kr_ ?_
   iterate 4 (refine aL_S rfl rfl v_ ?_)
   refine ac_ ?_
   refine ad_ v_ (fun hc9 => ?_) (fun hc9 => ?_)
   ·replace hc9 := nm_ hc9
    refine ah_ ?_
    refine ab_ ?_
    refine al_ ?_
    have hml := (jq_ Z a (k - a)).length_eq
    obtain ⟨x1, hx1⟩ := aA_ (l := mvR Z a (k - a)) (k := k) (by omega)
    obtain ⟨y1, hy1⟩ := aA_ (l := mvR Z a (k - a)) (k := k + 1) (by omega)
    have hk1 : (k : Int) + 1 = ((k + 1 : Nat) : Int) := by omega
    have hmv : mvR Z a (k + 1 - a) = cd_ (mvR Z a (k - a)) k (k + 1) := by
     rw [show k + 1 - a = (k - a) + 1 by omega, mvR, show a + (k - a) = k by omega]
    have hmN : (mvR Z a (k - a)).length = N := by omega
    have R := And.intro hx1 (And.intro hy1 (And.intro hk1 hmN))
    refine aG_ (.op 0 0 (.op 1 0 (.op 2 0 (.op 3 0 (.any 4 (.op 5 0 (.op 6 0 (.op 7 0 (.op 8 0 (.op 9 0 (.op 10 0 (.op 11 0 (.op 12 0 (.op 13 0 (.op 14 0 (.op 15 2 (.op 16 0 (.op 17 2 .nil)))))))))))))))))) Tryz.mixed kr_ ?_
    iterate 4 (refine dR_S o_ (by rfl) (by rfl) v_ ?_)
    refine dR_A o_ (by rfl) (by rfl) (fun _ => v_) ?_
    iterate 10 (refine dR_S o_ (by rfl) (by rfl) v_ ?_)
    refine aM_ o_ (by rfl) (by rfl) (by rfl) v_ v_ h_ g_ rfl g_ c_ (by rfl) le_ (bs_ le_) ?_
    (refine dR_S o_ (by rfl) (by rfl) v_ ?_)
    refine aM_ o_ (by rfl) (by rfl) (by rfl) v_ v_ h_ g_ rfl g_ c_ (by rfl) le_ (bs_ le_) ?_
    refine aL_ ?_
    simp only [Store.set_set, dK_ hx1 hy1]
    refine aa_ kr_ ?_
    iterate 3 (refine aL_S rfl rfl v_ ?_)
    refine ac_ ?_
    refine aJ_ (ι := Nat) (i := k) (k + 1) ?_ ?_ ?_ ?_
    ·omega
    ·exact ⟨by omega, by omega⟩
    ·exact cv_
    ·rw [hmv]; exact Store.Wk.refl _
   ·replace hc9 := nm_ hc9
    refine ax_ ?_
    refine ag_ ?_
    refine ag_ ?_
    refine aq_ ?_
    refine am_ ?_
    obtain rfl : i = j := by omega
    have hki : k - a = i - m := by omega
    have e := lU_ (P := P) (B := B) (S := S) (x := x) (i - m) (by omega)
    rw [← ha, show P ++ x :: (B ++ S) = Z from hZ, ← hki] at e
    refine aP_ (σ' := σ.set o (shQ (mvR Z a (k - a)))) va_ (Store.Wk.refl _) ⟨rfl, B.take (i - m) ++ x :: B.drop (i - m), jd_, oH_ hB ?_ ?_, by rw [e, hki]; simp⟩
    ·rcases i4 with g | ⟨y, g1, g2⟩
     ·exact .inl (by omega)
     ·exact .inr ⟨y, g1, g2⟩
    ·rcases i5 with g | ⟨y, g1, g2⟩
     ·exact .inl (by omega)
     ·exact .inr ⟨y, g1, g2⟩
 ·replace hc0 := nm_ hc0
  refine ah_ ?_
  refine ab_ ?_
  refine ab_ ?_
  refine aa_ kr_ ?_
  iterate 4 (refine aL_S rfl rfl v_ ?_)
  refine ac_ ?_
  refine ad_ v_ (fun hc12 => ?_) (fun hc12 => ?_)
  ·replace hc12 := nm_ hc12
   obtain ⟨y, rfl⟩ : ∃ y, B = [y] := by
    match B, (show B.length = 1 by omega) with
    |[y], _ => exact ⟨y, rfl⟩
   have hb1 : b = m + 1 := hb
   have zy := zB 0 y rfl
   rw [Nat.add_zero] at zy
   have ey := h.e y (mB 0 y rfl)
   have by_ := h.b y (mB 0 y rfl)
   refine ab_ ?_
   refine aa_ kr_ ?_
   iterate 2 (refine aL_S rfl rfl v_ ?_)
   refine ac_ ?_
   refine ab_ ?_
   refine aa_ kr_ ?_
   iterate 2 (refine aL_S rfl rfl v_ ?_)
   refine ac_ ?_
   refine ab_ ?_
   refine al_ ?_
   refine ap_ (ι := Nat × Nat) (fun ⟨i, j⟩ => j - i) (fun ⟨i, j⟩ => a ≤ i ∧ i ≤ j ∧ j ≤ m ∧ (i = a ∨ ∃ z, A[i - a - 1]? = some z ∧ ahd z y) ∧ (j = m ∨ ∃ z, A[j - a]? = some z ∧ ahd y z)) (fun ⟨i, j⟩ => [(0, .msl o 1 0 N), (2, vInt m), (4, cmpF), (14, vInt i), (15, vInt j)]) (fun ⟨i, j⟩ => σ) (a, m) ?_ ?_ ?_ ?_
   ·exact ⟨Nat.le_refl _, by show a ≤ m; omega, Nat.le_refl _, .inl rfl, .inl rfl⟩
   ·exact cv_
   ·exact sub_
   rintro ⟨i, j⟩ ⟨i1, i2, i3, i4, i5⟩
   simp only [ar_, au_]
   refine ab_ ?_
   refine ab_ ?_
   refine aa_ kr_ ?_
   iterate 3 (refine aL_S rfl rfl v_ ?_)
   refine ac_ ?_
   refine ad_ v_ (fun hc15 => ?_) (fun hc15 => ?_)
   ·replace hc15 := nm_ hc15
    refine ah_ ?_
    refine al_ ?_
    refine ab_ ?_
    have hdiv : ((i : Int) + j) / 2 ^ 1 = (((i + j) / 2 : Nat) : Int) := by omega
    obtain ⟨x, hx⟩ := aA_ (l := A) (k := (i + j) / 2 - a) (by omega)
    have zx := zA _ x hx
    rw [show a + ((i + j) / 2 - a) = (i + j) / 2 by omega] at zx
    have ex := h.e x (mA _ x hx)
    have bx := h.b x (mA _ x hx)
    have hp := hpl2 _ 0 x y hx rfl
    have R := And.intro dX_ hdiv
    refine aa_ kr_ ?_
    iterate 7 (refine aL_S rfl rfl v_ ?_)
    refine ac_ ?_
    refine ab_ ?_
    have R := And.intro hq (And.intro zx (And.intro zy hZN))
    refine aG_ (.op 0 0 (.op 1 0 (.op 2 0 (.op 3 0 (.op 4 0 (.op 5 0 (.op 6 0 (.op 7 0 (.op 8 0 (.op 9 1 (.op 10 0 (.op 11 0 .nil)))))))))))) Tryz.mixed kr_ ?_
    iterate 9 (refine dR_S o_ (by rfl) (by rfl) v_ ?_)
    refine dR_X o_ (by rfl) (by rfl) (ae_ (by rfl) (by rfl) (.inr ⟨va_, by rfl, by rfl⟩) g_ va_ (g4_ (x := y) (y := x) ey ex by_ bx) ?_); rintro _ _ ⟨rfl, rfl⟩; refine ⟨sub_, ?_⟩
    iterate 2 (refine dR_S o_ (by rfl) (by rfl) v_ ?_)
    refine aL_ ?_
    refine ad_ v_ (fun hc17 => ?_) (fun hc17 => ?_)
    ·replace hc17 := nm_ hc17
     have hxy : ahd x y := by unfold ahd; omega
     refine aa_ kr_ ?_
     iterate 3 (refine aL_S rfl rfl v_ ?_)
     refine ac_ ?_
     refine aJ_ (ι := Nat × Nat) (i := ⟨i, j⟩) ((i + j) / 2 + 1, j) ?_ ?_ ?_ ?_
     ·show j - ((i + j) / 2 + 1) < j - i; omega
     ·exact ⟨by show a ≤ (i + j) / 2 + 1; omega, by show (i + j) / 2 + 1 ≤ j; omega, i3, .inr ⟨x, by show A[(i + j) / 2 + 1 - a - 1]? = _; rw [show (i + j) / 2 + 1 - a - 1 = (i + j) / 2 - a by omega]; exact hx, hxy⟩, i5⟩
     ·have R := hdiv; exact cv_
     ·exact sub_
    ·replace hc17 := nm_ hc17
     have hyx : ahd y x := .inl (by omega)
     refine aa_ kr_ ?_
     iterate 2 (refine aL_S rfl rfl v_ ?_)
     refine ac_ ?_
     refine aJ_ (ι := Nat × Nat) (i := ⟨i, j⟩) (i, (i + j) / 2) ?_ ?_ ?_ ?_
     ·show (i + j) / 2 - i < j - i; omega
     ·exact ⟨i1, by show i ≤ (i + j) / 2; omega, by show (i + j) / 2 ≤ m; omega, i4, .inr ⟨x, hx, hyx⟩⟩
     ·have R := hdiv; exact cv_
     ·exact sub_
   ·replace hc15 := nm_ hc15
    refine ax_ ?_
    refine ag_ ?_
    refine ag_ ?_
    refine aq_ ?_
    refine ab_ ?_
    refine ab_ ?_
    refine aa_ kr_ ?_
    iterate 2 (refine aL_S rfl rfl v_ ?_)
    refine ac_ ?_
    refine al_ ?_
    refine ap_ (ι := Nat) (fun k => k - i) (fun k => i ≤ k ∧ k ≤ m) (fun k => [(0, .msl o 1 0 N), (14, vInt i), (17, vInt k)]) (fun k => (σ.set o (shQ (mvL Z m (m - k))))) m ?_ ?_ ?_ ?_
    ·exact ⟨by omega, Nat.le_refl _⟩
    ·exact cv_
    ·rw [Nat.sub_self, show mvL Z m 0 = Z from rfl, Store.set_self hq]; exact Store.Wk.refl _
    rintro k ⟨k1, k2⟩
    simp only [ar_, au_]
    refine ab_ ?_
    refine ab_ ?_
    refine aa_ kr_ ?_
    iterate 3 (refine aL_S rfl rfl v_ ?_)
    refine ac_ ?_
    refine ad_ v_ (fun hc21 => ?_) (fun hc21 => ?_)
    ·replace hc21 := nm_ hc21
     refine ah_ ?_
     refine ab_ ?_
     refine al_ ?_
     have hml := (jp_ Z m (m - k)).length_eq
     obtain ⟨x1, hx1⟩ := aA_ (l := mvL Z m (m - k)) (k := k) (by omega)
     obtain ⟨y1, hy1⟩ := aA_ (l := mvL Z m (m - k)) (k := k - 1) (by omega)
     have hk1 : (k : Int) - 1 = ((k - 1 : Nat) : Int) := by omega
     have hmv : mvL Z m (m - (k - 1)) = cd_ (mvL Z m (m - k)) k (k - 1) := by
      rw [show m - (k - 1) = (m - k) + 1 by omega, mvL, show m - (m - k) - 1 = k - 1 by omega, show m - (m - k) = k by omega]
      exact gC_ hy1 hx1 (by omega)
     have hmN : (mvL Z m (m - k)).length = N := by omega
     have R := And.intro hx1 (And.intro hy1 (And.intro hk1 hmN))
     refine aG_ (.op 0 0 (.op 1 0 (.op 2 0 (.op 3 0 (.any 4 (.op 5 0 (.op 6 0 (.op 7 0 (.op 8 0 (.op 9 0 (.op 10 0 (.op 11 0 (.op 12 0 (.op 13 0 (.op 14 0 (.op 15 2 (.op 16 0 (.op 17 2 .nil)))))))))))))))))) Tryz.mixed kr_ ?_
     iterate 4 (refine dR_S o_ (by rfl) (by rfl) v_ ?_)
     refine dR_A o_ (by rfl) (by rfl) (fun _ => v_) ?_
     iterate 10 (refine dR_S o_ (by rfl) (by rfl) v_ ?_)
     refine aM_ o_ (by rfl) (by rfl) (by rfl) v_ v_ h_ g_ rfl g_ c_ (by rfl) le_ (bs_ le_) ?_
     (refine dR_S o_ (by rfl) (by rfl) v_ ?_)
     refine aM_ o_ (by rfl) (by rfl) (by rfl) v_ v_ h_ g_ rfl g_ c_ (by rfl) le_ (bs_ le_) ?_
     refine aL_ ?_
     simp only [Store.set_set, dK_ hx1 hy1]
     refine aa_ kr_ ?_
     iterate 3 (refine aL_S rfl rfl v_ ?_)
     refine ac_ ?_
     refine aJ_ (ι := Nat) (i := k) (k - 1) ?_ ?_ ?_ ?_
     ·omega
     ·exact ⟨by omega, by omega⟩
     ·have R := hk1; exact cv_
     ·rw [hmv]; exact Store.Wk.refl _
    ·replace hc21 := nm_ hc21
     refine ax_ ?_
     refine ag_ ?_
     refine ag_ ?_
     refine aq_ ?_
     refine am_ ?_
     obtain rfl : i = j := by omega
     obtain rfl : k = i := by omega
     have e := lT_ (P := P) (A := A) (S := S) (y := y) (m - k) (by omega)
     rw [← ha, ← hm, show P ++ (A ++ y :: S) = Z from hZ, show A.length - (m - k) = k - a by omega] at e
     refine aP_ (σ' := σ.set o (shQ (mvL Z m (m - k)))) va_ (Store.Wk.refl _) ⟨rfl, A.take (k - a) ++ y :: A.drop (k - a), jd_.trans (by exact (List.perm_append_singleton y A).symm), oH_ hA ?_ ?_, by rw [e]; simp⟩
     ·rcases i4 with g | ⟨z, g1, g2⟩
      ·exact .inl (by omega)
      ·exact .inr ⟨z, g1, g2⟩
     ·rcases i5 with g | ⟨z, g1, g2⟩
      ·exact .inl (by omega)
      ·exact .inr ⟨z, g1, g2⟩
  ·replace hc12 := nm_ hc12
   refine ah_ ?_
   refine ab_ ?_
   obtain ⟨mid, hmid⟩ : ∃ mid, (a + b) / 2 = mid := ⟨_, rfl⟩
   have hdm : ((a : Int) + b) / 2 ^ 1 = (mid : Int) := by omega
   have R := And.intro dX_ hdm
   refine aa_ kr_ ?_
   iterate 7 (refine aL_S rfl rfl v_ ?_)
   refine ac_ ?_
   refine ab_ ?_
   refine aa_ kr_ ?_
   iterate 4 (refine aL_S rfl rfl v_ ?_)
   refine ac_ ?_
   refine ab_ ?_
   refine aa_ kr_ ?_
   iterate 2 (refine aL_S rfl rfl v_ ?_)
   refine ac_ ?_
   refine bp_ (ι := Nat × Nat) (fun ⟨lo, hi⟩ => (mid < m ∧ lo + b = mid + m ∧ hi = mid) ∨ (m ≤ mid ∧ lo = a ∧ hi = m)) (fun ⟨lo, hi⟩ => [(0, .msl o 1 0 N), (1, vInt a), (2, vInt m), (3, vInt b), (4, cmpF), (18, vInt mid), (19, vInt (mid + m)), (20, vInt lo), (21, vInt hi)]) (fun ⟨lo, hi⟩ => σ) ?_ ?_
   ·refine ab_ ?_
    refine aa_ kr_ ?_
    iterate 3 (refine aL_S rfl rfl v_ ?_)
    refine ac_ ?_
    refine ad_ v_ (fun hc27 => ?_) (fun hc27 => ?_)
    ·replace hc27 := nm_ hc27
     have hlo : (mid : Int) + m - b = ((mid + m - b : Nat) : Int) := by omega
     refine ab_ ?_
     refine aa_ kr_ ?_
     iterate 4 (refine aL_S rfl rfl v_ ?_)
     refine ac_ ?_
     refine aa_ kr_ ?_
     iterate 2 (refine aL_S rfl rfl v_ ?_)
     refine ac_ ?_
     refine ⟨(mid + m - b, mid), ?_, ?_, ?_⟩
     ·exact .inl ⟨by omega, by show mid + m - b + b = mid + m; omega, rfl⟩
     ·have R := hlo; exact cv_
     ·exact sub_
    ·replace hc27 := nm_ hc27
     refine ab_ ?_
     refine aa_ kr_ ?_
     iterate 2 (refine aL_S rfl rfl v_ ?_)
     refine ac_ ?_
     refine aa_ kr_ ?_
     iterate 2 (refine aL_S rfl rfl v_ ?_)
     refine ac_ ?_
     refine ⟨(a, m), ?_, ?_, ?_⟩
     ·exact .inr ⟨by omega, rfl, rfl⟩
     ·exact cv_
     ·exact sub_
   ·rintro ⟨lo, hi⟩ hlh
    simp only [ar_, au_]
    refine ab_ ?_
    refine aa_ kr_ ?_
    iterate 3 (refine aL_S rfl rfl v_ ?_)
    refine ac_ ?_
    refine ab_ ?_
    refine al_ ?_
    refine ap_ (ι := Nat × Nat) (fun ⟨s, r⟩ => r - s) (fun ⟨s, r⟩ => lo ≤ s ∧ s ≤ r ∧ r ≤ hi ∧ (s = lo ∨ ∃ x y, A[s - a - 1]? = some x ∧ B[mid - s]? = some y ∧ ahd x y) ∧ (r = hi ∨ ∃ x y, B[mid - r - 1]? = some x ∧ A[r - a]? = some y ∧ ahd x y)) (fun ⟨s, r⟩ => [(0, .msl o 1 0 N), (1, vInt a), (2, vInt m), (3, vInt b), (4, cmpF), (18, vInt mid), (19, vInt (mid + m)), (20, vInt s), (21, vInt r), (22, vInt (mid + m - 1))]) (fun ⟨s, r⟩ => σ) (lo, hi) ?_ ?_ ?_ ?_
    ·exact ⟨Nat.le_refl _, by show lo ≤ hi; omega, Nat.le_refl _, .inl rfl, .inl rfl⟩
    ·exact cv_
    ·exact sub_
    rintro ⟨s, r⟩ ⟨i1, i2, i3, i4, i5⟩
    simp only [ar_, au_]
    refine ab_ ?_
    refine ab_ ?_
    refine aa_ kr_ ?_
    iterate 3 (refine aL_S rfl rfl v_ ?_)
    refine ac_ ?_
    refine ad_ v_ (fun hc33 => ?_) (fun hc33 => ?_)
    ·replace hc33 := nm_ hc33
     refine ah_ ?_
     refine al_ ?_
     refine ab_ ?_
     have hdiv : ((s : Int) + r) / 2 ^ 1 = (((s + r) / 2 : Nat) : Int) := by omega
     obtain ⟨x, hx⟩ := aA_ (l := A) (k := (s + r) / 2 - a) (by omega)
     obtain ⟨y, hy⟩ := aA_ (l := B) (k := mid - (s + r) / 2 - 1) (by omega)
     have zx := zA _ x hx
     rw [show a + ((s + r) / 2 - a) = (s + r) / 2 by omega] at zx
     have zy := zB _ y hy
     have hpc : (mid : Int) + m - 1 - (((s + r) / 2 : Nat) : Int) = ((m + (mid - (s + r) / 2 - 1) : Nat) : Int) := by omega
     have ex := h.e x (mA _ x hx)
     have bx := h.b x (mA _ x hx)
     have ey := h.e y (mB _ y hy)
     have by_ := h.b y (mB _ y hy)
     have hp := hpl2 _ _ x y hx hy
     have R := And.intro dX_ hdiv
     refine aa_ kr_ ?_
     iterate 7 (refine aL_S rfl rfl v_ ?_)
     refine ac_ ?_
     refine ab_ ?_
     have R := And.intro hq (And.intro zx (And.intro zy (And.intro hpc hZN)))
     refine aG_ (.op 0 0 (.op 1 0 (.op 2 0 (.op 3 0 (.op 4 0 (.op 5 0 (.op 6 0 (.op 7 0 (.op 8 0 (.op 9 0 (.op 10 0 (.op 11 1 (.op 12 0 (.op 13 0 .nil)))))))))))))) Tryz.mixed kr_ ?_
     iterate 11 (refine dR_S o_ (by rfl) (by rfl) v_ ?_)
     refine dR_X o_ (by rfl) (by rfl) (ae_ (by rfl) (by rfl) (.inr ⟨va_, by rfl, by rfl⟩) g_ va_ (g4_ (x := y) (y := x) ey ex by_ bx) ?_); rintro _ _ ⟨rfl, rfl⟩; refine ⟨sub_, ?_⟩
     iterate 2 (refine dR_S o_ (by rfl) (by rfl) v_ ?_)
     refine aL_ ?_
     refine ad_ v_ (fun hc35 => ?_) (fun hc35 => ?_)
     ·replace hc35 := nm_ hc35
      have hxy : ahd x y := by unfold ahd; omega
      refine aa_ kr_ ?_
      iterate 3 (refine aL_S rfl rfl v_ ?_)
      refine ac_ ?_
      refine aJ_ (ι := Nat × Nat) (i := ⟨s, r⟩) ((s + r) / 2 + 1, r) ?_ ?_ ?_ ?_
      ·show r - ((s + r) / 2 + 1) < r - s; omega
      ·exact ⟨by show lo ≤ (s + r) / 2 + 1; omega, by show (s + r) / 2 + 1 ≤ r; omega, i3, .inr ⟨x, y, by show A[(s + r) / 2 + 1 - a - 1]? = _; rw [show (s + r) / 2 + 1 - a - 1 = (s + r) / 2 - a by omega]; exact hx, by show B[mid - ((s + r) / 2 + 1)]? = _; rw [show mid - ((s + r) / 2 + 1) = mid - (s + r) / 2 - 1 by omega]; exact hy, hxy⟩, i5⟩
      ·have R := hdiv; exact cv_
      ·exact sub_
     ·replace hc35 := nm_ hc35
      have hyx : ahd y x := .inl (by omega)
      refine aa_ kr_ ?_
      iterate 2 (refine aL_S rfl rfl v_ ?_)
      refine ac_ ?_
      refine aJ_ (ι := Nat × Nat) (i := ⟨s, r⟩) (s, (s + r) / 2) ?_ ?_ ?_ ?_
      ·show (s + r) / 2 - s < r - s; omega
      ·exact ⟨i1, by show s ≤ (s + r) / 2; omega, by show (s + r) / 2 ≤ hi; omega, i4, .inr ⟨y, x, hy, hx, hyx⟩⟩
      ·have R := hdiv; exact cv_
      ·exact sub_
    ·replace hc33 := nm_ hc33
     refine ax_ ?_
     refine ag_ ?_
     refine ag_ ?_
     refine aq_ ?_
     refine ab_ ?_
     obtain rfl : s = r := by omega
     obtain ⟨e, he⟩ : ∃ e, mid - s = e := ⟨_, rfl⟩
     obtain ⟨sa, hsa⟩ : ∃ sa, s - a = sa := ⟨_, rfl⟩
     rw [he, hsa] at i4 i5
     obtain ⟨en, hen⟩ : ∃ en : Nat, en + s = mid + m := ⟨mid + m - s, by omega⟩
     have hen' : (mid : Int) + m - s = (en : Int) := by omega
     have h1 : sa = 0 ∨ B.length ≤ e ∨ ∃ x y, A[sa - 1]? = some x ∧ B[e]? = some y ∧ ahd x y := by
      rcases i4 with g | g
      ·rcases hlh with ⟨g1, g2, g3⟩ | ⟨g1, g2, g3⟩
       ·exact .inr (.inl (by omega))
       ·exact .inl (by omega)
      ·exact .inr (.inr g)
     have h2 : e = 0 ∨ A.length ≤ sa ∨ ∃ x y, B[e - 1]? = some x ∧ A[sa]? = some y ∧ ahd x y := by
      rcases i5 with g | g
      ·rcases hlh with ⟨g1, g2, g3⟩ | ⟨g1, g2, g3⟩
       ·exact .inl (by omega)
       ·exact .inr (.inl (by omega))
      ·exact .inr (.inr g)
     have hsA : sa ≤ A.length := by omega
     have heB : e ≤ B.length := by omega
     have htA : (A.take sa).length = sa := by rw [List.length_take]; omega
     have htB : (B.take e).length = e := by rw [List.length_take]; omega
     have hdA : (A.drop sa).length = A.length - sa := List.length_drop ..
     have hdB : (B.drop e).length = B.length - e := List.length_drop ..
     have hZ2 : Z = (P ++ A.take sa) ++ (A.drop sa ++ (B.take e ++ (B.drop e ++ S))) := by rw [← hZ]; exact s5_ sa e
     obtain ⟨Z1, hZ1⟩ : ∃ Z1, P ++ (A.take sa ++ (B.take e ++ (A.drop sa ++ (B.drop e ++ S)))) = Z1 := ⟨_, rfl⟩
     have hp1 : Z1.Perm Z := by rw [← hZ1, ← hZ]; exact qu_ sa e
     have hO1 := h.set hp1
     have pA := hA.sublist (List.take_sublist sa A)
     have pA2 := hA.sublist (List.drop_sublist sa A)
     have pB := hB.sublist (List.take_sublist e B)
     have pB2 := hB.sublist (List.drop_sublist e B)
     have R := hen'
     refine aa_ kr_ ?_
     iterate 4 (refine aL_S rfl rfl v_ ?_)
     refine ac_ ?_
     refine bp_ (ι := Unit) (fun u => True) (fun u => [(0, .msl o 1 0 N), (1, vInt a), (2, vInt m), (3, vInt b), (4, cmpF), (18, vInt mid), (20, vInt s), (24, vInt en)]) (fun u => (σ.set o (shQ Z1))) ?_ ?_
     ·refine ab_ ?_
      refine aa_ kr_ ?_
      iterate 4 (refine aL_S rfl rfl v_ ?_)
      refine aC_ rfl rfl v_ rfl vg_ ?_
      refine aC_ rfl rfl v_ rfl vg_ ?_
      refine aC_ rfl rfl v_ rfl vg_ ?_
      (refine aL_S rfl rfl v_ ?_)
      refine ac_ ?_
      refine ad_ v_ (fun hc39 => ?_) (fun hc39 => ?_)
      ·replace hc39 := nm_ hc39
       refine aa_ kr_ ?_
       iterate 5 (refine aL_S rfl rfl v_ ?_)
       refine aL_X rfl rfl (ae_ rfl rfl (.inr ⟨rfl, rfl, rfl⟩) g_ va_ (n2_ (P := P ++ A.take sa) (U := A.drop sa) (V := B.take e) (S := B.drop e ++ S) (hZ2 ▸ h) (by rw [List.length_append]; omega) (by omega) (by omega) (by rw [← hZ2]; exact hN) (by omega) (by omega)) ?_); rintro _ _ ⟨rfl, rfl⟩
       refine ac_ ?_
       refine ⟨(), ?_, ?_, ?_⟩
       ·trivial
       ·exact cv_
       ·rw [← hZ1, ← List.append_assoc P (A.take sa)]; exact Store.Wk.refl _
      ·replace hc39 := nm_ hc39
       skip
       have hno : Z1 = Z := by
        rw [← hZ1, hZ2, List.append_assoc]
        congr 2
        rcases (show A.length ≤ sa ∨ e = 0 by omega) with g | g
        ·rw [List.drop_of_length_le g]; simp
        ·rw [g]; simp
       refine ah_ ?_
       refine ⟨(), ?_, ?_, ?_⟩
       ·trivial
       ·exact cv_
       ·rw [hno, Store.set_self hq]; exact Store.Wk.refl _
     ·rintro u _
      simp only [ar_, au_]
      refine bp_ (ι := List Sh) (fun M1 => M1.Perm (A.take sa ++ B.take e) ∧ M1.Pairwise ahd) (fun M1 => [(0, .msl o 1 0 N), (3, vInt b), (4, cmpF), (18, vInt mid), (24, vInt en)]) (fun M1 => (σ.set o (shQ (P ++ (M1 ++ (A.drop sa ++ (B.drop e ++ S))))))) ?_ ?_
      ·refine ab_ ?_
       refine aa_ kr_ ?_
       iterate 4 (refine aL_S rfl rfl v_ ?_)
       refine aC_ rfl rfl v_ rfl vg_ ?_
       refine aC_ rfl rfl v_ rfl vg_ ?_
       refine aC_ rfl rfl v_ rfl vg_ ?_
       (refine aL_S rfl rfl v_ ?_)
       refine ac_ ?_
       refine ad_ v_ (fun hc41 => ?_) (fun hc41 => ?_)
       ·replace hc41 := nm_ hc41
        refine aa_ kr_ ?_
        iterate 5 (refine aL_S rfl rfl v_ ?_)
        refine aL_X rfl rfl (ae_ rfl rfl (.inr ⟨rfl, rfl, rfl⟩) g_ va_ (ih (P := P) (A := A.take sa) (B := B.take e) (S := A.drop sa ++ (B.drop e ++ S)) (by omega) (by rw [hZ1]; exact hO1) ha (by omega) (by omega) (by rw [hZ1, hp1.length_eq]; exact hN) (by omega) (by omega) pA pB (fun x hx y hy => hpl x (List.mem_of_mem_take hx) y (List.mem_of_mem_take hy))) ?_); rintro _ σ1 ⟨rfl, M0, q1, q2, rfl⟩
        refine ac_ ?_
        refine ⟨M0, ?_, ?_, ?_⟩
        ·exact ⟨q1, q2⟩
        ·exact cv_
        ·rw [Store.set_set]; exact Store.Wk.refl _
       ·replace hc41 := nm_ hc41
        skip
        have hno2 : (A.take sa ++ B.take e).Pairwise ahd := by
         rcases (show sa = 0 ∨ e = 0 by omega) with g | g
         ·rw [g, List.take_zero, List.nil_append]; exact pB
         ·rw [g, List.take_zero, List.append_nil]; exact pA
        refine ah_ ?_
        refine ⟨A.take sa ++ B.take e, ?_, ?_, ?_⟩
        ·exact ⟨.refl _, hno2⟩
        ·exact cv_
        ·rw [List.append_assoc, hZ1]; exact Store.Wk.refl _
      ·rintro M1 ⟨p1, s1⟩
       simp only [ar_, au_]
       refine ab_ ?_
       have hM1 : M1.length = mid - a := by have := p1.length_eq; rw [List.length_append] at this; omega
       have hp2 : (P ++ (M1 ++ (A.drop sa ++ (B.drop e ++ S)))).Perm Z := by
        refine List.Perm.trans ?_ hp1
        rw [← hZ1]
        refine List.Perm.append_left _ ?_
        rw [← List.append_assoc (A.take sa)]
        exact List.Perm.append_right _ p1
       have hO2 := h.set hp2
       refine aa_ kr_ ?_
       iterate 4 (refine aL_S rfl rfl v_ ?_)
       refine aC_ rfl rfl v_ rfl vg_ ?_
       refine aC_ rfl rfl v_ rfl vg_ ?_
       refine aC_ rfl rfl v_ rfl vg_ ?_
       (refine aL_S rfl rfl v_ ?_)
       refine ac_ ?_
       refine ad_ v_ (fun hc43 => ?_) (fun hc43 => ?_)
       ·replace hc43 := nm_ hc43
        refine aa_ kr_ ?_
        iterate 5 (refine aL_S rfl rfl v_ ?_)
        refine aL_X rfl rfl (ae_ rfl rfl (.inr ⟨rfl, rfl, rfl⟩) g_ va_ (ih (P := P ++ M1) (A := A.drop sa) (B := B.drop e) (S := S) (by omega) (by rw [List.append_assoc]; exact hO2) (by rw [List.length_append]; omega) (by omega) (by omega) (by rw [List.append_assoc, hp2.length_eq]; exact hN) (by omega) (by omega) pA2 pB2 (fun x hx y hy => hpl x (List.mem_of_mem_drop hx) y (List.mem_of_mem_drop hy))) ?_); rintro _ σ2 ⟨rfl, M2, q3, q4, rfl⟩
        refine ac_ ?_
        obtain ⟨f1, f2⟩ := jo_ hA hB h1 h2 p1 s1 q3 q4
        exact aP_ (σ' := σ.set o (shQ (P ++ ((M1 ++ M2) ++ S)))) va_ (by rw [Store.set_set, List.append_assoc P, List.append_assoc M1]; exact Store.Wk.refl _) ⟨rfl, M1 ++ M2, f1, f2, rfl⟩
       ·replace hc43 := nm_ hc43
        skip
        have hno3 : (A.drop sa ++ B.drop e).Pairwise ahd := by
         rcases (show A.length ≤ sa ∨ B.length ≤ e by omega) with g | g
         ·rw [List.drop_of_length_le g, List.nil_append]; exact pB2
         ·rw [List.drop_of_length_le g, List.append_nil]; exact pA2
        refine ah_ ?_
        obtain ⟨f1, f2⟩ := jo_ hA hB h1 h2 p1 s1 (.refl _) hno3
        exact aP_ (σ' := σ.set o (shQ (P ++ ((M1 ++ (A.drop sa ++ B.drop e)) ++ S)))) va_ (by rw [List.append_assoc M1, List.append_assoc (A.drop sa)]; exact Store.Wk.refl _) ⟨rfl, _, f1, f2, rfl⟩
theorem my_ : ∀ n, SymC n
 |0 => fun hn _ _ _ _ _ h0 _ _ _ _ => by omega
 |n + 1 => fun hn h ha hm hb hN hA0 hB0 hA hB hpl => mz_ (my_ n) hn h ha hm hb hN hA0 hB0 hA hB hpl
end Go.Proofs.YtkcmbjodladflaaGreatDoor
end

section
set_option linter.all false
set_option maxRecDepth 100000
namespace Go.Proofs.YtkcmbjodladflaaGreatDoor
open Go.Ab
theorem mx_ {P C S : List Sh} {i k : Nat} (hi : i < C.length) (hk : k < C.length) : cd_ (P ++ (C ++ S)) (P.length + i) (P.length + k) = P ++ (cd_ C i k ++ S) := by
 obtain ⟨x, hx⟩ := aA_ hi
 obtain ⟨y, hy⟩ := aA_ hk
 rw [do_ (getA hx) (getA hy), do_ hx hy, List.set_append_right _ _ (by omega), List.set_append_right _ _ (by omega), Nat.add_sub_cancel_left, Nat.add_sub_cancel_left, List.set_append_left _ _ hi, List.set_append_left _ _ (by rw [List.length_set]; exact hk)]
set_option maxHeartbeats 1000000 in
theorem jb_ {N o a b : Nat} {P D S : List Sh} {σ : Store} (h : OkQ σ o (P ++ (D ++ S))) (ha : a = P.length) (hb : b = a + D.length) (hN : N = (P ++ (D ++ S)).length) :
  ao_ Tryz.prog 225 [.msl o 1 0 N, vInt a, vInt b, cmpF] σ fun v σ' => v = .tup [] ∧ σ' = σ.set o (shQ (P ++ (cE_ D D.length ++ S))) := by
 have hlen : N = P.length + (D.length + S.length) := by rw [hN]; simp
 have hl := h.l
 rw [← hN] at hl
 refine aj_ Tryz.func225 rfl Tryz.ntmps225 (congrArg Array.toList Tryz.results225) (by simp only [List.length_cons, List.length_nil]; decide) ?_; simp only [af_, ak_, Nat.reduceAdd]
 refine ab_ ?_
 refine aa_ kr_ ?_
 iterate 3 (refine aL_S rfl rfl v_ ?_)
 refine ac_ ?_
 refine al_ ?_
 refine ap_ (ι := Nat) (fun i => b - i) (fun i => a + 1 ≤ i ∧ (i ≤ b ∨ i = a + 1)) (fun i => [(0, .msl o 1 0 N), (1, vInt a), (2, vInt b), (3, cmpF), (8, vInt i)]) (fun i => (σ.set o (shQ (P ++ (cE_ D (i - a) ++ S))))) (a + 1) ?_ ?_ ?_ ?_
 ·exact ⟨Nat.le_refl _, .inr rfl⟩
 ·exact cv_
 ·rw [show a + 1 - a = 1 by omega, show cE_ D 1 = D from rfl, Store.set_self h.q]; exact Store.Wk.refl _
 rintro i ⟨g1, g2⟩
 simp only [ar_, au_]
 refine ab_ ?_
 refine ab_ ?_
 refine aa_ kr_ ?_
 iterate 3 (refine aL_S rfl rfl v_ ?_)
 refine ac_ ?_
 refine ad_ v_ (fun hc1 => ?_) (fun hc1 => ?_)
 ·replace hc1 := nm_ hc1
  refine ah_ ?_
  refine ab_ ?_
  refine al_ ?_
  refine ab_ ?_
  refine aa_ kr_ ?_
  iterate 2 (refine aL_S rfl rfl v_ ?_)
  refine ac_ ?_
  refine al_ ?_
  refine ap_ (ι := Nat × List Sh) (fun ⟨j, C⟩ => j) (fun ⟨j, C⟩ => a ≤ j ∧ j ≤ i ∧ C.Perm D ∧ eV_ C (j - a) = cE_ D (i + 1 - a)) (fun ⟨j, C⟩ => [(0, .msl o 1 0 N), (1, vInt a), (2, vInt b), (3, cmpF), (8, vInt i), (9, vInt j)]) (fun ⟨j, C⟩ => (σ.set o (shQ (P ++ (C ++ S))))) (i, cE_ D (i - a)) ?_ ?_ ?_ ?_
  ·exact ⟨by show a ≤ i; omega, Nat.le_refl i, go_ D _, by show eV_ (cE_ D (i - a)) (i - a) = _; rw [show i + 1 - a = (i - a) + 1 by omega]; rfl⟩
  ·exact cv_
  ·exact Store.Wk.refl _
  rintro ⟨j, C⟩ ⟨k0, k1, k2, k3⟩
  simp only [ar_, au_]
  refine ab_ ?_
  refine ab_ ?_
  have hCl := k2.length_eq
  have hib : i < b := by omega
  have hO : OkQ (σ.set o (shQ (P ++ (C ++ S)))) o (P ++ (C ++ S)) := h.set (List.Perm.append_left _ (List.Perm.append_right _ k2))
  have hZN : (P ++ (C ++ S)).length = N := by rw [hlen]; simp; omega
  obtain ⟨x, hx⟩ := aA_ (l := C) (k := j - a) (by omega)
  obtain ⟨y, hy⟩ := aA_ (l := C) (k := j - 1 - a) (by omega)
  have hy' : C[j - a - 1]? = some y := by rw [show j - a - 1 = j - 1 - a by omega]; exact hy
  have zx := getA (P := P) (R := S) hx
  rw [show P.length + (j - a) = j by omega] at zx
  have zy : a < j → (P ++ (C ++ S))[j - 1]? = some y := fun hh => by have := getA (P := P) (R := S) hy; rwa [show P.length + (j - 1 - a) = j - 1 by omega] at this
  have ex := hO.e x (List.mem_of_getElem? zx)
  have bx := hO.b x (List.mem_of_getElem? zx)
  have mY : y ∈ P ++ (C ++ S) := List.mem_append_right _ (List.mem_append_left _ (List.mem_of_getElem? hy))
  have ey := hO.e y mY
  have by_ := hO.b y mY
  have hj1 : a < j → (j : Int) - 1 = ((j - 1 : Nat) : Int) := by omega
  have hsw0 := mx_ (P := P) (S := S) (C := C) (i := j - a) (k := j - 1 - a) (by omega)
  obtain ⟨Y, hY⟩ : ∃ Y, P ++ (C ++ S) = Y := ⟨_, rfl⟩
  rw [hY] at zx zy hZN hO ex ey hsw0 ⊢
  have R := And.intro zx (And.intro zy (And.intro hj1 hZN))
  refine aG_ (.op 0 0 (.op 1 0 (.op 2 0 (.op 3 0 (.op 4 0 (.op 5 0 (.op 6 0 (.op 7 0 (.op 8 0 (.op 9 0 (.op 10 0 (.op 11 0 (.op 12 0 (.op 13 0 (.op 14 1 (.op 15 0 (.op 16 0 .nil))))))))))))))))) Tryz.mixed kr_ ?_
  iterate 4 (refine dR_S o_ (by rfl) (by rfl) v_ ?_)
  refine bk_ o_ (by rfl) (by rfl) v_ (by rfl) vg_ ?_
  refine bk_ o_ (by rfl) (by rfl) v_ (by rfl) vg_ ?_
  refine bk_ o_ (by rfl) (by rfl) v_ (by rfl) vg_ ?_
  refine bk_ o_ (by rfl) (by rfl) v_ (by rfl) vg_ ?_
  refine bk_ o_ (by rfl) (by rfl) v_ (by rfl) vg_ ?_
  refine bk_ o_ (by rfl) (by rfl) v_ (by rfl) vg_ ?_
  refine bk_ o_ (by rfl) (by rfl) v_ (by rfl) vg_ ?_
  refine bk_ o_ (by rfl) (by rfl) v_ (by rfl) vg_ ?_
  refine bk_ o_ (by rfl) (by rfl) v_ (by rfl) vg_ ?_
  refine bk_ o_ (by rfl) (by rfl) v_ (by rfl) vg_ ?_
  refine rd_ o_ (by rfl) (by rfl) v_ (by rfl) sub_ (fun hb => aK_ (by rfl) (by rfl) (.inr ⟨vh_, by rfl, by rfl⟩) g_ cg_ (g4_ ex ey bx by_)) ?_
  refine bk_ o_ (by rfl) (by rfl) v_ (by rfl) vg_ ?_
  (refine dR_S o_ (by rfl) (by rfl) v_ ?_)
  refine aL_ ?_
  refine ad_ v_ (fun hc4 => ?_) (fun hc4 => ?_)
  ·replace hc4 := nm_ hc4
   refine ah_ ?_
   refine ab_ ?_
   refine al_ ?_
   have R := And.intro zx (And.intro zy (And.intro hj1 (And.intro hZN @Store.set_set)))
   refine aG_ (.op 0 0 (.op 1 0 (.op 2 0 (.op 3 0 (.any 4 (.op 5 0 (.op 6 0 (.op 7 0 (.op 8 0 (.op 9 0 (.op 10 0 (.op 11 0 (.op 12 0 (.op 13 0 (.op 14 0 (.op 15 2 (.op 16 0 (.op 17 2 .nil)))))))))))))))))) Tryz.mixed kr_ ?_
   iterate 4 (refine dR_S o_ (by rfl) (by rfl) v_ ?_)
   refine dR_A o_ (by rfl) (by rfl) (fun _ => v_) ?_
   iterate 10 (refine dR_S o_ (by rfl) (by rfl) v_ ?_)
   refine aM_ o_ (by rfl) (by rfl) (by rfl) v_ v_ h_ g_ rfl g_ c_ (by rfl) le_ (bs_ le_) ?_
   (refine dR_S o_ (by rfl) (by rfl) v_ ?_)
   refine aM_ o_ (by rfl) (by rfl) (by rfl) v_ v_ h_ g_ rfl g_ c_ (by rfl) le_ (bs_ le_) ?_
   refine aL_ ?_
   have hsw : cd_ Y j (j - 1) = P ++ (cd_ C (j - a) (j - 1 - a) ++ S) := by
    have := hsw0 (by omega)
    rwa [show P.length + (j - a) = j by omega, show P.length + (j - 1 - a) = j - 1 by omega] at this
   simp only [Store.set_set, dK_ zx (zy (by omega))]
   have R := hj1
   refine aa_ kr_ ?_
   iterate 3 (refine aL_S rfl rfl v_ ?_)
   refine ac_ ?_
   refine aJ_ (ι := Nat × List Sh) (i := ⟨j, C⟩) (j - 1, cd_ C (j - a) (j - 1 - a)) ?_ ?_ ?_ ?_
   ·show j - 1 < j; omega
   ·exact ⟨by show a ≤ j - 1; omega, by show j - 1 ≤ i; omega, (ce_ ..).trans k2, by rw [← k3, nF_ (by omega) hx hy' (by omega), show j - 1 - a = j - a - 1 by omega]⟩
   ·have R := hj1; exact cv_
   ·rw [← hsw]; exact Store.Wk.refl _
  ·replace hc4 := nm_ hc4
   refine ax_ ?_
   refine ag_ ?_
   refine ag_ ?_
   refine aq_ ?_
   have hfin : C = cE_ D (i + 1 - a) := by
    rw [← k3, pz_ hx hy' (fun hh => by omega)]
   rw [← hY]
   refine aa_ kr_ ?_
   iterate 3 (refine aL_S rfl rfl v_ ?_)
   refine ac_ ?_
   refine aJ_ (ι := Nat) (i := i) (i + 1) ?_ ?_ ?_ ?_
   ·omega
   ·omega
   ·exact cv_
   ·rw [hfin]; exact Store.Wk.refl _
 ·replace hc1 := nm_ hc1
  refine ax_ ?_
  refine ag_ ?_
  refine ag_ ?_
  refine aq_ ?_
  skip
  have hf : cE_ D (i - a) = cE_ D D.length := by
   rcases (show i = b ∨ (D.length = 0 ∧ i = a + 1) by omega) with g | ⟨g1, g2⟩
   ·rw [show i - a = D.length by omega]
   ·rw [g1, show i - a = 1 by omega]; rfl
  exact aP_ (σ' := σ.set o (shQ (P ++ (cE_ D D.length ++ S)))) va_ (by rw [hf]; exact Store.Wk.refl _) ⟨rfl, rfl⟩
structure Seg (bs : Nat) (L Z : List Sh) : Prop where
 len : Z.length = L.length
 at_ : ∀ k, ((Z.drop (k * bs)).take bs).Perm ((L.drop (k * bs)).take bs) ∧ ((Z.drop (k * bs)).take bs).Pairwise ahd
theorem Seg.nil (bs : Nat) : Seg bs [] [] := ⟨rfl, fun k => by simp⟩
theorem Seg.snoc {bs q : Nat} {L D l m : List Sh} (h : Seg bs L D) (hq : L.length = q * bs) (hl : l.length ≤ bs) (hm : m.Perm l) (hs : m.Pairwise ahd) : Seg bs (L ++ l) (D ++ m) := by
 have hD : D.length = q * bs := h.len.trans hq
 have hml := hm.length_eq
 refine ⟨by rw [List.length_append, List.length_append, h.len, hml], fun k => ?_⟩
 rcases Nat.lt_trichotomy k q with hk | hk | hk
 ·have h1 : (k + 1) * bs ≤ q * bs := Nat.mul_le_mul_right bs hk
  rw [Nat.succ_mul] at h1
  rw [List.drop_append_of_le_length (by omega), List.drop_append_of_le_length (by omega), List.take_append_of_le_length (by rw [List.length_drop]; omega), List.take_append_of_le_length (by rw [List.length_drop]; omega)]
  exact h.at_ k
 ·subst hk
  rw [← hD, List.drop_left, hD, ← hq, List.drop_left, List.take_of_length_le (by omega), List.take_of_length_le hl]
  exact ⟨hm, hs⟩
 ·have h1 : (q + 1) * bs ≤ k * bs := Nat.mul_le_mul_right bs hk
  rw [Nat.succ_mul] at h1
  rw [List.drop_of_length_le (by rw [List.length_append]; omega), List.drop_of_length_le (by rw [List.length_append]; omega)]
  simp
theorem Seg.all {bs : Nat} {L Z : List Sh} (h : Seg bs L Z) (hb : L.length ≤ bs) : Z.Perm L ∧ Z.Pairwise ahd := by
 have := h.at_ 0
 rw [Nat.zero_mul, List.drop_zero, List.drop_zero, List.take_of_length_le (by rw [h.len]; exact hb), List.take_of_length_le hb] at this
 exact this
theorem Seg.perm {bs : Nat} {L Z : List Sh} (h : Seg bs L Z) (hb : 0 < bs) : Z.Perm L := by
 have key : ∀ k, (Z.take (k * bs)).Perm (L.take (k * bs)) := by
  intro k
  induction k with
  |zero => simp
  |succ k ih =>
   rw [Nat.succ_mul, List.take_add, List.take_add]
   exact ih.append (h.at_ k).1
 have := key L.length
 have hle : L.length ≤ L.length * bs := Nat.le_mul_of_pos_right _ hb
 rwa [List.take_of_length_le (by rw [h.len]; exact hle), List.take_of_length_le hle] at this
theorem jx_ {L : List Sh} {a b c : Nat} (h : L.Pairwise fun x y => x.pl < y.pl) : ∀ x ∈ (L.drop a).take b, ∀ y ∈ (L.drop (a + b)).take c, x.pl < y.pl := fun x hx y hy => by
 rw [← List.take_append_drop a L, List.pairwise_append] at h
 have h2 := h.2.1
 rw [← List.take_append_drop b (L.drop a), List.pairwise_append, List.drop_drop] at h2
 exact h2.2.2 x hx y (List.mem_of_mem_take hy)
theorem nK_ {A B : List Sh} (h : A.Perm B) {x : Sh} (hx : x ∈ A) : x ∈ B := h.mem_iff.1 hx
end Go.Proofs.YtkcmbjodladflaaGreatDoor
end
