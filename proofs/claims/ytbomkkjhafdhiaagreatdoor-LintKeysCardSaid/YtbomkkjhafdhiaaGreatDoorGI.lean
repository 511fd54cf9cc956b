/-
  Rights: the program; How many partitions each of some names has: the program; Warnings gathered: the program's checker; Warnings of partitions: the program's checker; Warnings of buckets: the program's checker; All warnings: the program; What must come of warnings, whatever the arguments are; LintKeys. Own work (an AI agent).
-/
import Derived.Test.YtbomkkjhafdhiaaGreatDoorGH
import Derived.Test.YtbomkkjhafdhiaaGreatDoorGG

section
set_option linter.all false
set_option maxRecDepth 100000
namespace Go.Proofs.YtbomkkjhafdhiaaGreatDoor
open Go.Ab
/-- rights as letters -/
def txtA (n : Nat) : ByteArray := B ((if n % 2 = 1 then [114] else []) ++ ((if n / 2 % 2 = 1 then [119] else []) ++ (if n / 4 % 2 = 1 then [108] else [])))
def rgtA (s : ByteArray) : Option Nat := (List.range 8).find? fun n => decide (txtA n = s)
theorem letters_c {σ : Store} : ACalls Tryz.prog 173 [] σ fun v σ' => v = .agg [vStr ⟨#[114]⟩, vStr ⟨#[119]⟩, vStr ⟨#[108]⟩] ∧ σ = σ' := by
  refine ACalls_of Tryz.func173 rfl Tryz.ntmps173 (congrArg Array.toList Tryz.results173) (by simp only [List.length_cons, List.length_nil]; decide) ?_; simp only [envOf_cons, envOf_nil, Nat.reduceAdd]
  refine awp_seq ?_
  refine awp_region (by kernel_rfl) ?_
  refine aL_alloc rfl rfl rfl g_ gl_ fun o0 ho0 => ?_
  repeat (rw [none_set_iff] at ho0; obtain ⟨_, ho0⟩ := ho0)
  refine aL_nil ?_
  refine awp_seq ?_
  refine awp_region (by kernel_rfl) ?_
  (refine aL_S rfl rfl v_ ?_)
  refine aL_store rfl rfl rfl v_ v_ h_ g_ rfl g_ c_ (by rfl) le_ v_ ?_
  refine aL_nil ?_
  refine awp_ret ?_
  refine aEnd_ret (σ' := σ) v_ sub_ ?_
  exact ⟨rfl, rfl⟩
def ltr (k : Nat) : List UInt8 := if k = 0 then [114] else if k = 1 then [119] else if k = 2 then [108] else []
def txtTo (n : Nat) : Nat → List UInt8
  | 0 => []
  | k + 1 => txtTo n k ++ (if n / 2 ^ k % 2 = 1 then ltr k else [])
theorem txt_eq (n : Nat) : txtA n = B (txtTo n 3) := by
  unfold txtA txtTo txtTo txtTo txtTo ltr
  simp
theorem bAnd_1 (n : Int) : bAnd .i64 n 1 = n % 2 := by
  unfold bAnd
  rw [show IntKind.i64.bits = 64 from rfl, BitVec.toNat_and, show (BitVec.ofInt 64 1).toNat = 2 ^ 1 - 1 from rfl, Nat.and_two_pow_sub_one_eq_mod, BitVec.toNat_ofInt]
  have e : (((n % ((2 ^ 64 : Nat) : Int)).toNat % 2 ^ 1 : Nat) : Int) = n % 2 := by omega
  rw [e, wrap_i64 _ (by omega) (by omega)]
theorem txtTo_len (n : Nat) : ∀ k, (txtTo n k).length ≤ k
  | 0 => Nat.le_refl _
  | k + 1 => by
    have := txtTo_len n k
    have h2 : (if n / 2 ^ k % 2 = 1 then ltr k else []).length ≤ 1 := by
      split
      · unfold ltr; repeat' split
        all_goals simp
      · simp
    rw [txtTo, List.length_append]; omega
theorem bit_cast (n k : Nat) : (n : Int) / 2 ^ k % 2 = ((n / 2 ^ k % 2 : Nat) : Int) := by
  rw [Int.natCast_emod, Int.natCast_ediv, Int.natCast_pow]; rfl
theorem text_c {n : Nat} {σ : Store} (hn : n < 8) : ACalls Tryz.prog 161 [vInt n] σ fun v σ' => v = vStr (txtA n) ∧ σ = σ' := by
  rw [txt_eq]
  refine ACalls_of Tryz.func161 rfl Tryz.ntmps161 (congrArg Array.toList Tryz.results161) (by simp only [List.length_cons, List.length_nil]; decide) ?_; simp only [envOf_cons, envOf_nil, Nat.reduceAdd]
  refine awp_seq ?_
  refine awp_region (by kernel_rfl) ?_
  (refine aL_S rfl rfl v_ ?_)
  refine aL_nil ?_
  refine awp_seq ?_
  refine awp_region (by kernel_rfl) ?_
  (refine aL_S rfl rfl v_ ?_)
  refine aL_nil ?_
  refine awp_seq ?_
  refine awp_seq ?_
  refine awp_region (by kernel_rfl) ?_
  iterate 3 (refine aL_S rfl rfl v_ ?_)
  refine aL_GF rfl rfl v_ rfl vg_ ?_
  refine aL_GF rfl rfl v_ rfl vg_ ?_
  (refine aL_S rfl rfl v_ ?_)
  refine aL_nil ?_
  refine awp_cond v_ (fun hc2 => ?_) (fun hc2 => ?_)
  · replace hc2 := nm_ hc2
    omega
  · replace hc2 := nm_ hc2
    refine awp_skip ?_
    refine awp_seq ?_
    refine awp_seq ?_
    refine awp_region (by kernel_rfl) ?_
    refine aL_X rfl rfl (AOp_use rfl rfl (.inr ⟨rfl, rfl, rfl⟩) g_ va_ (letters_c) ?_); rintro _ _ ⟨rfl, rfl⟩
    (refine aL_S rfl rfl v_ ?_)
    refine aL_nil ?_
    refine awp_block ?_
    refine awp_loop_env (ι := Nat) (fun k => 3 - k) (fun k => k ≤ 3) (fun k => [(0, vInt n), (3, vStr (B (txtTo n k))), (13, .agg [vStr ⟨#[114]⟩, vStr ⟨#[119]⟩, vStr ⟨#[108]⟩]), (14, vInt k)]) (fun k => σ) 0 ?_ ?_ ?_ ?_
    · exact Nat.zero_le _
    · exact cv_
    · exact sub_
    rintro k hk
    simp only [envL_cons, envL_nil]
    refine awp_seq ?_
    refine awp_region (by kernel_rfl) ?_
    (refine aL_S rfl rfl v_ ?_)
    refine aL_nil ?_
    refine awp_seq ?_
    refine awp_cond v_ (fun hc5 => ?_) (fun hc5 => ?_)
    · replace hc5 := nm_ hc5
      refine awp_skip ?_
      refine awp_seq ?_
      refine awp_block ?_
      refine awp_seq ?_
      have hlk : ([vStr ⟨#[114]⟩, vStr ⟨#[119]⟩, vStr ⟨#[108]⟩] : List AVal)[k]? = some (vStr (B (ltr k))) := by
        match k, (show k < 3 by omega) with
        | 0, _ => rfl
        | 1, _ => rfl
        | 2, _ => rfl
      have htl := txtTo_len n k
      have hll : (ltr k).length ≤ 1 := by unfold ltr; repeat' split
                                          all_goals simp
      have R := hlk
      refine awp_region (by kernel_rfl) ?_
      iterate 4 (refine aL_S rfl rfl v_ ?_)
      refine aL_nil ?_
      refine awp_seq ?_
      have R := And.intro bAnd_1 bit_cast
      refine awp_region (by kernel_rfl) ?_
      iterate 5 (refine aL_S rfl rfl v_ ?_)
      refine aL_nil ?_
      refine awp_cond v_ (fun hc7 => ?_) (fun hc7 => ?_)
      · replace hc7 := nm_ hc7
        have hcov : txtTo n (k + 1) = txtTo n k ++ ltr k := by rw [txtTo, if_pos (by omega)]
        refine awp_region (by kernel_rfl) ?_
        iterate 4 (refine aL_S rfl rfl v_ ?_)
        refine aL_nil ?_
        refine awp_region (by kernel_rfl) ?_
        iterate 2 (refine aL_S rfl rfl v_ ?_)
        refine aL_nil ?_
        refine aNext (ι := Nat) (i := k) (k + 1) ?_ ?_ ?_ ?_
        · omega
        · exact (by omega)
        · have R := hcov; exact cv_
        · exact sub_
      · replace hc7 := nm_ hc7
        have hcov : txtTo n (k + 1) = txtTo n k := by rw [txtTo, if_neg (by omega), List.append_nil]
        refine awp_skip ?_
        refine awp_region (by kernel_rfl) ?_
        iterate 2 (refine aL_S rfl rfl v_ ?_)
        refine aL_nil ?_
        refine aNext (ι := Nat) (i := k) (k + 1) ?_ ?_ ?_ ?_
        · omega
        · exact (by omega)
        · have R := hcov; exact cv_
        · exact sub_
    · replace hc5 := nm_ hc5
      refine awp_exit ?_
      refine aThen_exit ?_
      refine aThen_exit ?_
      refine aBlock_hit ?_
      refine awp_seq ?_
      obtain rfl : k = 3 := by omega
      refine awp_region (by kernel_rfl) ?_
      iterate 2 (refine aL_S rfl rfl v_ ?_)
      refine aL_nil ?_
      refine awp_ret ?_
      refine aEnd_ret (σ' := σ) v_ sub_ ?_
      exact ⟨rfl, rfl⟩
theorem rights_c {s : ByteArray} {σ : Store} : ACalls Tryz.prog 144 [vStr s] σ fun v σ' => v = .tup [vInt ((rgtA s).getD 0 : Nat), vB (rgtA s).isSome] ∧ σ = σ' := by
  refine ACalls_of Tryz.func144 rfl Tryz.ntmps144 (congrArg Array.toList Tryz.results144) (by simp only [List.length_cons, List.length_nil]; decide) ?_; simp only [envOf_cons, envOf_nil, Nat.reduceAdd]
  refine awp_seq ?_
  refine awp_region (by kernel_rfl) ?_
  iterate 2 (refine aL_S rfl rfl v_ ?_)
  refine aL_nil ?_
  refine awp_seq ?_
  refine awp_seq ?_
  refine awp_region (by kernel_rfl) ?_
  (refine aL_S rfl rfl v_ ?_)
  refine aL_nil ?_
  refine awp_block ?_
  refine awp_loop_env (ι := Nat) (fun k => 8 - k) (fun k => k ≤ 8 ∧ ∀ j, j < k → decide (txtA j = s) = false) (fun k => [(0, vStr s), (5, vInt k)]) (fun k => σ) 0 ?_ ?_ ?_ ?_
  · exact ⟨Nat.zero_le _, fun j h => by omega⟩
  · exact cv_
  · exact sub_
  rintro k ⟨hk, ha⟩
  simp only [envL_cons, envL_nil]
  refine awp_seq ?_
  refine awp_region (by kernel_rfl) ?_
  (refine aL_S rfl rfl v_ ?_)
  refine aL_nil ?_
  refine awp_seq ?_
  refine awp_cond v_ (fun hc2 => ?_) (fun hc2 => ?_)
  · replace hc2 := nm_ hc2
    refine awp_skip ?_
    refine awp_seq ?_
    refine awp_block ?_
    refine awp_seq ?_
    refine awp_region (by kernel_rfl) ?_
    iterate 2 (refine aL_S rfl rfl v_ ?_)
    refine aL_nil ?_
    refine awp_seq ?_
    refine awp_region (by kernel_rfl) ?_
    (refine aL_S rfl rfl v_ ?_)
    refine aL_X rfl rfl (AOp_use rfl rfl (.inr ⟨rfl, rfl, rfl⟩) g_ va_ (text_c (by omega)) ?_); rintro _ _ ⟨rfl, rfl⟩
    iterate 2 (refine aL_S rfl rfl v_ ?_)
    refine aL_nil ?_
    refine awp_cond v_ (fun hc4 => ?_) (fun hc4 => ?_)
    · replace hc4 := nm_ hc4
      refine awp_seq ?_
      refine awp_region (by kernel_rfl) ?_
      iterate 3 (refine aL_S rfl rfl v_ ?_)
      refine aL_nil ?_
      refine awp_ret ?_
      refine aEnd_ret (σ' := σ) v_ sub_ ?_
      have hr : rgtA s = some k := by
        unfold rgtA
        exact find_at (l := List.range 8) (List.getElem?_range (by omega)) (decide_eq_true hc4) (fun m y hm hy => by rw [List.getElem?_range (by omega)] at hy; obtain rfl := Option.some.inj hy; exact ha m hm)
      exact ⟨by rw [hr]; rfl, rfl⟩
    · replace hc4 := nm_ hc4
      refine awp_skip ?_
      refine awp_region (by kernel_rfl) ?_
      iterate 2 (refine aL_S rfl rfl v_ ?_)
      refine aL_nil ?_
      refine aNext (ι := Nat) (i := k) (k + 1) ?_ ?_ ?_ ?_
      · omega
      · exact ⟨by omega, fun j hj => by rcases Nat.lt_or_eq_of_le (Nat.le_of_lt_succ hj) with h | h; exact ha j h; rw [h]; exact decide_eq_false hc4⟩
      · exact cv_
      · exact sub_
  · replace hc2 := nm_ hc2
    refine awp_exit ?_
    refine aThen_exit ?_
    refine aThen_exit ?_
    refine aBlock_hit ?_
    refine awp_seq ?_
    refine awp_region (by kernel_rfl) ?_
    iterate 2 (refine aL_S rfl rfl v_ ?_)
    refine aL_nil ?_
    refine awp_ret ?_
    refine aEnd_ret (σ' := σ) v_ sub_ ?_
    have hr : rgtA s = none := by
      unfold rgtA
      rw [List.find?_eq_none]
      intro y hy
      rw [ha y (by have := List.mem_range.1 hy; omega)]; simp
    exact ⟨by rw [hr]; rfl, rfl⟩
end Go.Proofs.YtbomkkjhafdhiaaGreatDoor
end

section
set_option linter.all false
set_option maxRecDepth 100000
namespace Go.Proofs.YtbomkkjhafdhiaaGreatDoor
open Go.Ab
open Go.MapKept (IsKey)
def cnt (l : List ByteArray) (s : ByteArray) : Nat := l.countP fun x => decide (x = s)
theorem cnt_take {l : List ByteArray} {i : Nat} {x s : ByteArray} (hx : l[i]? = some x) : cnt (l.take (i + 1)) s = cnt (l.take i) s + if x = s then 1 else 0 := by
  unfold cnt
  rw [List.take_succ, hx, List.countP_append]
  by_cases h : x = s <;> simp [h]
theorem cnt_le (l : List ByteArray) (s : ByteArray) : cnt l s ≤ l.length := List.countP_le_length
def loadsS (o n : List ByteArray) : List Int := n.map fun s => (cnt o s : Int)

/-! ### counts by name -/
def kvC (M : List (ByteArray × Int)) : List (Value × AVal) := M.map fun p => (.string p.1, vInt p.2)
def getC (M : List (ByteArray × Int)) (s : ByteArray) : Int := match M.find? (fun p => decide (p.1 = s)) with | some p => p.2 | none => 0
def putC (M : List (ByteArray × Int)) (s : ByteArray) (n : Int) : List (ByteArray × Int) := match M with
  | [] => [(s, n)]
  | p :: M => if p.1 = s then (s, n) :: M else p :: putC M s n
theorem kvC_keys (M : List (ByteArray × Int)) : ∀ x ∈ kvC M, IsKey .string x.1 := by
  intro x hx
  obtain ⟨p, _, rfl⟩ := List.mem_map.1 hx
  trivial
theorem kvPut_C (s : ByteArray) (n : Int) : ∀ M, kvPut (.string s) (vInt n) (kvC M) = kvC (putC M s n)
  | [] => rfl
  | p :: M => by
    have ih := kvPut_C s n M
    unfold kvC at ih ⊢
    unfold putC
    by_cases h : p.1 = s
    · simp [kvPut, keyEq, h]
    · simp only [List.map_cons, kvPut, keyEq, h, decide_false, Bool.false_eq_true, if_false]
      rw [ih]
theorem getC_put (s t : ByteArray) (n : Int) : ∀ M, getC (putC M s n) t = if s = t then n else getC M t
  | [] => by by_cases h : s = t <;> simp [getC, putC, h]
  | p :: M => by
    have ih := getC_put s t n M
    unfold getC at ih ⊢
    unfold putC
    by_cases h : p.1 = s
    · rw [if_pos h]
      simp only [List.find?_cons]
      by_cases h2 : s = t
      · simp [h2]
      · simp [h2, h]
    · rw [if_neg h]
      simp only [List.find?_cons]
      by_cases h2 : p.1 = t
      · have : ¬ s = t := fun hh => h (h2.trans hh.symm)
        simp [h2, this]
      · simp only [h2, decide_false]
        exact ih
theorem afind_C (s : ByteArray) : ∀ M, afindNow .string (.string s) (kvC M) = some ((M.find? fun p => decide (p.1 = s)).map fun p => vInt p.2)
  | [] => rfl
  | p :: M => by
    have ih := afind_C s M
    unfold kvC at ih ⊢
    rw [List.map_cons, afindNow, List.find?_cons]
    simp only [Instr.sameNow]
    by_cases h : p.1 = s
    · have h' : (s == s) = true := (Go.MapKept.bytes_beq s s).2 rfl
      rw [h, h']
      simp
    · have h' : (s == p.1) = false := by
        cases hh : (s == p.1) with
        | false => rfl
        | true => exact absurd (((Go.MapKept.bytes_beq _ _).1 hh).symm) h
      rw [h']
      simp only [h, decide_false]
      exact ih
theorem look_C {σ : Store} {o : Nat} {M : List (ByteArray × Int)} (h : σ.heap o = some (.map (kvC M))) (s : ByteArray) : alookup Tryz.prog σ 158 (.map o) (.lit (.string s)) false = some (vInt (getC M s)) := by
  have h1 : amapOf σ (.map o) = some (kvC M) := by simp [amapOf, h]
  unfold alookup
  simp only [go_sem, h1, plainKey, afind_C, if_true]
  unfold getC
  cases M.find? (fun p => decide (p.1 = s)) <;> rfl

theorem cnt_step {ow : List ByteArray} {i : Nat} {M : List (ByteArray × Int)} {x : ByteArray} (h : ∀ s, getC M s = (cnt (ow.take i) s : Int)) (hx : ow[i]? = some x) : ∀ s, getC (putC M x (getC M x + 1)) s = (cnt (ow.take (i + 1)) s : Int) := by
  intro s
  rw [getC_put, cnt_take hx]
  by_cases hs : x = s
  · subst hs
    rw [if_pos rfl, if_pos rfl, h]
    omega
  · rw [if_neg hs, if_neg hs, h]
    rfl
theorem loads_c {ow nm : List ByteArray} {σ : Store} {to tn : Bool} (ho : ow.length ≤ 1000) (hn : nm.length ≤ 1000) : ACalls Tryz.prog 105 [.sl 1 (ow.map vStr) to, .sl 1 (nm.map vStr) tn] σ fun v σ' => v = .sl 1 ((loadsS ow nm).map vInt) false ∧ σ = σ' := by
  refine ACalls_of Tryz.func105 rfl Tryz.ntmps105 (congrArg Array.toList Tryz.results105) (by simp only [List.length_cons, List.length_nil]; decide) ?_; simp only [envOf_cons, envOf_nil, Nat.reduceAdd]
  refine awp_seq ?_
  refine awp_region (by kernel_rfl) ?_
  (refine aL_S rfl rfl v_ ?_)
  refine aL_nil ?_
  refine awp_seq ?_
  refine awp_region (by kernel_rfl) ?_
  refine aL_X rfl rfl (AOp_makeMap rfl fun o11 ho11 => ?_)
  repeat (rw [none_set_iff] at ho11; obtain ⟨_, ho11⟩ := ho11)
  (refine aL_S rfl rfl v_ ?_)
  refine aL_nil ?_
  refine awp_seq ?_
  refine awp_seq ?_
  refine awp_region (by kernel_rfl) ?_
  iterate 3 (refine aL_S rfl rfl v_ ?_)
  refine aL_nil ?_
  refine awp_block ?_
  refine awp_loop_env (ι := Nat × List (ByteArray × Int)) (fun ⟨i, M⟩ => ow.length - i) (fun ⟨i, M⟩ => i ≤ ow.length ∧ ∀ s, getC M s = (cnt (ow.take i) s : Int)) (fun ⟨i, M⟩ => [(1, .sl 1 (nm.map vStr) tn), (5, .map o11), (12, .sl 1 (ow.map vStr) to), (13, vInt ow.length), (14, vInt i)]) (fun ⟨i, M⟩ => (σ.set o11 (.map (kvC M)))) (0, []) ?_ ?_ ?_ ?_
  · exact ⟨Nat.zero_le _, fun s => rfl⟩
  · exact cv_
  · exact Store.Wk.refl _
  rintro ⟨i, M⟩ ⟨h1, h2⟩
  simp only [envL_cons, envL_nil]
  refine awp_seq ?_
  refine awp_region (by kernel_rfl) ?_
  (refine aL_S rfl rfl v_ ?_)
  refine aL_nil ?_
  refine awp_seq ?_
  refine awp_cond v_ (fun hc3 => ?_) (fun hc3 => ?_)
  · replace hc3 := nm_ hc3
    refine awp_skip ?_
    refine awp_seq ?_
    refine awp_block ?_
    refine awp_seq ?_
    have hi : i < ow.length := by omega
    obtain ⟨x, hx⟩ := get_some hi
    have hl := look_C (σ := σ.set o11 (.map (kvC M))) (Store.set_get ..) x
    have hb : getC M x ≤ 1000 := by rw [h2]; have := cnt_le (ow.take i) x; simp at this; omega
    have hb0 : 0 ≤ getC M x := by rw [h2]; omega
    have R := hx
    refine awp_region (by kernel_rfl) ?_
    iterate 3 (refine aL_S rfl rfl v_ ?_)
    refine aL_nil ?_
    have R := hl
    refine awp_region (by kernel_rfl) ?_
    iterate 4 (refine aL_S rfl rfl v_ ?_)
    refine aL_X0 rfl rfl (AOp_mapUpdate rfl g_ g_ v_ h_ v_ key_ (by exact kvC_keys M) v_ ?_)
    refine aL_nil ?_
    rw [kvPut_C, Store.set_set]
    refine awp_region (by kernel_rfl) ?_
    iterate 2 (refine aL_S rfl rfl v_ ?_)
    refine aL_nil ?_
    refine aNext (ι := Nat × List (ByteArray × Int)) (i := ⟨i, M⟩) (i + 1, putC M x (getC M x + 1)) ?_ ?_ ?_ ?_
    · show ow.length - (i + 1) < ow.length - i; omega
    · exact ⟨hi, cnt_step h2 hx⟩
    · exact cv_
    · exact sub_
  · replace hc3 := nm_ hc3
    refine awp_exit ?_
    refine aThen_exit ?_
    refine aThen_exit ?_
    refine aBlock_hit ?_
    refine awp_seq ?_
    refine awp_region (by kernel_rfl) ?_
    refine aL_nilOwn 3 1 rfl rfl rfl (by rfl) fun k8 hk8 => ?_
    refine aL_nil ?_
    refine awp_seq ?_
    refine awp_seq ?_
    refine awp_region (by kernel_rfl) ?_
    iterate 3 (refine aL_S rfl rfl v_ ?_)
    refine aL_nil ?_
    refine awp_block ?_
    refine awp_loop_env (ι := Nat × Nat) (fun ⟨j, k⟩ => nm.length - j) (fun ⟨j, k⟩ => j ≤ nm.length ∧ σ.tok k = none) (fun ⟨j, k⟩ => [(5, .map o11), (8, .own k 1 ((loadsS ow (nm.take j)).map vInt)), (23, .sl 1 (nm.map vStr) tn), (24, vInt nm.length), (25, vInt j)]) (fun ⟨j, k⟩ => ((σ.newTok none k (3, 1)).set o11 (.map (kvC M)))) (0, k8) ?_ ?_ ?_ ?_
    · exact ⟨Nat.zero_le _, hk8⟩
    · exact cv_
    · exact Store.Wk.refl _
    rintro ⟨j, k⟩ ⟨h3, h4⟩
    simp only [envL_cons, envL_nil]
    refine awp_seq ?_
    refine awp_region (by kernel_rfl) ?_
    (refine aL_S rfl rfl v_ ?_)
    refine aL_nil ?_
    refine awp_seq ?_
    refine awp_cond v_ (fun hc9 => ?_) (fun hc9 => ?_)
    · replace hc9 := nm_ hc9
      refine awp_skip ?_
      refine awp_seq ?_
      refine awp_block ?_
      refine awp_seq ?_
      have hj : j < nm.length := by omega
      obtain ⟨y, hy⟩ := get_some hj
      have hl := look_C (σ := (σ.newTok none k (3, 1)).set o11 (.map (kvC M))) (Store.set_get ..) y
      have hM : getC M y = (cnt ow y : Int) := by rw [h2, List.take_of_length_le (by omega)]
      have hld : loadsS ow (nm.take (j + 1)) = loadsS ow (nm.take j) ++ [(cnt ow y : Int)] := by unfold loadsS; rw [List.take_succ, hy, List.map_append]; rfl
      have R := hy
      refine awp_region (by kernel_rfl) ?_
      iterate 3 (refine aL_S rfl rfl v_ ?_)
      refine aL_nil ?_
      have R := And.intro hl hM
      refine awp_region (by kernel_rfl) ?_
      iterate 4 (refine aL_S rfl rfl v_ ?_)
      refine aL_buildSlice rfl rfl rfl g_ g_ rfl rfl h_ c2_ (by decide) ?_
      refine aL_append rfl rfl rfl g_ g_ v_ h_ v_ c_ (by unfold loadsS; simp; omega) fun k34 hk34 => ?_
      (refine aL_S rfl rfl v_ ?_)
      refine aL_nil ?_
      refine awp_region (by kernel_rfl) ?_
      iterate 2 (refine aL_S rfl rfl v_ ?_)
      refine aL_nil ?_
      refine aNext (ι := Nat × Nat) (i := ⟨j, k⟩) (j + 1, k34) ?_ ?_ ?_ ?_
      · show nm.length - (j + 1) < nm.length - j; omega
      · exact ⟨hj, (newTok_none hk34).2⟩
      · have R := hld; exact cv_
      · exact sub_
    · replace hc9 := nm_ hc9
      refine awp_exit ?_
      refine aThen_exit ?_
      refine aThen_exit ?_
      refine aBlock_hit ?_
      refine awp_seq ?_
      obtain rfl : j = nm.length := by omega
      rw [List.take_length]
      refine awp_region (by kernel_rfl) ?_
      iterate 2 (refine aL_S rfl rfl v_ ?_)
      refine aL_nil ?_
      refine awp_ret ?_
      exact aEnd_retW (v := .sl 1 ((loadsS ow nm).map vInt) false) (v' := .own k 1 ((loadsS ow nm).map vInt)) va_ (.own1 _ _ _) sub_ ⟨rfl, rfl⟩
end Go.Proofs.YtbomkkjhafdhiaaGreatDoor
end

section
set_option linter.all false
set_option maxRecDepth 100000
namespace Go.Ab
structure Wn where
  kind : Int
  key : ByteArray
@[reducible] def sWn (w : Wn) : AVal := .agg [vInt w.kind, .lit (.string w.key)]
end Go.Ab
namespace Go.Proofs.YtbomkkjhafdhiaaGreatDoor
open Go.Ab
def wIf (b : Bool) (k : Int) (s : ByteArray) : List Wn := if b = true then [⟨k, s⟩] else []
theorem wIf_len (b : Bool) (k : Int) (s : ByteArray) : (wIf b k s).length ≤ 1 := by unfold wIf; split <;> simp
/-- a checker with its warnings -/
def WC (σ : Store) (o : Nat) (l : List Ent) (t : Bool) (ws : List Wn) : Prop := ∃ b old, σ.heap o = some (.cells [.sl 4 (l.map sEnt) t, b]) ∧ NilOwn σ 75 2 (ws.map sWn) b old
theorem WC.set {σ : Store} {o i : Nat} {l : List Ent} {t : Bool} {ws : List Wn} {x : AObj} (h : WC σ o l t ws) (hi : σ.heap i = none) : WC (σ.set i x) o l t ws := by
  obtain ⟨b, old, h1, h2⟩ := h
  exact ⟨b, old, by rw [Store.set_ne _ _ (fun hh => by rw [← hh, h1] at hi; cases hi)]; exact h1, by simpa only [NilOwn, Store.set_tok] using h2⟩
theorem WC.set2 {σ : Store} {o i : Nat} {l : List Ent} {t : Bool} {ws : List Wn} {x y : AObj} (h : WC σ o l t ws) (hi : σ.heap i = none) : WC ((σ.set i x).set i y) o l t ws := by
  rw [Store.set_set]; exact h.set hi
theorem warn_c {o : Nat} {l : List Ent} {t : Bool} {ws : List Wn} {so : Bool} {kind : Int} {key : ByteArray} {σ : Store} (h : WC σ o l t ws) (hl : ws.length ≤ 1000000) : ACalls Tryz.prog 76 [.ref o 0, vB so, vInt kind, vStr key] σ fun v σ' => v = .tup [] ∧ WC σ' o l t (ws ++ wIf so kind key) ∧ WF o σ σ' := by
  obtain ⟨b, old, h1, h2⟩ := h
  refine ACalls_of Tryz.func76 rfl Tryz.ntmps76 (congrArg Array.toList Tryz.results76) (by simp only [List.length_cons, List.length_nil]; decide) ?_; simp only [envOf_cons, envOf_nil, Nat.reduceAdd]
  refine awp_seq ?_
  refine awp_region (by kernel_rfl) ?_
  (refine aL_S rfl rfl v_ ?_)
  refine aL_nil ?_
  refine awp_cond v_ (fun hc0 => ?_) (fun hc0 => ?_)
  · replace hc0 := nm_ hc0
    have R := h1
    refine awp_region (by kernel_rfl) ?_
    iterate 8 (refine aL_S rfl rfl v_ ?_)
    refine aL_buildSlice rfl rfl rfl g_ g_ rfl rfl h_ c2_ (by decide) ?_
    refine aL_X rfl rfl (AOp_appendS rfl g_ g_ (NilOwn.of h2 va_) (.inl ⟨⟨_, g_⟩, .inl v_, c_⟩) (by simp; omega) fun k18 hk18 => ?_)
    iterate 2 (refine aL_S rfl rfl v_ ?_)
    refine aL_store rfl rfl rfl v_ v_ h_ g_ rfl g_ c_ (by rfl) le_ v_ ?_
    refine aL_nil ?_
    refine aEnd_nor v_ (Store.Wk.refl _) ?_
    subst hc0
    have e : ws.map sWn ++ [.agg [vInt kind, vStr key]] = (ws ++ wIf true kind key).map sWn := by simp [wIf]
    rw [e]
    exact ⟨rfl, ⟨_, some k18, Store.set_get .., .inl ⟨k18, rfl, by rw [Store.set_tok]; exact Store.newTok_get .., rfl⟩⟩, WF.put h1 h2 hk18⟩
  · replace hc0 := nm_ hc0
    refine awp_skip ?_
    refine aEnd_nor v_ (Store.Wk.refl _) ?_
    obtain rfl : so = false := by simpa using hc0
    exact ⟨rfl, ⟨b, old, h1, by simpa [wIf] using h2⟩, WF.refl⟩
def keyW (x : Ent) : List Wn := wIf (!knownS x.key) 8 x.key
theorem wfl_len {α : Type} {f : α → List Wn} (h : ∀ x, (f x).length ≤ 1) : ∀ l : List α, (l.flatMap f).length ≤ l.length
  | [] => Nat.le_refl _
  | x :: l => by have := wfl_len h l; have := h x; rw [List.flatMap_cons, List.length_append, List.length_cons]; omega
theorem fl_snoc {α β : Type} {f : α → List β} {l : List α} {k : Nat} {x : α} (h : l[k]? = some x) : (l.take (k + 1)).flatMap f = (l.take k).flatMap f ++ f x := by rw [take_snoc h, List.flatMap_append]; simp
theorem wf_ne {o i : Nat} {σ τ : Store} {l : List Ent} {t : Bool} {ws : List Wn} (h : WC τ o l t ws) (hi : τ.heap i = none) : i ≠ o := fun hh => by obtain ⟨b, old, h1, _⟩ := h; rw [hh, h1] at hi; cases hi
set_option maxHeartbeats 1000000 in
theorem keys_c {o : Nat} {l : List Ent} {t : Bool} {σ : Store} {ws : List Wn} (h : WC σ o l t ws) (hw : ws.length ≤ 100000) (hl : l.length ≤ 100000) (hk : ∀ x ∈ l, x.key.size ≤ 400000) : ACalls Tryz.prog 73 [.ref o 0] σ fun v σ' => v = .tup [] ∧ WC σ' o l t (ws ++ l.flatMap keyW) ∧ WF o σ σ' := by
  obtain ⟨b0, old0, h01, h02⟩ := id h
  refine ACalls_of Tryz.func73 rfl Tryz.ntmps73 (congrArg Array.toList Tryz.results73) (by simp only [List.length_cons, List.length_nil]; decide) ?_; simp only [envOf_cons, envOf_nil, Nat.reduceAdd]
  refine awp_seq ?_
  have R := h01
  refine awp_region (by kernel_rfl) ?_
  iterate 6 (refine aL_S rfl rfl v_ ?_)
  refine aL_nil ?_
  refine awp_block ?_
  refine awp_loop_env (ι := Store × Nat) (fun ⟨τ, k⟩ => l.length - k) (fun ⟨τ, k⟩ => k ≤ l.length ∧ WC τ o l t (ws ++ (l.take k).flatMap keyW) ∧ WF o σ τ) (fun ⟨τ, k⟩ => [(0, .ref o 0), (7, .sl 4 (l.map sEnt) t), (8, vInt l.length), (9, vInt k)]) (fun ⟨τ, k⟩ => τ) (σ, 0) ?_ ?_ ?_ ?_
  · exact ⟨Nat.zero_le _, by simpa using h, WF.refl⟩
  · exact cv_
  · exact Store.Wk.refl _
  rintro ⟨τ, k⟩ ⟨hkl, hC, hF⟩
  simp only [envL_cons, envL_nil]
  refine awp_seq ?_
  refine awp_region (by kernel_rfl) ?_
  (refine aL_S rfl rfl v_ ?_)
  refine aL_nil ?_
  refine awp_seq ?_
  refine awp_cond v_ (fun hc1 => ?_) (fun hc1 => ?_)
  · replace hc1 := nm_ hc1
    refine awp_skip ?_
    refine awp_seq ?_
    refine awp_block ?_
    refine awp_seq ?_
    obtain ⟨x, hx⟩ := get_some (l := l) (k := k) (by omega)
    have hxk := hk x (List.mem_of_getElem? hx)
    have hle := wfl_len (f := keyW) (fun x => wIf_len _ _ _) (l.take k)
    rw [List.length_take] at hle
    have R := hx
    refine awp_region (by kernel_rfl) ?_
    iterate 2 (refine aL_S rfl rfl v_ ?_)
    refine aL_alloc rfl rfl rfl g_ gl_ fun o3 ho3 => ?_
    repeat (rw [none_set_iff] at ho3; obtain ⟨_, ho3⟩ := ho3)
    refine aL_store rfl rfl rfl v_ v_ h_ g_ rfl g_ c_ (by rfl) le_ v_ ?_
    refine aL_nil ?_
    skip
    have hne := wf_ne (σ := σ) hC ho3
    have hC1 := hC.set2 (x := .cells [.lit (.string ⟨#[]⟩), vInt 0, .lit (.string ⟨#[]⟩), .lit (.string ⟨#[]⟩)]) (y := .cells (sEnt x).cells) ho3
    refine awp_draw (.op 0 0 (.op 1 0 (.op 2 0 (.op 5 0 (.op 6 0 (.op 3 1 (.op 4 0 (.op 7 2 .nil)))))))) Tryz.mixed (by kernel_rfl) ?_
    iterate 5 (refine dR_S o_ (by rfl) (by rfl) v_ ?_)
    refine dR_X o_ (by rfl) (by rfl) (AOp_use (by rfl) (by rfl) (.inr ⟨by rfl, by rfl, by rfl⟩) g_ va_ (known_c (by omega)) ?_); rintro _ _ ⟨rfl, rfl⟩; refine ⟨sub_, ?_⟩
    (refine dR_S o_ (by rfl) (by rfl) v_ ?_)
    refine dR_T o_ (by rfl) (by rfl) (AOp_use (by rfl) (by rfl) (.inr ⟨by rfl, by rfl, by rfl⟩) g_ va_ (warn_c hC1 (by rw [List.length_append]; omega)) ?_); rintro _ τ2 ⟨rfl, hC2, hF2⟩
    refine dR_nil ?_
    refine awp_region (by kernel_rfl) ?_
    iterate 2 (refine aL_S rfl rfl v_ ?_)
    refine aL_nil ?_
    refine aNext (ι := Store × Nat) (i := ⟨τ, k⟩) (τ2, k + 1) ?_ ?_ ?_ ?_
    · show l.length - (k + 1) < l.length - k; omega
    · exact ⟨by show k + 1 ≤ l.length; omega, by rw [fl_snoc hx, ← List.append_assoc]; exact hC2, (hF.alloc2 ho3 hne).trans hF2⟩
    · exact cv_
    · exact Store.Wk.refl _
  · replace hc1 := nm_ hc1
    refine awp_exit ?_
    refine aThen_exit ?_
    refine aThen_exit ?_
    refine aBlock_hit ?_
    refine aEnd_nor v_ (Store.Wk.refl _) ?_
    exact ⟨rfl, by rwa [List.take_of_length_le (by omega)] at hC, hF⟩
end Go.Proofs.YtbomkkjhafdhiaaGreatDoor
end

section
set_option linter.all false
set_option maxRecDepth 100000
namespace Go.Proofs.YtbomkkjhafdhiaaGreatDoor
open Go.Ab
theorem sub_app {σ τ : Store} {i k : Nat} {x y : AObj} {old : Option Nat} {p : TypeId × Nat} (h : σ.Sub τ) (hi : τ.heap i = none) (hold : ∀ j, old = some j → σ.tok j = none) (hk : τ.tok k = none) : σ.Sub (((τ.set i x).set i y).newTok old k p) := by
  refine ⟨fun j z hz => ?_, fun t n ht => ?_⟩
  · have h1 := h.heap j z hz
    have hne : j ≠ i := fun hh => by rw [hh, hi] at h1; cases h1
    show ((τ.set i x).set i y).heap j = _
    rw [Store.set_ne _ _ hne, Store.set_ne _ _ hne]; exact h1
  · have h1 := h.tok t n ht
    have hkt : t ≠ k := fun hh => by rw [hh, hk] at h1; cases h1
    simp only [Store.newTok, Store.set_tok]
    rw [if_neg hkt, if_neg (fun hh => by have := hold t hh.symm; rw [ht] at this; cases this)]
    exact h1
theorem WC.sub {σ τ : Store} {o : Nat} {l : List Ent} {t : Bool} {ws : List Wn} (h : WC σ o l t ws) (hs : σ.Sub τ) : WC τ o l t ws := by
  obtain ⟨b, old, h1, h2⟩ := h
  refine ⟨b, old, hs.heap _ _ h1, ?_⟩
  rcases h2 with ⟨k, rfl, h3, h4⟩ | h2
  · exact .inl ⟨k, rfl, hs.tok _ _ h3, h4⟩
  · exact .inr h2
theorem WF.ofSub {σ τ : Store} {o : Nat} {l : List Ent} {t : Bool} {ws : List Wn} (h : WC σ o l t ws) (hs : σ.Sub τ) : WF o σ τ := by
  obtain ⟨b, old, h1, h2⟩ := h
  refine ⟨fun i x _ hx => hs.heap _ _ hx, fun u n hu hn => ⟨hs.tok _ _ hu, fun ⟨a, sz, m, hh⟩ => hn ⟨a, sz, m, ?_⟩⟩⟩
  rw [hs.heap _ _ h1] at hh
  rw [h1]; exact hh
def nmsS (l : List Ent) : List ByteArray := (memsS l).map Mbr.name
def ownW (l : List Ent) (k : Nat) : List Wn := wIf (decide (¬ (ownK l k).size = 0) && !hasT (nmsS l) (ownK l k)) 1 (ringK k)
theorem ownK_sz {l : List Ent} (k : Nat) : (ownK l k).size ≤ 16 := by
  unfold ownK
  split
  · rename_i h; exact (name_size h).2
  · exact Nat.zero_le _
theorem owners_len (l : List Ent) (n : Nat) : (ownersS l n).length = n := by simp [ownersS]
theorem owners_get (l : List Ent) {n k : Nat} (hk : k < n) : (ownersS l n)[k]? = some (ownK l k) := by simp [ownersS, hk]
set_option maxHeartbeats 1000000 in
theorem lparts_c {o : Nat} {l : List Ent} {t : Bool} {σ : Store} {ws : List Wn} (h : WC σ o l t ws) (hw : ws.length ≤ 100000) (hl : l.length ≤ 1000) (hs : ∀ x ∈ l, EntSm x) (hks : ∀ x ∈ l, x.key.size ≤ 400000 ∧ x.value.size ≤ 400000) (hm : memsS l = []) : ACalls Tryz.prog 74 [.ref o 0] σ fun v σ' => v = .tup [] ∧ WC σ' o l t (ws ++ (List.range 16).flatMap (ownW l)) ∧ WF o σ σ' := by
  obtain ⟨b0, old0, h01, h02⟩ := id h
  have hml := mems_len l
  have hnl : (nmsS l).length = (memsS l).length := by simp [nmsS]
  have hld : loadsS (ownersS l 16) (nmsS l) = [] := by unfold loadsS nmsS; rw [hm]; rfl
  obtain ⟨ms, hms⟩ : ∃ ms, memsS l = ms := ⟨_, rfl⟩
  have hmsl : ms.length ≤ 1000 := by rw [← hms]; omega
  have hnm : nmsS l = ms.map Mbr.name := by unfold nmsS; rw [hms]
  obtain ⟨ow, how⟩ : ∃ ow, ownersS l 16 = ow := ⟨_, rfl⟩
  have howl : ow.length = 16 := by rw [← how, owners_len]
  have howi : (ow.length : Int) = 16 := by omega
  refine ACalls_of Tryz.func74 rfl Tryz.ntmps74 (congrArg Array.toList Tryz.results74) (by simp only [List.length_cons, List.length_nil]; decide) ?_; simp only [envOf_cons, envOf_nil, Nat.reduceAdd]
  refine awp_seq ?_
  refine awp_region (by kernel_rfl) ?_
  (refine aL_S rfl rfl v_ ?_)
  refine aL_nil ?_
  refine awp_seq ?_
  refine awp_seq ?_
  have R := h01
  refine awp_region (by kernel_rfl) ?_
  iterate 4 (refine aL_S rfl rfl v_ ?_)
  refine aL_X rfl rfl (AOp_use rfl rfl (.inr ⟨rfl, rfl, rfl⟩) g_ va_ (members_c (by omega) hs hks) ?_); rintro _ _ ⟨rfl, rfl⟩
  rw [hms]
  iterate 2 (refine aL_S rfl rfl v_ ?_)
  refine aL_nil ?_
  refine awp_block ?_
  refine awp_loop_env (ι := Store × AVal × Option Nat × Nat) (fun ⟨τ, g, old, i⟩ => ms.length - i) (fun ⟨τ, g, old, i⟩ => i ≤ ms.length ∧ σ.Sub τ ∧ NilOwn τ 9 1 (((ms.take i).map Mbr.name).map vStr) g old ∧ ∀ j, old = some j → σ.tok j = none) (fun ⟨τ, g, old, i⟩ => [(0, .ref o 0), (2, g), (13, .sl 4 (ms.map sMbr) false), (14, vInt ms.length), (15, vInt i)]) (fun ⟨τ, g, old, i⟩ => τ) (σ, vNil, none, 0) ?_ ?_ ?_ ?_
  · exact ⟨Nat.zero_le _, .refl _, .inr ⟨rfl, rfl, rfl⟩, fun j h => by cases h⟩
  · exact cv_
  · exact Store.Wk.refl _
  rintro ⟨τ, g, old, i⟩ ⟨hi, hS, hN, hO⟩
  simp only [envL_cons, envL_nil]
  refine awp_seq ?_
  refine awp_region (by kernel_rfl) ?_
  (refine aL_S rfl rfl v_ ?_)
  refine aL_nil ?_
  refine awp_seq ?_
  refine awp_cond v_ (fun hc2 => ?_) (fun hc2 => ?_)
  · replace hc2 := nm_ hc2
    refine awp_skip ?_
    refine awp_seq ?_
    refine awp_block ?_
    refine awp_seq ?_
    obtain ⟨m, hmi⟩ := get_some (l := ms) (k := i) (by omega)
    have hil : ((ms.take i).map Mbr.name).length ≤ 1000 := by rw [List.length_map, List.length_take]; omega
    have R := hmi
    refine awp_region (by kernel_rfl) ?_
    iterate 2 (refine aL_S rfl rfl v_ ?_)
    refine aL_alloc rfl rfl rfl g_ gl_ fun o4 ho4 => ?_
    repeat (rw [none_set_iff] at ho4; obtain ⟨_, ho4⟩ := ho4)
    refine aL_store rfl rfl rfl v_ v_ h_ g_ rfl g_ c_ (by rfl) le_ v_ ?_
    refine aL_nil ?_
    skip
    have hN2 : NilOwn ((τ.set o4 (.cells (sMbr zeroM).cells)).set o4 (.cells (sMbr m).cells)) 9 1 (((ms.take i).map Mbr.name).map vStr) g old := by simpa only [NilOwn, Store.set_tok] using hN
    refine awp_region (by kernel_rfl) ?_
    iterate 3 (refine aL_S rfl rfl v_ ?_)
    refine aL_buildSlice rfl rfl rfl g_ g_ rfl rfl h_ c2_ (by decide) ?_
    refine aL_X rfl rfl (AOp_appendS rfl g_ g_ (NilOwn.of hN2 va_) (.inl ⟨⟨_, g_⟩, .inl v_, c_⟩) (by simp only [List.length_map, List.length_singleton] at *; omega) fun k23 hk23 => ?_)
    have hk23' : τ.tok k23 = none := by simpa only [Store.set_tok] using hk23
    (refine aL_S rfl rfl v_ ?_)
    refine aL_nil ?_
    refine awp_region (by kernel_rfl) ?_
    iterate 2 (refine aL_S rfl rfl v_ ?_)
    refine aL_nil ?_
    refine aNext (ι := Store × AVal × Option Nat × Nat) (i := ⟨τ, g, old, i⟩) (((τ.set o4 (.cells (sMbr zeroM).cells)).set o4 (.cells (sMbr m).cells)).newTok old k23 (9, 1), .own k23 1 (((ms.take i).map Mbr.name).map vStr ++ [vStr m.name]), some k23, i + 1) ?_ ?_ ?_ ?_
    · show ms.length - (i + 1) < ms.length - i; omega
    · exact ⟨by show i + 1 ≤ ms.length; omega, sub_app hS ho4 hO hk23', .inl ⟨k23, by rw [take_snoc hmi]; simp, Store.newTok_get .., rfl⟩, fun j hj => by obtain rfl := Option.some.inj hj; cases hh : σ.tok k23 with | none => rfl | some z => rw [hS.tok _ _ hh] at hk23'; cases hk23'⟩
    · exact cv_
    · exact Store.Wk.refl _
  · replace hc2 := nm_ hc2
    refine awp_exit ?_
    refine aThen_exit ?_
    refine aThen_exit ?_
    refine aBlock_hit ?_
    refine awp_seq ?_
    obtain rfl : i = ms.length := by omega
    rw [List.take_length, ← hnm] at hN
    have hC := h.sub hS
    have hF0 := WF.ofSub h hS
    obtain ⟨b1, old1, h11, h12⟩ := id hC
    have hgw : Wk g (.sl 1 ((nmsS l).map vStr) false) := NilOwn.wk hN
    have R := h11
    refine awp_region (by kernel_rfl) ?_
    iterate 4 (refine aL_S rfl rfl v_ ?_)
    refine aL_X rfl rfl (AOp_use rfl rfl (.inr ⟨rfl, rfl, rfl⟩) g_ va_ (owners_c (n := 16) (by decide) (by decide) (by omega) hs) ?_); rintro _ _ ⟨rfl, rfl⟩
    rw [how]
    (refine aL_S rfl rfl v_ ?_)
    refine aL_nil ?_
    refine awp_seq ?_
    refine awp_seq ?_
    refine awp_region (by kernel_rfl) ?_
    iterate 3 (refine aL_S rfl rfl v_ ?_)
    refine aL_nil ?_
    refine awp_block ?_
    refine awp_loop_env (ι := Store × Nat) (fun ⟨υ, k⟩ => 16 - k) (fun ⟨υ, k⟩ => k ≤ 16 ∧ WC υ o l t (ws ++ (List.range k).flatMap (ownW l)) ∧ WF o σ υ) (fun ⟨υ, k⟩ => [(0, .ref o 0), (2, g), (5, .sl 1 (ow.map vStr) false), (30, .sl 1 (ow.map vStr) false), (31, vInt 16), (32, vInt k)]) (fun ⟨υ, k⟩ => υ) (τ, 0) ?_ ?_ ?_ ?_
    · exact ⟨Nat.zero_le _, by simpa using hC, hF0⟩
    · have R := howi; exact cv_
    · exact Store.Wk.refl _
    rintro ⟨υ, k⟩ ⟨hk, hC2, hF2⟩
    simp only [envL_cons, envL_nil]
    refine awp_seq ?_
    refine awp_region (by kernel_rfl) ?_
    (refine aL_S rfl rfl v_ ?_)
    refine aL_nil ?_
    refine awp_seq ?_
    refine awp_cond v_ (fun hc8 => ?_) (fun hc8 => ?_)
    · replace hc8 := nm_ hc8
      refine awp_skip ?_
      refine awp_seq ?_
      refine awp_block ?_
      refine awp_seq ?_
      have hok : ow[k]? = some (ownK l k) := by rw [← how]; exact owners_get l (by omega)
      have hoz := ownK_sz (l := l) k
      have ho0 := ne0 (ownK l k)
      have hwl : ((List.range k).flatMap (ownW l)).length ≤ 16 := by have := wfl_len (f := ownW l) (fun x => wIf_len _ _ _) (List.range k); rw [List.length_range] at this; omega
      have R := hok
      refine awp_region (by kernel_rfl) ?_
      iterate 5 (refine aL_S rfl rfl v_ ?_)
      refine aL_nil ?_
      have R := ho0
      refine awp_region (by kernel_rfl) ?_
      iterate 4 (refine aL_S rfl rfl v_ ?_)
      refine aL_GT rfl rfl v_ rfl vg_ ?_
      refine aL_GT rfl rfl v_ rfl vg_ ?_
      refine aL_GTX rfl rfl v_ rfl (fun hb => AOp_useV (by rfl) (by rfl) (.inr ⟨by rfl, by rfl, by rfl⟩) g_ cg_ (ACalls.wkA (args := [g, vStr (ownK l k)]) (containsStr_c (l := nmsS l) (x := ownK l k) (t := false) (by omega)) rfl (fun j hj hj' => by match j, hj with | 0, _ => exact hgw | 1, _ => exact .refl _))) ?_
      refine aL_GT rfl rfl v_ rfl vg_ ?_
      iterate 2 (refine aL_S rfl rfl v_ ?_)
      refine aL_X rfl rfl (AOp_use rfl rfl (.inr ⟨rfl, rfl, rfl⟩) g_ va_ (ringKey_c (by omega)) ?_); rintro _ _ ⟨rfl, rfl⟩
      refine aL_X rfl rfl (AOp_use rfl rfl (.inr ⟨rfl, rfl, rfl⟩) g_ va_ (warn_c hC2 (by rw [List.length_append]; omega)) ?_); rintro _ υ2 ⟨rfl, hC3, hF3⟩
      refine aL_nil ?_
      refine awp_region (by kernel_rfl) ?_
      iterate 2 (refine aL_S rfl rfl v_ ?_)
      refine aL_nil ?_
      refine aNext (ι := Store × Nat) (i := ⟨υ, k⟩) (υ2, k + 1) ?_ ?_ ?_ ?_
      · show 16 - (k + 1) < 16 - k; omega
      · exact ⟨by show k + 1 ≤ 16; omega, by rw [List.range_succ, List.flatMap_append]; simpa [ownW] using hC3, hF2.trans hF3⟩
      · exact cv_
      · exact Store.Wk.refl _
    · replace hc8 := nm_ hc8
      refine awp_exit ?_
      refine aThen_exit ?_
      refine aThen_exit ?_
      refine aBlock_hit ?_
      refine awp_seq ?_
      obtain rfl : k = 16 := by omega
      have hldo : loadsS ow (nmsS l) = [] := by rw [← how]; exact hld
      refine awp_region (by kernel_rfl) ?_
      iterate 2 (refine aL_S rfl rfl v_ ?_)
      refine aL_X rfl rfl (AOp_use rfl rfl (.inr ⟨rfl, rfl, rfl⟩) g_ va_ (ACalls.wkA (args := [.sl 1 (ow.map vStr) false, g]) (loads_c (ow := ow) (nm := nmsS l) (to := false) (tn := false) (by omega) (by omega)) rfl (fun j hj hj' => by match j, hj with | 0, _ => exact .refl _ | 1, _ => exact hgw)) ?_); rintro _ _ ⟨rfl, rfl⟩
      rw [hldo]
      (refine aL_S rfl rfl v_ ?_)
      refine aL_nil ?_
      refine awp_region (by kernel_rfl) ?_
      iterate 5 (refine aL_S rfl rfl v_ ?_)
      first | refine aL_SN wn_ rfl ?_ | refine aL_GT rfl rfl v_ rfl vg_ ?_
      refine aL_SN wn_ rfl ?_
      refine aL_SN wn_ rfl ?_
      refine aL_SN wn_ rfl ?_
      first | refine aL_SN wn_ rfl ?_ | refine aL_GT rfl rfl v_ rfl vg_ ?_
      refine aL_SN wn_ rfl ?_
      refine aL_SN wn_ rfl ?_
      refine aL_SN wn_ rfl ?_
      first | refine aL_SN wn_ rfl ?_ | refine aL_GT rfl rfl v_ rfl vg_ ?_
      first | refine aL_SN wn_ rfl ?_ | refine aL_GT rfl rfl v_ rfl vg_ ?_
      (refine aL_S rfl rfl v_ ?_)
      refine aL_X rfl rfl (AOp_use rfl rfl (.inr ⟨rfl, rfl, rfl⟩) g_ va_ (warn_c hC2 (by have := wfl_len (f := ownW l) (fun x => wIf_len _ _ _) (List.range 16); rw [List.length_range] at this; rw [List.length_append]; omega)) ?_); rintro _ υ3 ⟨rfl, hC4, hF4⟩
      refine aL_nil ?_
      refine aEnd_nor v_ (Store.Wk.refl _) ?_
      exact ⟨rfl, by simpa [wIf] using hC4, hF2.trans hF4⟩
end Go.Proofs.YtbomkkjhafdhiaaGreatDoor
end

section
set_option linter.all false
set_option maxRecDepth 100000
namespace Go.Proofs.YtbomkkjhafdhiaaGreatDoor
open Go.Ab
def cutS (s : ByteArray) : ByteArray × ByteArray × Bool := if 0 ≤ idx47 (Lb s) then (s.extract 0 (idx47 (Lb s)).toNat, s.extract ((idx47 (Lb s)).toNat + 1) s.size, true) else (s, ⟨#[]⟩, false)
theorem slCut_c {s : ByteArray} {σ : Store} (hs : s.size ≤ 1000000) : ACalls Tryz.prog 134 [vStr s, v47] σ fun v σ' => v = .tup [vStr (cutS s).1, vStr (cutS s).2.1, vB (cutS s).2.2] ∧ σ = σ' := by
  have hz : (ByteArray.mk #[47]).size = 1 := rfl
  refine ACalls_of Tryz.func134 rfl Tryz.ntmps134 (congrArg Array.toList Tryz.results134) (by simp only [List.length_cons, List.length_nil]; decide) ?_; simp only [envOf_cons, envOf_nil, Nat.reduceAdd]
  refine awp_seq ?_
  refine awp_region (by kernel_rfl) ?_
  iterate 3 (refine aL_S rfl rfl v_ ?_)
  refine aL_nil ?_
  refine awp_seq ?_
  refine awp_seq ?_
  refine awp_region (by kernel_rfl) ?_
  iterate 2 (refine aL_S rfl rfl v_ ?_)
  refine aL_X rfl rfl (AOp_use rfl rfl (.inr ⟨rfl, rfl, rfl⟩) g_ va_ (slIndex_c) ?_); rintro _ _ ⟨rfl, rfl⟩
  (refine aL_S rfl rfl v_ ?_)
  refine aL_nil ?_
  refine awp_seq ?_
  refine awp_region (by kernel_rfl) ?_
  iterate 2 (refine aL_S rfl rfl v_ ?_)
  refine aL_nil ?_
  refine awp_cond v_ (fun hc2 => ?_) (fun hc2 => ?_)
  · replace hc2 := nm_ hc2
    obtain ⟨i, hi⟩ : ∃ i : Nat, idx47 (Lb s) = i := ⟨(idx47 (Lb s)).toNat, by omega⟩
    have hlt := (cnt_of.2 i hi).2.2
    rw [Lb_length] at hlt
    have htn : ((i : Int) + ((1 : Nat) : Int)).toNat = i + 1 := by omega
    have hcu : cutS s = (s.extract 0 i, s.extract (i + 1) s.size, true) := by rw [cutS, if_pos (by omega), hi]; rfl
    rw [hi]
    refine awp_seq ?_
    have R := And.intro hz htn
    refine awp_draw (.op 0 0 (.op 1 0 (.op 2 0 (.op 3 0 (.op 4 0 (.op 5 0 (.op 6 0 (.op 7 0 (.op 8 0 (.op 9 0 (.op 10 0 (.op 11 0 .nil)))))))))))) Tryz.mixed (by kernel_rfl) ?_
    iterate 12 (refine dR_S o_ (by rfl) (by rfl) v_ ?_)
    refine dR_nil ?_
    refine awp_ret ?_
    refine aEnd_ret (σ' := σ) v_ sub_ ?_
    exact ⟨by rw [hcu], rfl⟩
  · replace hc2 := nm_ hc2
    refine awp_skip ?_
    refine awp_seq ?_
    refine awp_region (by kernel_rfl) ?_
    iterate 4 (refine aL_S rfl rfl v_ ?_)
    refine aL_nil ?_
    refine awp_ret ?_
    refine aEnd_ret (σ' := σ) v_ sub_ ?_
    exact ⟨by rw [cutS, if_neg (by omega)], rfl⟩
theorem cut_c {s : ByteArray} {σ : Store} (hs : s.size ≤ 1000000) : ACalls Tryz.prog 108 [vStr s, v47] σ fun v σ' => v = .tup [vStr (cutS s).1, vStr (cutS s).2.1, vB (cutS s).2.2] ∧ σ = σ' := by
  refine ACalls_of Tryz.func108 rfl Tryz.ntmps108 (congrArg Array.toList Tryz.results108) (by simp only [List.length_cons, List.length_nil]; decide) ?_; simp only [envOf_cons, envOf_nil, Nat.reduceAdd]
  refine awp_seq ?_
  refine awp_region (by kernel_rfl) ?_
  iterate 3 (refine aL_S rfl rfl v_ ?_)
  refine aL_nil ?_
  refine awp_seq ?_
  refine awp_region (by kernel_rfl) ?_
  iterate 2 (refine aL_S rfl rfl v_ ?_)
  refine aL_X rfl rfl (AOp_use rfl rfl (.inr ⟨rfl, rfl, rfl⟩) g_ va_ (slCut_c hs) ?_); rintro _ _ ⟨rfl, rfl⟩
  iterate 6 (refine aL_S rfl rfl v_ ?_)
  refine aL_nil ?_
  refine awp_ret ?_
  refine aEnd_ret (σ' := σ) v_ sub_ ?_
  exact ⟨rfl, rfl⟩
theorem cut_sz (s : ByteArray) : (cutS s).1.size ≤ s.size ∧ (cutS s).2.1.size ≤ s.size := by
  unfold cutS
  split
  · simp only [ByteArray.size_extract]; omega
  · exact ⟨Nat.le_refl _, Nat.zero_le _⟩
def alwE (x : Ent) : Bool := decide (0 < (rgtA x.value).getD 0) && knownS x.key
theorem alw1_c {x : Ent} {σ : Store} (hk : x.key.size ≤ 400000) : ACalls Tryz.prog 143 [sEnt x] σ fun v σ' => v = vB (alwE x) ∧ σ = σ' := by
  refine ACalls_of Tryz.func143 rfl Tryz.ntmps143 (congrArg Array.toList Tryz.results143) (by simp only [List.length_cons, List.length_nil]; decide) ?_; simp only [envOf_cons, envOf_nil, Nat.reduceAdd]
  refine awp_seq ?_
  refine awp_region (by kernel_rfl) ?_
  refine aL_box rfl rfl rfl v_ rfl g_ fun o1 ho1 => ?_
  repeat (rw [none_set_iff] at ho1; obtain ⟨_, ho1⟩ := ho1)
  (refine aL_S rfl rfl v_ ?_)
  refine aL_nil ?_
  refine awp_seq ?_
  refine awp_region (by kernel_rfl) ?_
  iterate 3 (refine aL_S rfl rfl v_ ?_)
  refine aL_X rfl rfl (AOp_use rfl rfl (.inr ⟨rfl, rfl, rfl⟩) g_ va_ (rights_c) ?_); rintro _ _ ⟨rfl, rfl⟩
  iterate 5 (refine aL_S rfl rfl v_ ?_)
  refine aL_nil ?_
  refine awp_seq ?_
  refine awp_region (by kernel_rfl) ?_
  iterate 3 (refine aL_S rfl rfl v_ ?_)
  refine aL_GT rfl rfl v_ rfl vg_ ?_
  refine aL_GT rfl rfl v_ rfl vg_ ?_
  refine aL_GTX rfl rfl v_ rfl (fun hb => AOp_useV (by rfl) (by rfl) (.inr ⟨by rfl, by rfl, by rfl⟩) g_ cg_ (known_c (by omega))) ?_
  iterate 2 (refine aL_S rfl rfl v_ ?_)
  refine aL_nil ?_
  refine awp_ret ?_
  refine aEnd_ret (σ' := σ) v_ sub_ ?_
  exact ⟨by unfold alwE; rw [show decide (0 < (((rgtA x.value).getD 0 : Nat) : Int)) = decide (0 < (rgtA x.value).getD 0) from decide_eq_decide.2 (by omega)], rfl⟩
abbrev fAl : AVal := .lit (.func (.func 143) #[] #[])
theorem ixAlw_c {l : List Ent} {t : Bool} {σ : Store} (hn : l.length ≤ 1000000) (hs : ∀ x ∈ l, x.key.size ≤ 400000) : ACalls Tryz.prog 54 [.sl 4 (l.map sEnt) t, fAl] σ fun v σ' => (∃ r, v = vInt r ∧ decide (0 ≤ r) = l.any alwE) ∧ σ = σ' := by
  refine ACalls_of Tryz.func54 rfl Tryz.ntmps54 (congrArg Array.toList Tryz.results54) (by simp only [List.length_cons, List.length_nil]; decide) ?_; simp only [envOf_cons, envOf_nil, Nat.reduceAdd]
  refine awp_seq ?_
  refine awp_region (by kernel_rfl) ?_
  (refine aL_S rfl rfl v_ ?_)
  refine aL_nil ?_
  refine awp_seq ?_
  refine awp_seq ?_
  refine awp_region (by kernel_rfl) ?_
  iterate 3 (refine aL_S rfl rfl v_ ?_)
  refine aL_nil ?_
  refine awp_block ?_
  refine awp_loop_env (ι := Nat) (fun k => l.length - k) (fun k => k ≤ l.length ∧ (l.take k).any alwE = false) (fun k => [(0, .sl 4 (l.map sEnt) t), (1, fAl), (7, vInt l.length), (8, vInt k)]) (fun k => σ) 0 ?_ ?_ ?_ ?_
  · exact ⟨Nat.zero_le _, rfl⟩
  · exact cv_
  · exact sub_
  rintro k ⟨hk, ha⟩
  simp only [envL_cons, envL_nil]
  refine awp_seq ?_
  refine awp_region (by kernel_rfl) ?_
  (refine aL_S rfl rfl v_ ?_)
  refine aL_nil ?_
  refine awp_seq ?_
  refine awp_cond v_ (fun hc2 => ?_) (fun hc2 => ?_)
  · replace hc2 := nm_ hc2
    refine awp_skip ?_
    refine awp_seq ?_
    refine awp_block ?_
    refine awp_seq ?_
    refine awp_region (by kernel_rfl) ?_
    iterate 2 (refine aL_S rfl rfl v_ ?_)
    refine aL_nil ?_
    refine awp_seq ?_
    obtain ⟨y, hy⟩ := get_some (l := l) (k := k) (by omega)
    have R := hy
    refine awp_region (by kernel_rfl) ?_
    iterate 5 (refine aL_S rfl rfl v_ ?_)
    refine aL_X rfl rfl (AOp_use rfl rfl (.inr ⟨va_, rfl, rfl⟩) g_ va_ (alw1_c (hs y (List.mem_of_getElem? hy))) ?_); rintro _ _ ⟨rfl, rfl⟩
    refine aL_nil ?_
    refine awp_cond v_ (fun hc4 => ?_) (fun hc4 => ?_)
    · replace hc4 := nm_ hc4
      refine awp_seq ?_
      refine awp_region (by kernel_rfl) ?_
      iterate 2 (refine aL_S rfl rfl v_ ?_)
      refine aL_nil ?_
      refine awp_ret ?_
      refine aEnd_ret (σ' := σ) v_ sub_ ?_
      exact ⟨⟨(k : Int), rfl, by rw [decide_eq_true (by omega)]; exact (any_yes hy (by simpa using hc4)).symm⟩, rfl⟩
    · replace hc4 := nm_ hc4
      refine awp_skip ?_
      refine awp_region (by kernel_rfl) ?_
      iterate 2 (refine aL_S rfl rfl v_ ?_)
      refine aL_nil ?_
      refine aNext (ι := Nat) (i := k) (k + 1) ?_ ?_ ?_ ?_
      · omega
      · exact ⟨by omega, any_next hy (by simpa using hc4) ha⟩
      · exact cv_
      · exact sub_
  · replace hc2 := nm_ hc2
    refine awp_exit ?_
    refine aThen_exit ?_
    refine aThen_exit ?_
    refine aBlock_hit ?_
    refine awp_seq ?_
    refine awp_region (by kernel_rfl) ?_
    (refine aL_S rfl rfl v_ ?_)
    refine aL_nil ?_
    refine awp_ret ?_
    refine aEnd_ret (σ' := σ) v_ sub_ ?_
    exact ⟨⟨-1, rfl, (any_end (by omega) ha).symm⟩, rfl⟩
theorem cfAlw_c {l : List Ent} {t : Bool} {σ : Store} (hn : l.length ≤ 1000000) (hs : ∀ x ∈ l, x.key.size ≤ 400000) : ACalls Tryz.prog 142 [.sl 4 (l.map sEnt) t, fAl] σ fun v σ' => v = vB (l.any alwE) ∧ σ = σ' := by
  refine ACalls_of Tryz.func142 rfl Tryz.ntmps142 (congrArg Array.toList Tryz.results142) (by simp only [List.length_cons, List.length_nil]; decide) ?_; simp only [envOf_cons, envOf_nil, Nat.reduceAdd]
  refine awp_seq ?_
  refine awp_region (by kernel_rfl) ?_
  (refine aL_S rfl rfl v_ ?_)
  refine aL_nil ?_
  refine awp_seq ?_
  refine awp_region (by kernel_rfl) ?_
  iterate 2 (refine aL_S rfl rfl v_ ?_)
  refine aL_X rfl rfl (AOp_use rfl rfl (.inr ⟨rfl, rfl, rfl⟩) g_ va_ (ixAlw_c hn hs) ?_); rintro _ _ ⟨⟨r, rfl, hr⟩, rfl⟩
  iterate 2 (refine aL_S rfl rfl v_ ?_)
  refine aL_nil ?_
  refine awp_ret ?_
  refine aEnd_ret (σ' := σ) v_ sub_ ?_
  exact ⟨by rw [← hr], rfl⟩
def bsAclS : ByteArray := ⟨#[97, 99, 108, 47]⟩
def alwS (l : List Ent) (p : ByteArray) : Bool := (undS l (bsAclS ++ p)).any alwE
theorem allowed_c {o : Nat} {l : List Ent} {t : Bool} {ws : List Wn} {p : ByteArray} {σ : Store} (h : WC σ o l t ws) (hp : p.size ≤ 400000) (hl : l.length ≤ 1000) (hk : ∀ x ∈ l, x.key.size ≤ 400000) : ACalls Tryz.prog 112 [.ref o 0, vStr p] σ fun v σ' => v = vB (alwS l p) ∧ σ = σ' := by
  obtain ⟨b0, old0, h01, h02⟩ := id h
  have e1 := astr_add' bsAclS p (by rw [show bsAclS.size = 4 from rfl]; omega)
  have hul := und_len l (bsAclS ++ p)
  refine ACalls_of Tryz.func112 rfl Tryz.ntmps112 (congrArg Array.toList Tryz.results112) (by simp only [List.length_cons, List.length_nil]; decide) ?_; simp only [envOf_cons, envOf_nil, Nat.reduceAdd]
  refine awp_seq ?_
  refine awp_region (by kernel_rfl) ?_
  (refine aL_S rfl rfl v_ ?_)
  refine aL_nil ?_
  refine awp_seq ?_
  have R := And.intro h01 (((show astr .add (⟨#[97, 99, 108, 47]⟩ : ByteArray) p = some (.string (bsAclS ++ p)) from e1)))
  refine awp_region (by kernel_rfl) ?_
  iterate 6 (refine aL_S rfl rfl v_ ?_)
  refine aL_X rfl rfl (AOp_use rfl rfl (.inr ⟨rfl, rfl, rfl⟩) g_ va_ (under_c (s := bsAclS ++ p) (by omega) (by rw [ByteArray.size_append, show bsAclS.size = 4 from rfl]; omega)) ?_); rintro _ _ ⟨rfl, rfl⟩
  refine aL_X rfl rfl (AOp_use rfl rfl (.inr ⟨rfl, rfl, rfl⟩) g_ va_ (cfAlw_c (l := undS l (bsAclS ++ p)) (by omega) (fun x hx => hk x (List.mem_filter.1 hx).1)) ?_); rintro _ _ ⟨rfl, rfl⟩
  (refine aL_S rfl rfl v_ ?_)
  refine aL_nil ?_
  refine awp_ret ?_
  refine aEnd_ret (σ' := σ) v_ sub_ ?_
  exact ⟨rfl, rfl⟩
theorem fld_rng {l : List Ent} {a b f : ByteArray} {o : Int} (h0 : 0 ≤ o) (h1 : o ≤ 16) : 0 ≤ fldS l a b f o ∧ fldS l a b f o ≤ 16 := by
  unfold fldS
  split
  · split
    · rename_i n _ h
      unfold mayP bdP at h
      simp only [Bool.and_eq_true, decide_eq_true_eq] at h
      split at h
      · obtain ⟨⟨_, h2⟩, h3⟩ := h; simp only at h2 h3; omega
      · split at h
        · obtain ⟨⟨_, h2⟩, h3⟩ := h; simp only at h2 h3; omega
        · split at h
          · obtain ⟨⟨_, h2⟩, h3⟩ := h; simp only at h2 h3; omega
          · obtain ⟨⟨h2, _⟩, _⟩ := h; cases h2
    · exact ⟨h0, h1⟩
  · exact ⟨h0, h1⟩
theorem fld_n {l : List Ent} {a b : ByteArray} : 1 ≤ fldS l a b fdN 3 := by
  unfold fldS
  split
  · split
    · rename_i n _ h
      unfold mayP at h
      rw [show bdP fdN = (1, 16, true) from by decide] at h
      simp only [Bool.and_eq_true, decide_eq_true_eq] at h
      exact h.1.2
    · decide
  · decide
def keyP (p : ByteArray) : ByteArray := pathS [bsProp, p]
def bktW (l : List Ent) (p : ByteArray) : List Wn := wIf (decide ((memsS l).length < (prpS l (cutS p).1 (cutS p).2.1).n)) 3 (keyP p) ++ (wIf (!strictP (prpS l (cutS p).1 (cutS p).2.1) && decide ((prpS l (cutS p).1 (cutS p).2.1).r + (prpS l (cutS p).1 (cutS p).2.1).w ≤ (prpS l (cutS p).1 (cutS p).2.1).n)) 5 (keyP p) ++ wIf (!alwS l p) 6 (keyP p))
theorem wIf_no (k : Int) (s : ByteArray) : wIf false k s = [] := rfl
theorem bkt_len (l : List Ent) (p : ByteArray) : (bktW l p).length ≤ 3 := by
  unfold bktW
  rw [List.length_append, List.length_append]
  have := fun b k s => wIf_len b k s
  have h1 := this (decide ((memsS l).length < (prpS l (cutS p).1 (cutS p).2.1).n)) 3 (keyP p)
  have h2 := this (!strictP (prpS l (cutS p).1 (cutS p).2.1) && decide ((prpS l (cutS p).1 (cutS p).2.1).r + (prpS l (cutS p).1 (cutS p).2.1).w ≤ (prpS l (cutS p).1 (cutS p).2.1).n)) 5 (keyP p)
  have h3 := this (!alwS l p) 6 (keyP p)
  omega
theorem minF_rng {l : List Ent} {a b f : ByteArray} {o : Int} (h0 : 0 ≤ o) (h1 : o ≤ 16) : 0 ≤ minF l a b f o ∧ minF l a b f o ≤ 16 := by
  have h2 := fld_rng (l := l) (a := a) (b := b) (f := f) h0 h1
  have h3 := fld_n (l := l) (a := a) (b := b)
  unfold minF; omega
set_option maxHeartbeats 2000000 in
theorem bucket_c {o : Nat} {l : List Ent} {t : Bool} {σ : Store} {ws : List Wn} {p : ByteArray} (h : WC σ o l t ws) (hw : ws.length ≤ 100000) (hp : p.size ≤ 200000) (hl : l.length ≤ 1000) (hs : ∀ x ∈ l, EntSm x) (hks : ∀ x ∈ l, x.key.size ≤ 400000 ∧ x.value.size ≤ 400000) (hm : memsS l = []) : ACalls Tryz.prog 75 [.ref o 0, vStr p] σ fun v σ' => v = .tup [] ∧ WC σ' o l t (ws ++ bktW l p) ∧ WF o σ σ' := by
  obtain ⟨b0, old0, h01, h02⟩ := id h
  have hcz := cut_sz p
  have hbk : bktW l p = wIf true 3 (keyP p) ++ (wIf (!strictP (prpS l (cutS p).1 (cutS p).2.1) && decide ((prpS l (cutS p).1 (cutS p).2.1).r + (prpS l (cutS p).1 (cutS p).2.1).w ≤ (prpS l (cutS p).1 (cutS p).2.1).n)) 5 (keyP p) ++ wIf (!alwS l p) 6 (keyP p)) := by
    unfold bktW
    rw [hm, decide_eq_true (by have := fld_n (l := l) (a := (cutS p).1) (b := (cutS p).2.1); show ((0 : Nat) : Int) < fldS l _ _ fdN 3; omega)]
  have hmm : (memsS l).map sMbr = [] := by rw [hm]; rfl
  obtain ⟨a, ha⟩ : ∃ a, (cutS p).1 = a := ⟨_, rfl⟩
  obtain ⟨b, hb⟩ : ∃ b, (cutS p).2.1 = b := ⟨_, rfl⟩
  rw [ha, hb] at hcz hbk
  have hn0 : 1 ≤ (prpS l a b).n := fld_n
  have hr0 : 0 ≤ (prpS l a b).r ∧ (prpS l a b).r ≤ 16 := minF_rng (by decide) (by decide)
  have hw0 : 0 ≤ (prpS l a b).w ∧ (prpS l a b).w ≤ 16 := minF_rng (by decide) (by decide)
  obtain ⟨q, hq⟩ : ∃ q, prpS l a b = q := ⟨_, rfl⟩
  rw [hq] at hbk hn0 hr0 hw0
  refine ACalls_of Tryz.func75 rfl Tryz.ntmps75 (congrArg Array.toList Tryz.results75) (by simp only [List.length_cons, List.length_nil]; decide) ?_; simp only [envOf_cons, envOf_nil, Nat.reduceAdd]
  refine awp_seq ?_
  refine awp_region (by kernel_rfl) ?_
  (refine aL_S rfl rfl v_ ?_)
  refine aL_X rfl rfl (AOp_use rfl rfl (.inr ⟨rfl, rfl, rfl⟩) g_ va_ (cut_c (by omega)) ?_); rintro _ _ ⟨rfl, rfl⟩
  rw [ha, hb]
  iterate 7 (refine aL_S rfl rfl v_ ?_)
  refine aL_nil ?_
  refine awp_seq_mid (ι := Nat) (fun p7 => σ.heap p7 = none) (fun p7 => [(0, .ref o 0), (1, vStr p), (7, .ref p7 0), (8, .sl 4 [] false), (9, vStr (keyP p))]) (fun p7 => (σ.set p7 (.cells (sPrp q).cells))) ?_ ?_
  · have R := h01
    refine awp_draw (.op 0 0 (.op 1 0 (.op 2 0 (.op 3 0 (.op 4 0 (.op 5 0 (.op 7 0 (.op 8 0 (.op 9 0 (.op 10 0 (.op 12 0 (.alt 6 1 (.alt 11 1 (.alt 13 1 (.alt 14 1 (.op 15 1 (.op 16 2 (.op 17 0 (.op 18 0 .nil)))) (.op 15 1 (.op 14 1 (.op 16 2 (.op 17 0 (.op 18 0 .nil)))))) (.op 15 1 (.op 13 1 (.op 14 1 (.op 16 2 (.op 17 0 (.op 18 0 .nil))))))) (.alt 13 1 (.alt 11 1 (.alt 14 1 (.op 15 1 (.op 16 2 (.op 17 0 (.op 18 0 .nil)))) (.op 15 1 (.op 14 1 (.op 16 2 (.op 17 0 (.op 18 0 .nil)))))) (.op 15 1 (.op 11 1 (.op 14 1 (.op 16 2 (.op 17 0 (.op 18 0 .nil))))))) (.op 15 1 (.alt 11 1 (.op 13 1 (.op 14 1 (.op 16 2 (.op 17 0 (.op 18 0 .nil))))) (.op 13 1 (.op 11 1 (.op 14 1 (.op 16 2 (.op 17 0 (.op 18 0 .nil)))))))))) (.alt 13 1 (.alt 6 1 (.alt 11 1 (.alt 14 1 (.op 15 1 (.op 16 2 (.op 17 0 (.op 18 0 .nil)))) (.op 15 1 (.op 14 1 (.op 16 2 (.op 17 0 (.op 18 0 .nil)))))) (.op 15 1 (.op 11 1 (.op 14 1 (.op 16 2 (.op 17 0 (.op 18 0 .nil))))))) (.op 15 1 (.op 6 1 (.op 11 1 (.op 14 1 (.op 16 2 (.op 17 0 (.op 18 0 .nil)))))))) (.op 15 1 (.alt 6 1 (.alt 11 1 (.op 13 1 (.op 14 1 (.op 16 2 (.op 17 0 (.op 18 0 .nil))))) (.op 13 1 (.op 11 1 (.op 14 1 (.op 16 2 (.op 17 0 (.op 18 0 .nil))))))) (.op 13 1 (.op 6 1 (.op 11 1 (.op 14 1 (.op 16 2 (.op 17 0 (.op 18 0 .nil)))))))))))))))))))))) Tryz.mixed (by kernel_rfl) ?_
    iterate 11 (refine dR_S o_ (by rfl) (by rfl) v_ ?_)
    refine dR_alt ?_ ?_
    · refine dR_X o_ (by rfl) (by rfl) (AOp_use (by rfl) (by rfl) (.inr ⟨by rfl, by rfl, by rfl⟩) g_ va_ (pOf_c (a := a) (b := b) (by omega) hs (by omega) (by omega)) ?_); rintro _ _ ⟨rfl, rfl⟩; refine ⟨sub_, ?_⟩
      rw [hq]
      refine dR_alt ?_ ?_
      · refine dR_X o_ (by rfl) (by rfl) (AOp_use (by rfl) (by rfl) (.inr ⟨by rfl, by rfl, by rfl⟩) g_ va_ (members_c (by omega) hs hks) ?_); rintro _ _ ⟨rfl, rfl⟩; refine ⟨sub_, ?_⟩
        rw [hmm]
        refine dR_alt ?_ ?_
        · refine dR_X o_ (by rfl) (by rfl) (AOp_buildSlice' (by rfl) g_ g_ (by rfl) (by rfl) h_ c2_ (by decide) ⟨sub_, ?_⟩)
          refine dR_alt ?_ ?_
          · refine dR_X o_ (by rfl) (by rfl) (AOp_use (by rfl) (by rfl) (.inr ⟨by rfl, by rfl, by rfl⟩) g_ va_ (path_c (l := [bsProp, p]) (by simp) (by simp [Lb_length, show (Lb bsProp).length = 4 from rfl]; omega)) ?_); rintro _ _ ⟨rfl, rfl⟩; refine ⟨sub_, ?_⟩
            refine dR_alloc o_ (by rfl) (by rfl) (by rfl) g_ gl_ sub_ fun o7 ho7 => ?_
            repeat (rw [none_set_iff] at ho7; obtain ⟨_, ho7⟩ := ho7)
            refine dR_store o_ (by rfl) (by rfl) (by rfl) v_ v_ h_ g_ rfl g_ c_ (by rfl) le_ v_ ?_
            iterate 2 (refine dR_S o_ (by rfl) (by rfl) v_ ?_)
            refine dR_nil ?_
            refine ⟨o7, ?_, ?_, ?_⟩
            · exact ho7
            · exact cv_
            · (try dsimp only); (try rw [Store.set_set]); exact sub_
          refine dR_alloc o_ (by rfl) (by rfl) (by rfl) g_ gl_ sub_ fun o7 ho7 => ?_
          repeat (rw [none_set_iff] at ho7; obtain ⟨_, ho7⟩ := ho7)
          refine dR_X o_ (by rfl) (by rfl) (AOp_use (by rfl) (by rfl) (.inr ⟨by rfl, by rfl, by rfl⟩) g_ va_ (path_c (l := [bsProp, p]) (by simp) (by simp [Lb_length, show (Lb bsProp).length = 4 from rfl]; omega)) ?_); rintro _ _ ⟨rfl, rfl⟩; refine ⟨sub_, ?_⟩
          refine dR_store o_ (by rfl) (by rfl) (by rfl) v_ v_ h_ g_ rfl g_ c_ (by rfl) le_ v_ ?_
          iterate 2 (refine dR_S o_ (by rfl) (by rfl) v_ ?_)
          refine dR_nil ?_
          refine ⟨o7, ?_, ?_, ?_⟩
          · exact ho7
          · exact cv_
          · (try dsimp only); (try rw [Store.set_set]); exact sub_
        refine dR_alloc o_ (by rfl) (by rfl) (by rfl) g_ gl_ sub_ fun o7 ho7 => ?_
        repeat (rw [none_set_iff] at ho7; obtain ⟨_, ho7⟩ := ho7)
        refine dR_X o_ (by rfl) (by rfl) (AOp_buildSlice' (by rfl) g_ g_ (by rfl) (by rfl) h_ c2_ (by decide) ⟨sub_, ?_⟩)
        refine dR_X o_ (by rfl) (by rfl) (AOp_use (by rfl) (by rfl) (.inr ⟨by rfl, by rfl, by rfl⟩) g_ va_ (path_c (l := [bsProp, p]) (by simp) (by simp [Lb_length, show (Lb bsProp).length = 4 from rfl]; omega)) ?_); rintro _ _ ⟨rfl, rfl⟩; refine ⟨sub_, ?_⟩
        refine dR_store o_ (by rfl) (by rfl) (by rfl) v_ v_ h_ g_ rfl g_ c_ (by rfl) le_ v_ ?_
        iterate 2 (refine dR_S o_ (by rfl) (by rfl) v_ ?_)
        refine dR_nil ?_
        refine ⟨o7, ?_, ?_, ?_⟩
        · exact ho7
        · exact cv_
        · (try dsimp only); (try rw [Store.set_set]); exact sub_
      refine dR_alt ?_ ?_
      · refine dR_X o_ (by rfl) (by rfl) (AOp_buildSlice' (by rfl) g_ g_ (by rfl) (by rfl) h_ c2_ (by decide) ⟨sub_, ?_⟩)
        refine dR_alt ?_ ?_
        · refine dR_X o_ (by rfl) (by rfl) (AOp_use (by rfl) (by rfl) (.inr ⟨by rfl, by rfl, by rfl⟩) g_ va_ (members_c (by omega) hs hks) ?_); rintro _ _ ⟨rfl, rfl⟩; refine ⟨sub_, ?_⟩
          rw [hmm]
          refine dR_alt ?_ ?_
          · refine dR_X o_ (by rfl) (by rfl) (AOp_use (by rfl) (by rfl) (.inr ⟨by rfl, by rfl, by rfl⟩) g_ va_ (path_c (l := [bsProp, p]) (by simp) (by simp [Lb_length, show (Lb bsProp).length = 4 from rfl]; omega)) ?_); rintro _ _ ⟨rfl, rfl⟩; refine ⟨sub_, ?_⟩
            refine dR_alloc o_ (by rfl) (by rfl) (by rfl) g_ gl_ sub_ fun o7 ho7 => ?_
            repeat (rw [none_set_iff] at ho7; obtain ⟨_, ho7⟩ := ho7)
            refine dR_store o_ (by rfl) (by rfl) (by rfl) v_ v_ h_ g_ rfl g_ c_ (by rfl) le_ v_ ?_
            iterate 2 (refine dR_S o_ (by rfl) (by rfl) v_ ?_)
            refine dR_nil ?_
            refine ⟨o7, ?_, ?_, ?_⟩
            · exact ho7
            · exact cv_
            · (try dsimp only); (try rw [Store.set_set]); exact sub_
          refine dR_alloc o_ (by rfl) (by rfl) (by rfl) g_ gl_ sub_ fun o7 ho7 => ?_
          repeat (rw [none_set_iff] at ho7; obtain ⟨_, ho7⟩ := ho7)
          refine dR_X o_ (by rfl) (by rfl) (AOp_use (by rfl) (by rfl) (.inr ⟨by rfl, by rfl, by rfl⟩) g_ va_ (path_c (l := [bsProp, p]) (by simp) (by simp [Lb_length, show (Lb bsProp).length = 4 from rfl]; omega)) ?_); rintro _ _ ⟨rfl, rfl⟩; refine ⟨sub_, ?_⟩
          refine dR_store o_ (by rfl) (by rfl) (by rfl) v_ v_ h_ g_ rfl g_ c_ (by rfl) le_ v_ ?_
          iterate 2 (refine dR_S o_ (by rfl) (by rfl) v_ ?_)
          refine dR_nil ?_
          refine ⟨o7, ?_, ?_, ?_⟩
          · exact ho7
          · exact cv_
          · (try dsimp only); (try rw [Store.set_set]); exact sub_
        refine dR_alloc o_ (by rfl) (by rfl) (by rfl) g_ gl_ sub_ fun o7 ho7 => ?_
        repeat (rw [none_set_iff] at ho7; obtain ⟨_, ho7⟩ := ho7)
        refine dR_X o_ (by rfl) (by rfl) (AOp_use (by rfl) (by rfl) (.inr ⟨by rfl, by rfl, by rfl⟩) g_ va_ (members_c (by omega) hs hks) ?_); rintro _ _ ⟨rfl, rfl⟩; refine ⟨sub_, ?_⟩
        rw [hmm]
        refine dR_X o_ (by rfl) (by rfl) (AOp_use (by rfl) (by rfl) (.inr ⟨by rfl, by rfl, by rfl⟩) g_ va_ (path_c (l := [bsProp, p]) (by simp) (by simp [Lb_length, show (Lb bsProp).length = 4 from rfl]; omega)) ?_); rintro _ _ ⟨rfl, rfl⟩; refine ⟨sub_, ?_⟩
        refine dR_store o_ (by rfl) (by rfl) (by rfl) v_ v_ h_ g_ rfl g_ c_ (by rfl) le_ v_ ?_
        iterate 2 (refine dR_S o_ (by rfl) (by rfl) v_ ?_)
        refine dR_nil ?_
        refine ⟨o7, ?_, ?_, ?_⟩
        · exact ho7
        · exact cv_
        · (try dsimp only); (try rw [Store.set_set]); exact sub_
      refine dR_alloc o_ (by rfl) (by rfl) (by rfl) g_ gl_ sub_ fun o7 ho7 => ?_
      repeat (rw [none_set_iff] at ho7; obtain ⟨_, ho7⟩ := ho7)
      refine dR_alt ?_ ?_
      · refine dR_X o_ (by rfl) (by rfl) (AOp_use (by rfl) (by rfl) (.inr ⟨by rfl, by rfl, by rfl⟩) g_ va_ (members_c (by omega) hs hks) ?_); rintro _ _ ⟨rfl, rfl⟩; refine ⟨sub_, ?_⟩
        rw [hmm]
        refine dR_X o_ (by rfl) (by rfl) (AOp_buildSlice' (by rfl) g_ g_ (by rfl) (by rfl) h_ c2_ (by decide) ⟨sub_, ?_⟩)
        refine dR_X o_ (by rfl) (by rfl) (AOp_use (by rfl) (by rfl) (.inr ⟨by rfl, by rfl, by rfl⟩) g_ va_ (path_c (l := [bsProp, p]) (by simp) (by simp [Lb_length, show (Lb bsProp).length = 4 from rfl]; omega)) ?_); rintro _ _ ⟨rfl, rfl⟩; refine ⟨sub_, ?_⟩
        refine dR_store o_ (by rfl) (by rfl) (by rfl) v_ v_ h_ g_ rfl g_ c_ (by rfl) le_ v_ ?_
        iterate 2 (refine dR_S o_ (by rfl) (by rfl) v_ ?_)
        refine dR_nil ?_
        refine ⟨o7, ?_, ?_, ?_⟩
        · exact ho7
        · exact cv_
        · (try dsimp only); (try rw [Store.set_set]); exact sub_
      refine dR_X o_ (by rfl) (by rfl) (AOp_buildSlice' (by rfl) g_ g_ (by rfl) (by rfl) h_ c2_ (by decide) ⟨sub_, ?_⟩)
      refine dR_X o_ (by rfl) (by rfl) (AOp_use (by rfl) (by rfl) (.inr ⟨by rfl, by rfl, by rfl⟩) g_ va_ (members_c (by omega) hs hks) ?_); rintro _ _ ⟨rfl, rfl⟩; refine ⟨sub_, ?_⟩
      rw [hmm]
      refine dR_X o_ (by rfl) (by rfl) (AOp_use (by rfl) (by rfl) (.inr ⟨by rfl, by rfl, by rfl⟩) g_ va_ (path_c (l := [bsProp, p]) (by simp) (by simp [Lb_length, show (Lb bsProp).length = 4 from rfl]; omega)) ?_); rintro _ _ ⟨rfl, rfl⟩; refine ⟨sub_, ?_⟩
      refine dR_store o_ (by rfl) (by rfl) (by rfl) v_ v_ h_ g_ rfl g_ c_ (by rfl) le_ v_ ?_
      iterate 2 (refine dR_S o_ (by rfl) (by rfl) v_ ?_)
      refine dR_nil ?_
      refine ⟨o7, ?_, ?_, ?_⟩
      · exact ho7
      · exact cv_
      · (try dsimp only); (try rw [Store.set_set]); exact sub_
    refine dR_alt ?_ ?_
    · refine dR_X o_ (by rfl) (by rfl) (AOp_buildSlice' (by rfl) g_ g_ (by rfl) (by rfl) h_ c2_ (by decide) ⟨sub_, ?_⟩)
      refine dR_alt ?_ ?_
      · refine dR_X o_ (by rfl) (by rfl) (AOp_use (by rfl) (by rfl) (.inr ⟨by rfl, by rfl, by rfl⟩) g_ va_ (pOf_c (a := a) (b := b) (by omega) hs (by omega) (by omega)) ?_); rintro _ _ ⟨rfl, rfl⟩; refine ⟨sub_, ?_⟩
        rw [hq]
        refine dR_alt ?_ ?_
        · refine dR_X o_ (by rfl) (by rfl) (AOp_use (by rfl) (by rfl) (.inr ⟨by rfl, by rfl, by rfl⟩) g_ va_ (members_c (by omega) hs hks) ?_); rintro _ _ ⟨rfl, rfl⟩; refine ⟨sub_, ?_⟩
          rw [hmm]
          refine dR_alt ?_ ?_
          · refine dR_X o_ (by rfl) (by rfl) (AOp_use (by rfl) (by rfl) (.inr ⟨by rfl, by rfl, by rfl⟩) g_ va_ (path_c (l := [bsProp, p]) (by simp) (by simp [Lb_length, show (Lb bsProp).length = 4 from rfl]; omega)) ?_); rintro _ _ ⟨rfl, rfl⟩; refine ⟨sub_, ?_⟩
            refine dR_alloc o_ (by rfl) (by rfl) (by rfl) g_ gl_ sub_ fun o7 ho7 => ?_
            repeat (rw [none_set_iff] at ho7; obtain ⟨_, ho7⟩ := ho7)
            refine dR_store o_ (by rfl) (by rfl) (by rfl) v_ v_ h_ g_ rfl g_ c_ (by rfl) le_ v_ ?_
            iterate 2 (refine dR_S o_ (by rfl) (by rfl) v_ ?_)
            refine dR_nil ?_
            refine ⟨o7, ?_, ?_, ?_⟩
            · exact ho7
            · exact cv_
            · (try dsimp only); (try rw [Store.set_set]); exact sub_
          refine dR_alloc o_ (by rfl) (by rfl) (by rfl) g_ gl_ sub_ fun o7 ho7 => ?_
          repeat (rw [none_set_iff] at ho7; obtain ⟨_, ho7⟩ := ho7)
          refine dR_X o_ (by rfl) (by rfl) (AOp_use (by rfl) (by rfl) (.inr ⟨by rfl, by rfl, by rfl⟩) g_ va_ (path_c (l := [bsProp, p]) (by simp) (by simp [Lb_length, show (Lb bsProp).length = 4 from rfl]; omega)) ?_); rintro _ _ ⟨rfl, rfl⟩; refine ⟨sub_, ?_⟩
          refine dR_store o_ (by rfl) (by rfl) (by rfl) v_ v_ h_ g_ rfl g_ c_ (by rfl) le_ v_ ?_
          iterate 2 (refine dR_S o_ (by rfl) (by rfl) v_ ?_)
          refine dR_nil ?_
          refine ⟨o7, ?_, ?_, ?_⟩
          · exact ho7
          · exact cv_
          · (try dsimp only); (try rw [Store.set_set]); exact sub_
        refine dR_alloc o_ (by rfl) (by rfl) (by rfl) g_ gl_ sub_ fun o7 ho7 => ?_
        repeat (rw [none_set_iff] at ho7; obtain ⟨_, ho7⟩ := ho7)
        refine dR_X o_ (by rfl) (by rfl) (AOp_use (by rfl) (by rfl) (.inr ⟨by rfl, by rfl, by rfl⟩) g_ va_ (members_c (by omega) hs hks) ?_); rintro _ _ ⟨rfl, rfl⟩; refine ⟨sub_, ?_⟩
        rw [hmm]
        refine dR_X o_ (by rfl) (by rfl) (AOp_use (by rfl) (by rfl) (.inr ⟨by rfl, by rfl, by rfl⟩) g_ va_ (path_c (l := [bsProp, p]) (by simp) (by simp [Lb_length, show (Lb bsProp).length = 4 from rfl]; omega)) ?_); rintro _ _ ⟨rfl, rfl⟩; refine ⟨sub_, ?_⟩
        refine dR_store o_ (by rfl) (by rfl) (by rfl) v_ v_ h_ g_ rfl g_ c_ (by rfl) le_ v_ ?_
        iterate 2 (refine dR_S o_ (by rfl) (by rfl) v_ ?_)
        refine dR_nil ?_
        refine ⟨o7, ?_, ?_, ?_⟩
        · exact ho7
        · exact cv_
        · (try dsimp only); (try rw [Store.set_set]); exact sub_
      refine dR_alloc o_ (by rfl) (by rfl) (by rfl) g_ gl_ sub_ fun o7 ho7 => ?_
      repeat (rw [none_set_iff] at ho7; obtain ⟨_, ho7⟩ := ho7)
      refine dR_X o_ (by rfl) (by rfl) (AOp_use (by rfl) (by rfl) (.inr ⟨by rfl, by rfl, by rfl⟩) g_ va_ (pOf_c (a := a) (b := b) (by omega) hs (by omega) (by omega)) ?_); rintro _ _ ⟨rfl, rfl⟩; refine ⟨sub_, ?_⟩
      rw [hq]
      refine dR_X o_ (by rfl) (by rfl) (AOp_use (by rfl) (by rfl) (.inr ⟨by rfl, by rfl, by rfl⟩) g_ va_ (members_c (by omega) hs hks) ?_); rintro _ _ ⟨rfl, rfl⟩; refine ⟨sub_, ?_⟩
      rw [hmm]
      refine dR_X o_ (by rfl) (by rfl) (AOp_use (by rfl) (by rfl) (.inr ⟨by rfl, by rfl, by rfl⟩) g_ va_ (path_c (l := [bsProp, p]) (by simp) (by simp [Lb_length, show (Lb bsProp).length = 4 from rfl]; omega)) ?_); rintro _ _ ⟨rfl, rfl⟩; refine ⟨sub_, ?_⟩
      refine dR_store o_ (by rfl) (by rfl) (by rfl) v_ v_ h_ g_ rfl g_ c_ (by rfl) le_ v_ ?_
      iterate 2 (refine dR_S o_ (by rfl) (by rfl) v_ ?_)
      refine dR_nil ?_
      refine ⟨o7, ?_, ?_, ?_⟩
      · exact ho7
      · exact cv_
      · (try dsimp only); (try rw [Store.set_set]); exact sub_
    refine dR_alloc o_ (by rfl) (by rfl) (by rfl) g_ gl_ sub_ fun o7 ho7 => ?_
    repeat (rw [none_set_iff] at ho7; obtain ⟨_, ho7⟩ := ho7)
    refine dR_alt ?_ ?_
    · refine dR_X o_ (by rfl) (by rfl) (AOp_use (by rfl) (by rfl) (.inr ⟨by rfl, by rfl, by rfl⟩) g_ va_ (pOf_c (a := a) (b := b) (by omega) hs (by omega) (by omega)) ?_); rintro _ _ ⟨rfl, rfl⟩; refine ⟨sub_, ?_⟩
      rw [hq]
      refine dR_alt ?_ ?_
      · refine dR_X o_ (by rfl) (by rfl) (AOp_use (by rfl) (by rfl) (.inr ⟨by rfl, by rfl, by rfl⟩) g_ va_ (members_c (by omega) hs hks) ?_); rintro _ _ ⟨rfl, rfl⟩; refine ⟨sub_, ?_⟩
        rw [hmm]
        refine dR_X o_ (by rfl) (by rfl) (AOp_buildSlice' (by rfl) g_ g_ (by rfl) (by rfl) h_ c2_ (by decide) ⟨sub_, ?_⟩)
        refine dR_X o_ (by rfl) (by rfl) (AOp_use (by rfl) (by rfl) (.inr ⟨by rfl, by rfl, by rfl⟩) g_ va_ (path_c (l := [bsProp, p]) (by simp) (by simp [Lb_length, show (Lb bsProp).length = 4 from rfl]; omega)) ?_); rintro _ _ ⟨rfl, rfl⟩; refine ⟨sub_, ?_⟩
        refine dR_store o_ (by rfl) (by rfl) (by rfl) v_ v_ h_ g_ rfl g_ c_ (by rfl) le_ v_ ?_
        iterate 2 (refine dR_S o_ (by rfl) (by rfl) v_ ?_)
        refine dR_nil ?_
        refine ⟨o7, ?_, ?_, ?_⟩
        · exact ho7
        · exact cv_
        · (try dsimp only); (try rw [Store.set_set]); exact sub_
      refine dR_X o_ (by rfl) (by rfl) (AOp_buildSlice' (by rfl) g_ g_ (by rfl) (by rfl) h_ c2_ (by decide) ⟨sub_, ?_⟩)
      refine dR_X o_ (by rfl) (by rfl) (AOp_use (by rfl) (by rfl) (.inr ⟨by rfl, by rfl, by rfl⟩) g_ va_ (members_c (by omega) hs hks) ?_); rintro _ _ ⟨rfl, rfl⟩; refine ⟨sub_, ?_⟩
      rw [hmm]
      refine dR_X o_ (by rfl) (by rfl) (AOp_use (by rfl) (by rfl) (.inr ⟨by rfl, by rfl, by rfl⟩) g_ va_ (path_c (l := [bsProp, p]) (by simp) (by simp [Lb_length, show (Lb bsProp).length = 4 from rfl]; omega)) ?_); rintro _ _ ⟨rfl, rfl⟩; refine ⟨sub_, ?_⟩
      refine dR_store o_ (by rfl) (by rfl) (by rfl) v_ v_ h_ g_ rfl g_ c_ (by rfl) le_ v_ ?_
      iterate 2 (refine dR_S o_ (by rfl) (by rfl) v_ ?_)
      refine dR_nil ?_
      refine ⟨o7, ?_, ?_, ?_⟩
      · exact ho7
      · exact cv_
      · (try dsimp only); (try rw [Store.set_set]); exact sub_
    refine dR_X o_ (by rfl) (by rfl) (AOp_buildSlice' (by rfl) g_ g_ (by rfl) (by rfl) h_ c2_ (by decide) ⟨sub_, ?_⟩)
    refine dR_X o_ (by rfl) (by rfl) (AOp_use (by rfl) (by rfl) (.inr ⟨by rfl, by rfl, by rfl⟩) g_ va_ (pOf_c (a := a) (b := b) (by omega) hs (by omega) (by omega)) ?_); rintro _ _ ⟨rfl, rfl⟩; refine ⟨sub_, ?_⟩
    rw [hq]
    refine dR_X o_ (by rfl) (by rfl) (AOp_use (by rfl) (by rfl) (.inr ⟨by rfl, by rfl, by rfl⟩) g_ va_ (members_c (by omega) hs hks) ?_); rintro _ _ ⟨rfl, rfl⟩; refine ⟨sub_, ?_⟩
    rw [hmm]
    refine dR_X o_ (by rfl) (by rfl) (AOp_use (by rfl) (by rfl) (.inr ⟨by rfl, by rfl, by rfl⟩) g_ va_ (path_c (l := [bsProp, p]) (by simp) (by simp [Lb_length, show (Lb bsProp).length = 4 from rfl]; omega)) ?_); rintro _ _ ⟨rfl, rfl⟩; refine ⟨sub_, ?_⟩
    refine dR_store o_ (by rfl) (by rfl) (by rfl) v_ v_ h_ g_ rfl g_ c_ (by rfl) le_ v_ ?_
    iterate 2 (refine dR_S o_ (by rfl) (by rfl) v_ ?_)
    refine dR_nil ?_
    refine ⟨o7, ?_, ?_, ?_⟩
    · exact ho7
    · exact cv_
    · (try dsimp only); (try rw [Store.set_set]); exact sub_
  · rintro p7 h7
    simp only [envL_cons, envL_nil]
    refine awp_seq ?_
    have hne7 := wf_ne (σ := σ) h h7
    have hfw : decide (((0 : Nat) : Int) < q.n) = true := decide_eq_true (by omega)
    have R := hfw
    refine awp_region (by kernel_rfl) ?_
    iterate 6 (refine aL_S rfl rfl v_ ?_)
    refine aL_nil ?_
    refine awp_seq ?_
    refine awp_region (by kernel_rfl) ?_
    iterate 3 (refine aL_S rfl rfl v_ ?_)
    refine aL_X rfl rfl (AOp_use rfl rfl (.inr ⟨rfl, rfl, rfl⟩) g_ va_ (warn_c (h.set h7) (by omega)) ?_); rintro _ τ1 ⟨rfl, hC1, hF1⟩
    refine aL_nil ?_
    have h17 := hF1.1 p7 _ hne7 (Store.set_get ..)
    refine awp_seq ?_
    have R := h17
    refine awp_draw (.op 0 0 (.op 1 0 (.op 2 0 (.op 3 0 (.op 4 0 (.op 5 0 (.op 6 0 (.op 11 0 (.op 7 1 (.op 8 0 (.op 9 0 (.op 10 0 (.op 12 2 .nil))))))))))))) Tryz.mixed (by kernel_rfl) ?_
    iterate 4 (refine dR_S o_ (by rfl) (by rfl) v_ ?_)
    first | (refine dR_SN o_ (by rfl) wn_ ?_) | (refine dR_SY o_ (by rfl) (wantedA_yes (by rfl) (by rfl) v_ (by rfl)) v_ ?_)
    first | (refine dR_SN o_ (by rfl) wn_ ?_) | (refine dR_SY o_ (by rfl) (wantedA_yes (by rfl) (by rfl) v_ (by rfl)) v_ ?_)
    first | (refine dR_SN o_ (by rfl) wn_ ?_) | (refine dR_SY o_ (by rfl) (wantedA_yes (by rfl) (by rfl) v_ (by rfl)) v_ ?_)
    (refine dR_S o_ (by rfl) (by rfl) v_ ?_)
    refine dR_XN o_ (by rfl) wn_ sub_ ?_
    first | (refine dR_SN o_ (by rfl) wn_ ?_) | (refine dR_SY o_ (by rfl) (wantedA_yes (by rfl) (by rfl) v_ (by rfl)) v_ ?_)
    first | (refine dR_SN o_ (by rfl) wn_ ?_) | (refine dR_SY o_ (by rfl) (wantedA_yes (by rfl) (by rfl) v_ (by rfl)) v_ ?_)
    (refine dR_S o_ (by rfl) (by rfl) v_ ?_)
    refine dR_T o_ (by rfl) (by rfl) (AOp_use (by rfl) (by rfl) (.inr ⟨by rfl, by rfl, by rfl⟩) g_ va_ (warn_c hC1 (by rw [List.length_append]; have := wIf_len true 3 (keyP p); omega)) ?_); rintro _ τ2 ⟨rfl, hC2, hF2⟩
    refine dR_nil ?_
    have h27 := hF2.1 p7 _ hne7 h17
    refine awp_seq ?_
    have R := h27
    refine awp_region (by kernel_rfl) ?_
    iterate 2 (refine aL_S rfl rfl v_ ?_)
    refine aL_X rfl rfl (AOp_use rfl rfl (.inr ⟨rfl, rfl, rfl⟩) g_ va_ (pStrict_c) ?_); rintro _ _ ⟨rfl, rfl⟩
    iterate 2 (refine aL_S rfl rfl v_ ?_)
    refine aL_GT rfl rfl v_ rfl vg_ ?_
    refine aL_GT rfl rfl v_ rfl vg_ ?_
    refine aL_GT rfl rfl v_ rfl vg_ ?_
    refine aL_GT rfl rfl v_ rfl vg_ ?_
    refine aL_GT rfl rfl v_ rfl vg_ ?_
    refine aL_GT rfl rfl v_ rfl vg_ ?_
    refine aL_GT rfl rfl v_ rfl vg_ ?_
    refine aL_GT rfl rfl v_ rfl vg_ ?_
    iterate 2 (refine aL_S rfl rfl v_ ?_)
    refine aL_X rfl rfl (AOp_use rfl rfl (.inr ⟨rfl, rfl, rfl⟩) g_ va_ (warn_c hC2 (by rw [List.length_append, List.length_append]; have := wIf_len true 3 (keyP p); have := wIf_len false 4 (keyP p); omega)) ?_); rintro _ τ3 ⟨rfl, hC3, hF3⟩
    refine aL_nil ?_
    refine awp_region (by kernel_rfl) ?_
    iterate 3 (refine aL_S rfl rfl v_ ?_)
    refine aL_X rfl rfl (AOp_use rfl rfl (.inr ⟨rfl, rfl, rfl⟩) g_ va_ (allowed_c hC3 (by omega) (by omega) (fun x hx => (hks x hx).1)) ?_); rintro _ _ ⟨rfl, rfl⟩
    iterate 2 (refine aL_S rfl rfl v_ ?_)
    refine aL_X rfl rfl (AOp_use rfl rfl (.inr ⟨rfl, rfl, rfl⟩) g_ va_ (warn_c hC3 (by have g1 := wIf_len true 3 (keyP p); have g2 := wIf_len false 4 (keyP p); have g3 := wIf_len (!strictP q && decide (q.r + q.w ≤ q.n)) 5 (keyP p); simp only [List.length_append]; omega)) ?_); rintro _ τ4 ⟨rfl, hC4, hF4⟩
    refine aL_nil ?_
    refine aEnd_nor v_ (Store.Wk.refl _) ?_
    skip
    rw [wIf_no, List.append_nil, List.append_assoc, List.append_assoc] at hC4
    exact ⟨rfl, by rw [hbk]; exact hC4, ((((WF.refl.alloc h7 hne7).trans hF1).trans hF2).trans hF3).trans hF4⟩
end Go.Proofs.YtbomkkjhafdhiaaGreatDoor
end

section
set_option linter.all false
set_option maxRecDepth 100000
namespace Go.Proofs.YtbomkkjhafdhiaaGreatDoor
open Go.Ab
def nth (p : List ByteArray) (k : Nat) : ByteArray := (p[k]?).getD ⟨#[]⟩
def bkN (x : Ent) : Option ByteArray := if knownS x.key = true then some (pathS [nth (partsS x.key) 1, nth (partsS x.key) 2]) else none
def bucketsS (l : List Ent) : List ByteArray := compactL (sortSS ((undS l bsProp).filterMap bkN))
theorem known_prop {l : List Ent} {x : Ent} (hx : x ∈ undS l bsProp) (hk : knownS x.key = true) : (partsS x.key).length = 4 := by
  have hp := und_hp hx
  have e0 : bsProp ++ ⟨#[47]⟩ = B (Lb bsProp ++ [47]) := by rw [← B_append, B_Lb]; rfl
  rw [e0] at hp
  obtain ⟨r, hr⟩ := hpS_iff.1 hp
  have hke : x.key = B (Lb bsProp ++ 47 :: Lb (B r)) := by apply Lb_inj; rw [hr, Lb_B, Lb_B]; simp
  have h1 := (known_len (p := partsS x.key) hk).2.2
  have h2 : (partsS x.key).headD ⟨#[]⟩ = bsProp := by rw [hke, partsS_at (by decide)]; rfl
  rw [h1, h2]; rfl
theorem nth_get {p : List ByteArray} {k : Nat} (h : k < p.length) : p[k]? = some (nth p k) := by unfold nth; rw [List.getElem?_eq_getElem h]; rfl
theorem nth_sz {s : ByteArray} (k : Nat) : (nth (partsS s) k).size ≤ s.size := by
  unfold nth
  cases h : (partsS s)[k]? with
  | none => exact Nat.zero_le _
  | some x => exact (partsS_mem (List.mem_of_getElem? h)).2
theorem buckets_len (l : List Ent) : (bucketsS l).length ≤ l.length := Nat.le_trans (once_len _) (Nat.le_trans (List.length_filterMap_le ..) (und_len l bsProp))
set_option maxHeartbeats 2000000 in
theorem buckets_c {l : List Ent} {t : Bool} {σ : Store} (hl : l.length ≤ 1000) (hs : ∀ x ∈ l, EntSm x) (hks : ∀ x ∈ l, x.key.size ≤ 400000) : ACalls Tryz.prog 51 [.sl 4 (l.map sEnt) t] σ fun v σ' => v = .sl 1 ((bucketsS l).map vStr) false ∧ σ = σ' := by
  obtain ⟨U, hU⟩ : ∃ U, undS l bsProp = U := ⟨_, rfl⟩
  have hUl := und_len l bsProp
  have hUs := und_sm (s := bsProp) hs
  have hUk : ∀ x ∈ undS l bsProp, knownS x.key = true → (partsS x.key).length = 4 := fun x hx => known_prop hx
  have hsub : ∀ x ∈ undS l bsProp, x ∈ l := fun x hx => (List.mem_filter.1 hx).1
  rw [hU] at hUl hUs hUk hsub
  have hall : compactL (sortSS (U.filterMap bkN)) = bucketsS l := by rw [← hU]; rfl
  refine ACalls_of Tryz.func51 rfl Tryz.ntmps51 (congrArg Array.toList Tryz.results51) (by simp only [List.length_cons, List.length_nil]; decide) ?_; simp only [envOf_cons, envOf_nil, Nat.reduceAdd]
  refine awp_seq ?_
  refine awp_region (by kernel_rfl) ?_
  (refine aL_S rfl rfl v_ ?_)
  refine aL_nil ?_
  refine awp_seq ?_
  refine awp_region (by kernel_rfl) ?_
  (refine aL_S rfl rfl v_ ?_)
  refine aL_nil ?_
  refine awp_seq ?_
  refine awp_seq ?_
  refine awp_region (by kernel_rfl) ?_
  (refine aL_S rfl rfl v_ ?_)
  refine aL_X rfl rfl (AOp_use rfl rfl (.inr ⟨rfl, rfl, rfl⟩) g_ va_ (under_c (s := bsProp) (by omega) (by decide)) ?_); rintro _ _ ⟨rfl, rfl⟩
  iterate 2 (refine aL_S rfl rfl v_ ?_)
  refine aL_nil ?_
  rw [hU]
  refine awp_block ?_
  refine awp_loop_env (ι := Store × AVal × Nat) (fun ⟨τ, g, k⟩ => U.length - k) (fun ⟨τ, g, k⟩ => k ≤ U.length ∧ CBp σ τ 1 (((U.take k).filterMap bkN).map vStr) g) (fun ⟨τ, g, k⟩ => [(3, g), (8, .sl 4 (U.map sEnt) false), (9, vInt U.length), (10, vInt k)]) (fun ⟨τ, g, k⟩ => τ) (σ, vNil, 0) ?_ ?_ ?_ ?_
  · exact ⟨Nat.zero_le _, .inl ⟨rfl, rfl, rfl⟩⟩
  · exact cv_
  · exact Store.Wk.refl _
  rintro ⟨τ, g, k⟩ ⟨hk, hC⟩
  simp only [envL_cons, envL_nil]
  refine awp_seq ?_
  refine awp_region (by kernel_rfl) ?_
  (refine aL_S rfl rfl v_ ?_)
  refine aL_nil ?_
  refine awp_seq ?_
  refine awp_cond v_ (fun hc3 => ?_) (fun hc3 => ?_)
  · replace hc3 := nm_ hc3
    refine awp_skip ?_
    refine awp_seq ?_
    refine awp_block ?_
    refine awp_seq ?_
    obtain ⟨x, hx⟩ := get_some (l := U) (k := k) (by omega)
    have hxm := List.mem_of_getElem? hx
    have hsn := fm_snoc (f := bkN) hx
    have hle : ((U.take k).filterMap bkN).length ≤ U.length := Nat.le_trans (List.length_filterMap_le ..) (by rw [List.length_take]; omega)
    have hkz := hks x (hsub x hxm)
    have z1 := nth_sz (s := x.key) 1
    have z2 := nth_sz (s := x.key) 2
    have R := hx
    refine awp_region (by kernel_rfl) ?_
    iterate 2 (refine aL_S rfl rfl v_ ?_)
    refine aL_alloc rfl rfl rfl g_ gl_ fun o5 ho5 => ?_
    repeat (rw [none_set_iff] at ho5; obtain ⟨_, ho5⟩ := ho5)
    refine aL_store rfl rfl rfl v_ v_ h_ g_ rfl g_ c_ (by rfl) le_ v_ ?_
    refine aL_nil ?_
    skip
    have n5 := heap_none hC ho5
    have hC1 := cbp_set2 (x := .cells [.lit (.string ⟨#[]⟩), vInt 0, .lit (.string ⟨#[]⟩), .lit (.string ⟨#[]⟩)]) (y := .cells (sEnt x).cells) hC ho5
    refine awp_seq ?_
    refine awp_region (by kernel_rfl) ?_
    iterate 2 (refine aL_S rfl rfl v_ ?_)
    refine aL_X rfl rfl (AOp_use rfl rfl (.inr ⟨rfl, rfl, rfl⟩) g_ va_ (parts_c (by omega)) ?_); rintro _ _ ⟨rfl, rfl⟩
    (refine aL_S rfl rfl v_ ?_)
    refine aL_nil ?_
    refine awp_seq ?_
    refine awp_region (by kernel_rfl) ?_
    iterate 2 (refine aL_S rfl rfl v_ ?_)
    refine aL_X rfl rfl (AOp_use rfl rfl (.inr ⟨rfl, rfl, rfl⟩) g_ va_ (known_c (by omega)) ?_); rintro _ _ ⟨rfl, rfl⟩
    refine aL_nil ?_
    refine awp_cond v_ (fun hc6 => ?_) (fun hc6 => ?_)
    · replace hc6 := nm_ hc6
      have h4 := hUk x hxm hc6
      have p1 := nth_get (p := partsS x.key) (k := 1) (by omega)
      have p2 := nth_get (p := partsS x.key) (k := 2) (by omega)
      have hbk : bkN x = some (pathS [nth (partsS x.key) 1, nth (partsS x.key) 2]) := by unfold bkN; rw [if_pos hc6]
      have hcov : (U.take (k + 1)).filterMap bkN = (U.take k).filterMap bkN ++ [pathS [nth (partsS x.key) 1, nth (partsS x.key) 2]] := by rw [hsn, hbk]; rfl
      have R := And.intro p1 p2
      refine awp_draw (.op 0 0 (.op 1 0 (.op 2 0 (.op 3 0 (.op 4 0 (.op 5 0 (.op 6 0 (.op 7 1 (.op 8 1 (.op 9 1 (.op 10 2 (.op 11 0 .nil)))))))))))) Tryz.mixed (by kernel_rfl) ?_
      iterate 7 (refine dR_S o_ (by rfl) (by rfl) v_ ?_)
      refine dR_X o_ (by rfl) (by rfl) (AOp_buildSlice' (by rfl) g_ g_ (by rfl) (by rfl) h_ c2_ (by decide) ⟨sub_, ?_⟩)
      refine dR_X o_ (by rfl) (by rfl) (AOp_use (by rfl) (by rfl) (.inr ⟨by rfl, by rfl, by rfl⟩) g_ va_ (path_c (l := [nth (partsS x.key) 1, nth (partsS x.key) 2]) (by simp) (by simp [Lb_length]; omega)) ?_); rintro _ _ ⟨rfl, rfl⟩; refine ⟨sub_, ?_⟩
      refine dR_X o_ (by rfl) (by rfl) (AOp_buildSlice' (by rfl) g_ g_ (by rfl) (by rfl) h_ c2_ (by decide) ⟨sub_, ?_⟩)
      refine dR_T o_ (by rfl) (by rfl) (AOp_appendC (by rfl) g_ g_ hC1 va_ (fun y hy => by obtain ⟨s, _, rfl⟩ := List.mem_map.1 hy; rfl) va_ c_ (by simp; omega) fun a' σ' hC3 => ?_)
      rw [show ((U.take k).filterMap bkN).map vStr ++ [vStr (pathS [nth (partsS x.key) 1, nth (partsS x.key) 2])] = ((U.take k).filterMap bkN ++ [pathS [nth (partsS x.key) 1, nth (partsS x.key) 2]]).map vStr from by simp] at hC3
      obtain ⟨τ2, hC5, hs2⟩ := cbp_drop hC3 n5
      (refine dR_S o_ (by rfl) (by rfl) v_ ?_)
      refine dR_nil ?_
      refine awp_region (by kernel_rfl) ?_
      iterate 2 (refine aL_S rfl rfl v_ ?_)
      refine aL_nil ?_
      refine aNext (ι := Store × AVal × Nat) (i := ⟨τ, g, k⟩) (τ2, a', k + 1) ?_ ?_ ?_ ?_
      · show U.length - (k + 1) < U.length - k; omega
      · exact ⟨by show k + 1 ≤ U.length; omega, by rw [hcov]; exact hC5⟩
      · exact cv_
      · exact hs2.wk
    · replace hc6 := nm_ hc6
      have hcov : (U.take (k + 1)).filterMap bkN = (U.take k).filterMap bkN := by rw [hsn]; unfold bkN; rw [if_neg (by simp [hc6])]; simp
      refine awp_skip ?_
      refine awp_region (by kernel_rfl) ?_
      iterate 2 (refine aL_S rfl rfl v_ ?_)
      refine aL_nil ?_
      refine aNext (ι := Store × AVal × Nat) (i := ⟨τ, g, k⟩) (τ, g, k + 1) ?_ ?_ ?_ ?_
      · show U.length - (k + 1) < U.length - k; omega
      · exact ⟨by show k + 1 ≤ U.length; omega, by rw [hcov]; exact hC⟩
      · exact cv_
      · exact sub_
  · replace hc3 := nm_ hc3
    refine awp_exit ?_
    refine aThen_exit ?_
    refine aThen_exit ?_
    refine aBlock_hit ?_
    refine awp_seq ?_
    obtain rfl : k = U.length := by omega
    rw [List.take_length] at hC
    have hle : (U.filterMap bkN).length ≤ U.length := List.length_filterMap_le ..
    refine awp_region (by kernel_rfl) ?_
    (refine aL_S rfl rfl v_ ?_)
    refine aL_X rfl rfl (AOp_use rfl rfl (.inr ⟨rfl, rfl, rfl⟩) g_ va_ (sortStrC hC (by omega)) ?_); rintro _ τ1 ⟨rfl, hC4⟩
    refine aL_nil ?_
    refine awp_seq ?_
    refine awp_region (by kernel_rfl) ?_
    (refine aL_S rfl rfl v_ ?_)
    refine aL_X rfl rfl (AOp_use rfl rfl (.inr ⟨rfl, rfl, rfl⟩) g_ va_ (compactStrC (ss := sortSS (U.filterMap bkN)) hC4 (by simp [sortSS]; omega) (by refine Nat.le_trans (compact_le _) (by simp))) ?_); rintro _ _ ⟨rfl, rfl⟩
    (refine aL_S rfl rfl v_ ?_)
    refine aL_nil ?_
    refine awp_ret ?_
    refine aEnd_ret v_ (Store.Wk.refl _) ?_
    exact ⟨by rw [hall], rfl⟩
def limW (l : List Ent) (s : ByteArray) : List Wn := wIf (decide ((tenS l s).bytes = 0) || decide ((tenS l s).queue = 0) || (decide ((tenS l s).rate = 0) && decide ((tenS l s).burst = 0))) 7 (pathS [bsTenant, s])
def checkS (l : List Ent) : List Wn := l.flatMap keyW ++ (List.range 16).flatMap (ownW l) ++ (bucketsS l).flatMap (bktW l) ++ (allS l).flatMap (limW l)
theorem wflat_le {α : Type} {f : α → List Wn} {n : Nat} (h : ∀ x, (f x).length ≤ n) : ∀ l : List α, (l.flatMap f).length ≤ n * l.length
  | [] => Nat.zero_le _
  | x :: l => by have := wflat_le h l; have := h x; rw [List.flatMap_cons, List.length_append, List.length_cons, Nat.mul_succ]; omega
theorem all_sz {l : List Ent} {s : ByteArray} (h : s ∈ allS l) : s.size ≤ 16 := by
  have := all_mem.1 h
  unfold tenOk at this
  simp only [Bool.and_eq_true] at this
  exact (name_size this.1).2
theorem bucket_sz {l : List Ent} {s : ByteArray} (hk : ∀ x ∈ l, x.key.size ≤ 1000) (h : s ∈ bucketsS l) : s.size ≤ 4000 := by
  unfold bucketsS at h
  rw [(onceN_rise _).2, List.mem_filterMap] at h
  obtain ⟨x, hx, hb⟩ := h
  have hxk := hk x (List.mem_filter.1 hx).1
  unfold bkN at hb
  split at hb
  · injection hb with hb
    rw [← hb]
    have h1 := nth_sz (s := x.key) 1
    have h2 := nth_sz (s := x.key) 2
    simp only [pathS, pathL, B_size, List.flatMap_cons, List.flatMap_nil, List.append_nil, List.length_append, List.length_cons, Lb_length]; omega
  · cases hb
set_option maxHeartbeats 4000000 in
theorem lchk_c {l : List Ent} {t : Bool} {σ : Store} (hl : l.length ≤ 1000) (hs : ∀ x ∈ l, EntSm x) (hks : ∀ x ∈ l, x.key.size ≤ 1000 ∧ x.value.size ≤ 400000) (hm : memsS l = []) : ACalls Tryz.prog 50 [.sl 4 (l.map sEnt) t] σ fun v σ' => v = .sl 2 ((checkS l).map sWn) false ∧ σ = σ' := by
  have hk4 : ∀ x ∈ l, x.key.size ≤ 400000 := fun x hx => by have := (hks x hx).1; omega
  have hk5 : ∀ x ∈ l, x.key.size ≤ 400000 ∧ x.value.size ≤ 400000 := fun x hx => by have := hks x hx; omega
  have hbl := buckets_len l
  have hal := all_len l
  have l1 := wfl_len (f := keyW) (fun x => wIf_len _ _ _) l
  have l2 : ((List.range 16).flatMap (ownW l)).length ≤ 16 := by have := wfl_len (f := ownW l) (fun x => wIf_len _ _ _) (List.range 16); rwa [List.length_range] at this
  obtain ⟨W2, hW2⟩ : ∃ W2, l.flatMap keyW ++ (List.range 16).flatMap (ownW l) = W2 := ⟨_, rfl⟩
  have w2 : W2.length ≤ 2000 := by rw [← hW2, List.length_append]; omega
  have hfin : checkS l = W2 ++ (bucketsS l).flatMap (bktW l) ++ (allS l).flatMap (limW l) := by rw [← hW2]; rfl
  have hbz : ∀ s ∈ bucketsS l, s.size ≤ 4000 := fun s hs => bucket_sz (fun x hx => (hks x hx).1) hs
  have haz : ∀ s ∈ allS l, s.size ≤ 16 := fun s hs => all_sz hs
  have hatl : ∀ s ∈ allS l, tenOk l s = true := fun s hs => all_mem.1 hs
  obtain ⟨bs, hbs⟩ : ∃ bs, bucketsS l = bs := ⟨_, rfl⟩
  obtain ⟨ts, has⟩ : ∃ ts, allS l = ts := ⟨_, rfl⟩
  rw [hbs] at hbl hbz hfin
  rw [has] at hal haz hatl hfin
  refine ACalls_of Tryz.func50 rfl Tryz.ntmps50 (congrArg Array.toList Tryz.results50) (by simp only [List.length_cons, List.length_nil]; decide) ?_; simp only [envOf_cons, envOf_nil, Nat.reduceAdd]
  refine awp_seq ?_
  refine awp_region (by kernel_rfl) ?_
  (refine aL_S rfl rfl v_ ?_)
  refine aL_nil ?_
  refine awp_seq ?_
  refine awp_region (by kernel_rfl) ?_
  iterate 2 (refine aL_S rfl rfl v_ ?_)
  refine aL_box rfl rfl rfl v_ rfl g_ fun o12 ho12 => ?_
  repeat (rw [none_set_iff] at ho12; obtain ⟨_, ho12⟩ := ho12)
  (refine aL_S rfl rfl v_ ?_)
  refine aL_nil ?_
  have hC0 : WC (σ.set o12 (.cells [.sl 4 (l.map sEnt) t, vNil])) o12 l t [] := ⟨_, none, Store.set_get .., .inr ⟨rfl, rfl, rfl⟩⟩
  refine awp_seq ?_
  refine awp_region (by kernel_rfl) ?_
  (refine aL_S rfl rfl v_ ?_)
  refine aL_X rfl rfl (AOp_use rfl rfl (.inr ⟨rfl, rfl, rfl⟩) g_ va_ (keys_c hC0 (by simp) (by omega) hk4) ?_); rintro _ τ1 ⟨rfl, hC1, hF1⟩
  refine aL_nil ?_
  refine awp_seq ?_
  refine awp_region (by kernel_rfl) ?_
  (refine aL_S rfl rfl v_ ?_)
  refine aL_X rfl rfl (AOp_use rfl rfl (.inr ⟨rfl, rfl, rfl⟩) g_ va_ (lparts_c hC1 (by rw [List.nil_append]; omega) hl hs hk5 hm) ?_); rintro _ τ2 ⟨rfl, hC2, hF2⟩
  refine aL_nil ?_
  skip
  rw [List.nil_append, hW2] at hC2
  have hF := hF1.trans hF2
  refine awp_seq ?_
  refine awp_seq ?_
  refine awp_region (by kernel_rfl) ?_
  (refine aL_S rfl rfl v_ ?_)
  refine aL_X rfl rfl (AOp_use rfl rfl (.inr ⟨rfl, rfl, rfl⟩) g_ va_ (buckets_c hl hs hk4) ?_); rintro _ _ ⟨rfl, rfl⟩
  rw [hbs]
  iterate 2 (refine aL_S rfl rfl v_ ?_)
  refine aL_nil ?_
  refine awp_block ?_
  refine awp_loop_env (ι := Store × Nat) (fun ⟨τ, k⟩ => bs.length - k) (fun ⟨τ, k⟩ => k ≤ bs.length ∧ WC τ o12 l t (W2 ++ (bs.take k).flatMap (bktW l)) ∧ WF o12 (σ.set o12 (.cells [.sl 4 (l.map sEnt) t, vNil])) τ) (fun ⟨τ, k⟩ => [(0, .sl 4 (l.map sEnt) t), (3, .ref o12 0), (18, .sl 1 (bs.map vStr) false), (19, vInt bs.length), (20, vInt k)]) (fun ⟨τ, k⟩ => τ) (τ2, 0) ?_ ?_ ?_ ?_
  · exact ⟨Nat.zero_le _, by simpa using hC2, hF⟩
  · exact cv_
  · exact Store.Wk.refl _
  rintro ⟨τ, k⟩ ⟨hk, hC, hG⟩
  simp only [envL_cons, envL_nil]
  refine awp_seq ?_
  refine awp_region (by kernel_rfl) ?_
  (refine aL_S rfl rfl v_ ?_)
  refine aL_nil ?_
  refine awp_seq ?_
  refine awp_cond v_ (fun hc5 => ?_) (fun hc5 => ?_)
  · replace hc5 := nm_ hc5
    refine awp_skip ?_
    refine awp_seq ?_
    refine awp_block ?_
    refine awp_seq ?_
    obtain ⟨x, hx⟩ := get_some (l := bs) (k := k) (by omega)
    have hxz := hbz x (List.mem_of_getElem? hx)
    have hle := wflat_le (f := bktW l) (bkt_len l) (bs.take k)
    rw [List.length_take] at hle
    have R := hx
    refine awp_region (by kernel_rfl) ?_
    iterate 3 (refine aL_S rfl rfl v_ ?_)
    refine aL_nil ?_
    refine awp_region (by kernel_rfl) ?_
    iterate 2 (refine aL_S rfl rfl v_ ?_)
    refine aL_X rfl rfl (AOp_use rfl rfl (.inr ⟨rfl, rfl, rfl⟩) g_ va_ (bucket_c hC (by rw [List.length_append]; omega) (by omega) hl hs hk5 hm) ?_); rintro _ τ3 ⟨rfl, hC3, hG3⟩
    refine aL_nil ?_
    refine awp_region (by kernel_rfl) ?_
    iterate 2 (refine aL_S rfl rfl v_ ?_)
    refine aL_nil ?_
    refine aNext (ι := Store × Nat) (i := ⟨τ, k⟩) (τ3, k + 1) ?_ ?_ ?_ ?_
    · show bs.length - (k + 1) < bs.length - k; omega
    · exact ⟨by show k + 1 ≤ bs.length; omega, by rw [fl_snoc hx, ← List.append_assoc]; exact hC3, hG.trans hG3⟩
    · exact cv_
    · exact Store.Wk.refl _
  · replace hc5 := nm_ hc5
    refine awp_exit ?_
    refine aThen_exit ?_
    refine aThen_exit ?_
    refine aBlock_hit ?_
    refine awp_seq ?_
    refine awp_seq ?_
    obtain rfl : k = bs.length := by omega
    rw [List.take_length] at hC
    have hle := wflat_le (f := bktW l) (bkt_len l) bs
    obtain ⟨W3, hW3⟩ : ∃ W3, W2 ++ bs.flatMap (bktW l) = W3 := ⟨_, rfl⟩
    have w3 : W3.length ≤ 10000 := by rw [← hW3, List.length_append]; omega
    rw [hW3] at hC hfin
    refine awp_region (by kernel_rfl) ?_
    (refine aL_S rfl rfl v_ ?_)
    refine aL_X rfl rfl (AOp_use rfl rfl (.inr ⟨rfl, rfl, rfl⟩) g_ va_ (all_c (by omega) hs hk4) ?_); rintro _ _ ⟨rfl, rfl⟩
    rw [has]
    iterate 2 (refine aL_S rfl rfl v_ ?_)
    refine aL_nil ?_
    refine awp_block ?_
    refine awp_loop_env (ι := Store × Nat) (fun ⟨υ, j⟩ => ts.length - j) (fun ⟨υ, j⟩ => j ≤ ts.length ∧ WC υ o12 l t (W3 ++ (ts.take j).flatMap (limW l)) ∧ WF o12 (σ.set o12 (.cells [.sl 4 (l.map sEnt) t, vNil])) υ) (fun ⟨υ, j⟩ => [(0, .sl 4 (l.map sEnt) t), (3, .ref o12 0), (29, .sl 1 (ts.map vStr) false), (30, vInt ts.length), (31, vInt j)]) (fun ⟨υ, j⟩ => υ) (τ, 0) ?_ ?_ ?_ ?_
    · exact ⟨Nat.zero_le _, by simpa using hC, hG⟩
    · exact cv_
    · exact Store.Wk.refl _
    rintro ⟨υ, j⟩ ⟨hj, hD, hH⟩
    simp only [envL_cons, envL_nil]
    refine awp_seq ?_
    refine awp_region (by kernel_rfl) ?_
    (refine aL_S rfl rfl v_ ?_)
    refine aL_nil ?_
    refine awp_seq ?_
    refine awp_cond v_ (fun hc10 => ?_) (fun hc10 => ?_)
    · replace hc10 := nm_ hc10
      refine awp_skip ?_
      refine awp_seq ?_
      refine awp_block ?_
      refine awp_seq ?_
      obtain ⟨y, hy⟩ := get_some (l := ts) (k := j) (by omega)
      have hyz := haz y (List.mem_of_getElem? hy)
      have hlj := wfl_len (f := limW l) (fun x => wIf_len _ _ _) (ts.take j)
      rw [List.length_take] at hlj
      have R := hy
      refine awp_region (by kernel_rfl) ?_
      iterate 3 (refine aL_S rfl rfl v_ ?_)
      refine aL_nil ?_
      refine awp_seq ?_
      refine awp_region (by kernel_rfl) ?_
      iterate 2 (refine aL_S rfl rfl v_ ?_)
      refine aL_X rfl rfl (AOp_use rfl rfl (.inr ⟨rfl, rfl, rfl⟩) g_ va_ (of_c (by omega) hs (by omega)) ?_); rintro _ _ ⟨rfl, rfl⟩
      iterate 3 (refine aL_S rfl rfl v_ ?_)
      refine aL_alloc rfl rfl rfl g_ gl_ fun o8 ho8 => ?_
      repeat (rw [none_set_iff] at ho8; obtain ⟨_, ho8⟩ := ho8)
      refine aL_store rfl rfl rfl v_ v_ h_ g_ rfl g_ c_ (by rfl) le_ v_ ?_
      (refine aL_S rfl rfl v_ ?_)
      refine aL_nil ?_
      skip
      have hne := wf_ne (σ := σ) hD ho8
      have hD1 := hD.set2 (x := .cells [.lit (.string ⟨#[]⟩), .lit (.string ⟨#[]⟩), vInt 0, vInt 0, vInt 0, vInt 0]) (y := .cells (sTen (tenS l y)).cells) ho8
      refine awp_draw (.op 0 0 (.op 1 0 (.op 2 0 (.op 3 0 (.op 4 0 (.op 5 0 (.op 6 0 (.op 7 0 (.op 8 0 (.op 9 0 (.op 10 0 (.op 11 0 (.op 12 0 (.op 13 0 (.op 14 0 (.op 15 0 (.op 16 0 (.op 17 0 (.op 18 0 (.op 19 0 (.op 20 1 (.op 21 1 (.op 22 2 .nil))))))))))))))))))))))) Tryz.mixed (by kernel_rfl) ?_
      iterate 5 (refine dR_S o_ (by rfl) (by rfl) v_ ?_)
      refine dR_GF o_ (by rfl) (by rfl) v_ (by rfl) vg_ ?_
      refine dR_GF o_ (by rfl) (by rfl) v_ (by rfl) vg_ ?_
      refine dR_GF o_ (by rfl) (by rfl) v_ (by rfl) vg_ ?_
      iterate 2 (refine dR_S o_ (by rfl) (by rfl) v_ ?_)
      refine dR_GF o_ (by rfl) (by rfl) v_ (by rfl) vg_ ?_
      refine dR_GF o_ (by rfl) (by rfl) v_ (by rfl) vg_ ?_
      refine dR_GF o_ (by rfl) (by rfl) v_ (by rfl) vg_ ?_
      refine dR_GF o_ (by rfl) (by rfl) v_ (by rfl) vg_ ?_
      refine dR_GGT o_ (by rfl) (by rfl) v_ (by rfl) vg_ ?_
      refine dR_GGT o_ (by rfl) (by rfl) v_ (by rfl) vg_ ?_
      refine dR_GGT o_ (by rfl) (by rfl) v_ (by rfl) vg_ ?_
      refine dR_GF o_ (by rfl) (by rfl) v_ (by rfl) vg_ ?_
      iterate 2 (refine dR_S o_ (by rfl) (by rfl) v_ ?_)
      refine dR_X o_ (by rfl) (by rfl) (AOp_buildSlice' (by rfl) g_ g_ (by rfl) (by rfl) h_ c2_ (by decide) ⟨sub_, ?_⟩)
      refine dR_X o_ (by rfl) (by rfl) (AOp_use (by rfl) (by rfl) (.inr ⟨by rfl, by rfl, by rfl⟩) g_ va_ (path_c (l := [bsTenant, y]) (by simp) (by simp [Lb_length, show (Lb bsTenant).length = 6 from rfl]; omega)) ?_); rintro _ _ ⟨rfl, rfl⟩; refine ⟨sub_, ?_⟩
      refine dR_T o_ (by rfl) (by rfl) (AOp_use (by rfl) (by rfl) (.inr ⟨by rfl, by rfl, by rfl⟩) g_ va_ (warn_c hD1 (by rw [List.length_append]; omega)) ?_); rintro _ υ2 ⟨rfl, hD2, hH2⟩
      refine dR_nil ?_
      refine awp_region (by kernel_rfl) ?_
      iterate 2 (refine aL_S rfl rfl v_ ?_)
      refine aL_nil ?_
      refine aNext (ι := Store × Nat) (i := ⟨υ, j⟩) (υ2, j + 1) ?_ ?_ ?_ ?_
      · show ts.length - (j + 1) < ts.length - j; omega
      · exact ⟨by show j + 1 ≤ ts.length; omega, by rw [fl_snoc hy, ← List.append_assoc]; exact hD2, (hH.alloc2 ho8 hne).trans hH2⟩
      · exact cv_
      · exact Store.Wk.refl _
    · replace hc10 := nm_ hc10
      refine awp_exit ?_
      refine aThen_exit ?_
      refine aThen_exit ?_
      refine aBlock_hit ?_
      refine awp_seq ?_
      obtain rfl : j = ts.length := by omega
      rw [List.take_length, ← hfin] at hD
      obtain ⟨b1, old1, h11, h12⟩ := id hD
      have R := h11
      refine awp_region (by kernel_rfl) ?_
      iterate 5 (refine aL_S rfl rfl v_ ?_)
      refine aL_nil ?_
      refine awp_ret ?_
      exact aEnd_retW (v := .sl 2 ((checkS l).map sWn) false) (v' := b1) va_ (NilOwn.wk h12) (WF.sub ho12 hH (fun a t' sz m hh => by cases hh)).wk ⟨rfl, rfl⟩
theorem same56_c {a : List Wn} {t1 t2 : Bool} {σ : Store} (hl : a.length ≤ 1000000) : ACalls Tryz.prog 49 [.sl 2 (a.map sWn) t1, .sl 2 (a.map sWn) t2] σ fun v σ' => v = vB true ∧ σ = σ' := by
  refine ACalls_of Tryz.func49 rfl Tryz.ntmps49 (congrArg Array.toList Tryz.results49) (by simp only [List.length_cons, List.length_nil]; decide) ?_; simp only [envOf_cons, envOf_nil, Nat.reduceAdd]
  refine awp_seq ?_
  refine awp_region (by kernel_rfl) ?_
  (refine aL_S rfl rfl v_ ?_)
  refine aL_nil ?_
  refine awp_seq ?_
  refine awp_seq ?_
  refine awp_region (by kernel_rfl) ?_
  iterate 5 (refine aL_S rfl rfl v_ ?_)
  refine aL_nil ?_
  refine awp_cond v_ (fun hc1 => ?_) (fun hc1 => ?_)
  · replace hc1 := nm_ hc1
    simp at hc1
  · replace hc1 := nm_ hc1
    refine awp_skip ?_
    refine awp_seq ?_
    refine awp_seq ?_
    refine awp_region (by kernel_rfl) ?_
    (refine aL_S rfl rfl v_ ?_)
    refine aL_nil ?_
    refine awp_block ?_
    refine awp_loop_env (ι := Nat) (fun k => a.length - k) (fun k => k ≤ a.length) (fun k => [(0, .sl 2 (a.map sWn) t1), (1, .sl 2 (a.map sWn) t2), (5, vInt k)]) (fun k => σ) 0 ?_ ?_ ?_ ?_
    · exact Nat.zero_le _
    · exact cv_
    · exact sub_
    rintro k hk
    simp only [envL_cons, envL_nil]
    refine awp_seq ?_
    refine awp_seq ?_
    refine awp_region (by kernel_rfl) ?_
    iterate 5 (refine aL_S rfl rfl v_ ?_)
    refine aL_GT rfl rfl v_ rfl vg_ ?_
    refine aL_GT rfl rfl v_ rfl vg_ ?_
    refine aL_GT rfl rfl v_ rfl vg_ ?_
    refine aL_GT rfl rfl v_ rfl vg_ ?_
    (refine aL_S rfl rfl v_ ?_)
    refine aL_nil ?_
    refine awp_cond v_ (fun hc4 => ?_) (fun hc4 => ?_)
    · replace hc4 := nm_ hc4
      refine awp_skip ?_
      refine awp_seq ?_
      refine awp_block ?_
      refine awp_seq ?_
      obtain ⟨x, hx⟩ := get_some (l := a) (k := k) (by omega)
      have R := hx
      refine awp_draw (.op 0 0 (.op 1 0 (.op 2 0 (.op 3 0 (.op 4 0 (.op 5 0 (.op 6 0 (.op 7 0 (.op 8 0 .nil))))))))) Tryz.mixed (by kernel_rfl) ?_
      iterate 9 (refine dR_S o_ (by rfl) (by rfl) v_ ?_)
      refine dR_nil ?_
      refine awp_cond v_ (fun hc6 => ?_) (fun hc6 => ?_)
      · replace hc6 := nm_ hc6
        simp at hc6
      · replace hc6 := nm_ hc6
        refine awp_skip ?_
        refine awp_region (by kernel_rfl) ?_
        iterate 3 (refine aL_S rfl rfl v_ ?_)
        refine aL_nil ?_
        refine aNext (ι := Nat) (i := k) (k + 1) ?_ ?_ ?_ ?_
        · omega
        · exact (by omega)
        · exact cv_
        · exact sub_
    · replace hc4 := nm_ hc4
      refine awp_exit ?_
      refine aThen_exit ?_
      refine aThen_exit ?_
      refine aBlock_hit ?_
      refine awp_seq ?_
      refine awp_region (by kernel_rfl) ?_
      (refine aL_S rfl rfl v_ ?_)
      refine aL_nil ?_
      refine awp_ret ?_
      refine aEnd_ret (σ' := σ) v_ sub_ ?_
      exact ⟨rfl, rfl⟩
end Go.Proofs.YtbomkkjhafdhiaaGreatDoor
end

section
set_option linter.all false
set_option maxRecDepth 100000
namespace Go.Proofs.YtbomkkjhafdhiaaGreatDoor
open Go.Ab
/-! ### numbers below twenty, and what three entries come to -/
theorem itoa_20 {k : Nat} (h : k < 20) : Lib.itoa (k : Int) = if k < 10 then [UInt8.ofNat (48 + k)] else [49, UInt8.ofNat (48 + k % 10)] := by
  rw [Lib.itoa_nonneg]
  by_cases h1 : k < 10
  · rw [if_pos h1, dec_one h1]
  · rw [if_neg h1, dec_more h1, dec_one (by omega), show k / 10 = 1 from by omega]; rfl
def ringT (k : Nat) : ByteArray := pathS [bsRing, B (if k < 10 then [UInt8.ofNat (48 + k)] else [49, UInt8.ofNat (48 + k % 10)])]
theorem ringK_T {k : Nat} (h : k < 20) : ringK k = ringT k := by rw [ringK, itoa_20 h]; rfl
def ownKT (l : List Ent) (k : Nat) : ByteArray := if nameOk (getS l (ringT k)).value = true then (getS l (ringT k)).value else ⟨#[]⟩
theorem ownK_T {l : List Ent} {k : Nat} (h : k < 20) : ownK l k = ownKT l k := by rw [ownK, ringK_T h]; rfl
def ownWT (l : List Ent) (k : Nat) : List Wn := wIf (decide (¬ (ownKT l k).size = 0) && !hasT (nmsS l) (ownKT l k)) 1 (ringT k)
theorem ownW_T {l : List Ent} {k : Nat} (h : k < 20) : ownW l k = ownWT l k := by rw [ownW, ownK_T h, ringK_T h]; rfl
abbrev wP : Ent := ⟨⟨#[112, 114, 111, 112, 47, 116, 47, 98, 47, 110]⟩, 1, ⟨#[]⟩, ⟨#[50]⟩⟩
abbrev wR : Ent := ⟨⟨#[114, 105, 110, 103, 47, 51]⟩, 1, ⟨#[]⟩, ⟨#[97]⟩⟩
abbrev wX : Ent := ⟨⟨#[120]⟩, 1, ⟨#[]⟩, ⟨#[]⟩⟩
abbrev wL : List Ent := [wP, wR, wX]
abbrev kTB : ByteArray := ⟨#[112, 114, 111, 112, 47, 116, 47, 98]⟩
abbrev tB : ByteArray := ⟨#[98]⟩
abbrev tTB : ByteArray := ⟨#[116, 47, 98]⟩
theorem w_mems : memsS wL = [] := by kernel_rfl
theorem itoa_2 : Lib.itoa 2 = [50] := by rw [show (2 : Int) = ((2 : Nat) : Int) from rfl, Lib.itoa_nonneg, dec_one (by decide)]; rfl
theorem num_2 : numS ⟨#[50]⟩ = some 2 := numS_some.2 ⟨by rw [itoa_2]; rfl, by decide, by decide⟩
theorem kn_P : knownS wP.key = true := by kernel_rfl
theorem kn_R : knownS wR.key = true := by
  unfold knownS knownP
  rw [show partsS wR.key = [bsRing, ⟨#[51]⟩] from by kernel_rfl]
  unfold knP in16 lastS
  rw [show ([bsRing, ⟨#[51]⟩] : List ByteArray)[([bsRing, ⟨#[51]⟩] : List ByteArray).length - 1]?.getD ⟨#[]⟩ = ⟨#[51]⟩ from rfl, num_3]
  kernel_rfl
theorem kn_X : knownS wX.key = false := by kernel_rfl
theorem w_keys : wL.flatMap keyW = [⟨8, ⟨#[120]⟩⟩] := by
  have h1 : keyW wP = [] := by unfold keyW; rw [kn_P]; rfl
  have h2 : keyW wR = [] := by unfold keyW; rw [kn_R]; rfl
  have h3 : keyW wX = [⟨8, ⟨#[120]⟩⟩] := by unfold keyW; rw [kn_X]; rfl
  rw [List.flatMap_cons, List.flatMap_cons, List.flatMap_cons, h1, h2, h3]; rfl
theorem w_own : (List.range 16).flatMap (ownW wL) = [⟨1, ⟨#[114, 105, 110, 103, 47, 51]⟩⟩] := by
  have h : (List.range 16).flatMap (ownW wL) = (List.range 16).flatMap (ownWT wL) := by
    rw [List.flatMap_def, List.flatMap_def]
    congr 1
    exact List.map_congr_left fun k hk => ownW_T (by have := List.mem_range.1 hk; omega)
  exact h.trans (by kernel_rfl)
theorem w_bk : bucketsS wL = [tTB] := by
  unfold bucketsS
  rw [← ins_once]
  kernel_rfl
theorem w_cut : cutS tTB = (tT, tB, true) := by kernel_rfl
theorem w_prp : prpS wL tT tB = ⟨2, 2, 2, 0, 0, true, true, false⟩ := by
  have g1 : (getS wL (prpK tT tB fdN)).value = ⟨#[50]⟩ := by kernel_rfl
  have g2 : (getS wL (prpK tT tB fdR)).value = ⟨#[]⟩ := by kernel_rfl
  have g3 : (getS wL (prpK tT tB fdW)).value = ⟨#[]⟩ := by kernel_rfl
  have g4 : (getS wL (prpK tT tB fdPr)).value = ⟨#[]⟩ := by kernel_rfl
  have g5 : (getS wL (prpK tT tB fdPw)).value = ⟨#[]⟩ := by kernel_rfl
  have g6 : (getS wL (prpK tT tB fdSev)).value = ⟨#[]⟩ := by kernel_rfl
  have g7 : (getS wL (prpK tT tB fdMis)).value = ⟨#[]⟩ := by kernel_rfl
  have g8 : (getS wL (prpK tT tB fdBas)).value = ⟨#[]⟩ := by kernel_rfl
  unfold prpS minF fldS
  rw [g1, g2, g3, g4, g5, g6, g7, g8, num_2, num_e]
  rfl
theorem w_alw : alwS wL tTB = false := by kernel_rfl
theorem w_bkt : bktW wL tTB = [⟨3, kTB⟩, ⟨6, kTB⟩] := by
  unfold bktW
  rw [w_cut, w_prp, w_alw, w_mems]
  kernel_rfl
theorem w_all : allS wL = [] := by
  rw [← anR_eq]
  kernel_rfl
theorem w_check : checkS wL = [⟨8, ⟨#[120]⟩⟩, ⟨1, ⟨#[114, 105, 110, 103, 47, 51]⟩⟩, ⟨3, kTB⟩, ⟨6, kTB⟩] := by
  unfold checkS
  rw [w_keys, w_own, w_bk, w_all, List.flatMap_cons, List.flatMap_nil, List.flatMap_nil, w_bkt]
  rfl
theorem wL_sm : ∀ x ∈ wL, EntSm x ∧ (x.key.size ≤ 1000 ∧ x.value.size ≤ 400000) := fun x hx => by
  rcases List.mem_cons.1 hx with rfl | hx
  · exact ⟨⟨by decide, by decide, by decide⟩, by decide, by decide⟩
  · rcases List.mem_cons.1 hx with rfl | hx
    · exact ⟨⟨by decide, by decide, by decide⟩, by decide, by decide⟩
    · rw [List.mem_singleton.1 hx]; exact ⟨⟨by decide, by decide, by decide⟩, by decide, by decide⟩
theorem kn_4 : knownS ⟨#[97, 99, 108, 47, 116, 47, 98, 47, 117]⟩ = true := by kernel_rfl
theorem kn_3 : knownS ⟨#[97, 99, 108, 47, 116, 47, 98]⟩ = false := by kernel_rfl
theorem awake56_c {σ : Store} : ACalls Tryz.prog 23 [] σ fun v σ' => v = vB true ∧ σ = σ' := by
  refine ACalls_of Tryz.func23 rfl Tryz.ntmps23 (congrArg Array.toList Tryz.results23) (by simp only [List.length_cons, List.length_nil]; decide) ?_; simp only [envOf_cons, envOf_nil, Nat.reduceAdd]
  refine awp_seq ?_
  refine awp_region (by kernel_rfl) ?_
  (refine aL_S rfl rfl v_ ?_)
  refine aL_nil ?_
  refine awp_seq ?_
  refine awp_region (by kernel_rfl) ?_
  iterate 6 (refine aL_S rfl rfl v_ ?_)
  refine aL_buildSlice rfl rfl rfl g_ g_ rfl rfl h_ c2_ (by decide) ?_
  (refine aL_S rfl rfl v_ ?_)
  refine aL_nil ?_
  refine awp_seq ?_
  refine awp_region (by kernel_rfl) ?_
  (refine aL_S rfl rfl v_ ?_)
  refine aL_X rfl rfl (AOp_use rfl rfl (.inr ⟨rfl, rfl, rfl⟩) g_ va_ (lchk_c (l := wL) (t := true) (by decide) (fun x hx => (wL_sm x hx).1) (fun x hx => (wL_sm x hx).2) w_mems) ?_); rintro _ _ ⟨rfl, rfl⟩
  rw [w_check]
  iterate 4 (refine aL_S rfl rfl v_ ?_)
  refine aL_buildSlice rfl rfl rfl g_ g_ rfl rfl h_ c2_ (by decide) ?_
  refine aL_X rfl rfl (AOp_use rfl rfl (.inr ⟨rfl, rfl, rfl⟩) g_ va_ (same56_c (a := [⟨8, ⟨#[120]⟩⟩, ⟨1, ⟨#[114, 105, 110, 103, 47, 51]⟩⟩, ⟨3, kTB⟩, ⟨6, kTB⟩]) (by decide)) ?_); rintro _ _ ⟨rfl, rfl⟩
  (refine aL_S rfl rfl v_ ?_)
  refine aL_XY (wantedA_yes rfl rfl v_ (by rfl)) rfl (AOp_use rfl rfl (.inr ⟨rfl, rfl, rfl⟩) g_ va_ (known_c (by decide)) ?_); rintro _ _ ⟨rfl, rfl⟩
  rw [kn_4]
  iterate 2 (refine aL_S rfl rfl v_ ?_)
  refine aL_XY (wantedA_yes rfl rfl v_ (by rfl)) rfl (AOp_use rfl rfl (.inr ⟨rfl, rfl, rfl⟩) g_ va_ (known_c (by decide)) ?_); rintro _ _ ⟨rfl, rfl⟩
  rw [kn_3]
  refine aL_SY (wantedA_yes rfl rfl v_ (by rfl)) rfl v_ ?_
  iterate 2 (refine aL_S rfl rfl v_ ?_)
  refine aL_SY (wantedA_yes rfl rfl v_ (by rfl)) rfl v_ ?_
  refine aL_XY (wantedA_yes rfl rfl v_ (by rfl)) rfl (AOp_use rfl rfl (.inr ⟨rfl, rfl, rfl⟩) g_ va_ (buckets_c (l := wL) (t := true) (by decide) (fun x hx => (wL_sm x hx).1) (fun x hx => Nat.le_trans (wL_sm x hx).2.1 (by decide))) ?_); rintro _ _ ⟨rfl, rfl⟩
  rw [w_bk]
  refine aL_XY (wantedA_yes rfl rfl v_ (by rfl)) rfl (AOp_buildSlice' rfl g_ g_ rfl rfl h_ c2_ (by decide) ?_)
  refine aL_XY (wantedA_yes rfl rfl v_ (by rfl)) rfl (AOp_use rfl rfl (.inr ⟨rfl, rfl, rfl⟩) g_ va_ (sameTexts_c (a := [tTB]) (by decide)) ?_); rintro _ _ ⟨rfl, rfl⟩
  iterate 2 (refine aL_S rfl rfl v_ ?_)
  refine aL_nil ?_
  refine awp_ret ?_
  refine aEnd_ret (σ' := σ) v_ sub_ ?_
  exact ⟨rfl, rfl⟩
theorem nodeL (s : ByteArray) : (⟨#[110, 111, 100, 101, 47]⟩ : ByteArray) ++ s = bsNode ++ sl47 ++ s := by
  apply Lb_inj
  rw [Lb_append, Lb_append, Lb_append]; rfl
theorem aclL (s : ByteArray) : ((((⟨#[97, 99, 108, 47]⟩ : ByteArray) ++ s) ++ sl47) ++ s) ++ sl47 ++ s = bsAcl ++ sl47 ++ (s ++ sl47 ++ (s ++ sl47 ++ s)) := by
  apply Lb_inj
  simp only [Lb_append, show Lb (⟨#[97, 99, 108, 47]⟩ : ByteArray) = Lb bsAcl ++ Lb sl47 from rfl, List.append_assoc]
theorem lintKeys_c {key name : ByteArray} {σ : Store} : ACalls Tryz.prog 6 [vStr key, vStr name] σ fun v σ' => v = vB true ∧ σ = σ' := by
  have s47 : sl47.size = 1 := rfl
  refine ACalls_of Tryz.func6 rfl Tryz.ntmps6 (congrArg Array.toList Tryz.results6) (by simp only [List.length_cons, List.length_nil]; decide) ?_; simp only [envOf_cons, envOf_nil, Nat.reduceAdd]
  refine awp_seq ?_
  refine awp_region (by kernel_rfl) ?_
  (refine aL_S rfl rfl v_ ?_)
  refine aL_nil ?_
  refine awp_seq ?_
  refine awp_seq ?_
  refine awp_region (by kernel_rfl) ?_
  iterate 4 (refine aL_S rfl rfl v_ ?_)
  refine aL_GF rfl rfl v_ rfl vg_ ?_
  refine aL_GF rfl rfl v_ rfl vg_ ?_
  refine aL_GF rfl rfl v_ rfl vg_ ?_
  (refine aL_S rfl rfl v_ ?_)
  refine aL_nil ?_
  refine awp_cond v_ (fun hc1 => ?_) (fun hc1 => ?_)
  · replace hc1 := nm_ hc1
    refine awp_seq ?_
    refine awp_region (by kernel_rfl) ?_
    refine aL_X rfl rfl (AOp_use rfl rfl (.inr ⟨rfl, rfl, rfl⟩) g_ va_ (awake56_c) ?_); rintro _ _ ⟨rfl, rfl⟩
    (refine aL_S rfl rfl v_ ?_)
    refine aL_nil ?_
    refine awp_ret ?_
    refine aEnd_ret (σ' := σ) v_ sub_ ?_
    exact ⟨rfl, rfl⟩
  · replace hc1 := nm_ hc1
    refine awp_skip ?_
    refine awp_seq ?_
    refine awp_seq ?_
    have k0 : key.size ≤ 200 := by omega
    have n0 : name.size ≤ 100 := by omega
    have z1 : (⟨#[110, 111, 100, 101, 47]⟩ : ByteArray).size = 5 := rfl
    have z2 : (⟨#[97, 99, 108, 47]⟩ : ByteArray).size = 4 := rfl
    have e1 := astr_add' key sl47 (by omega)
    have e2 := astr_add' sl47 key (by omega)
    have e3 := astr_add' (key ++ sl47) key (by rw [ByteArray.size_append]; omega)
    have f1 := astr_add' (⟨#[110, 111, 100, 101, 47]⟩ : ByteArray) name (by omega)
    have f2 := astr_add' (⟨#[97, 99, 108, 47]⟩ : ByteArray) name (by omega)
    have f3 := astr_add' ((⟨#[97, 99, 108, 47]⟩ : ByteArray) ++ name) sl47 (by rw [ByteArray.size_append]; omega)
    have f4 := astr_add' (((⟨#[97, 99, 108, 47]⟩ : ByteArray) ++ name) ++ sl47) name (by rw [ByteArray.size_append, ByteArray.size_append]; omega)
    have f5 := astr_add' ((((⟨#[97, 99, 108, 47]⟩ : ByteArray) ++ name) ++ sl47) ++ name) sl47 (by rw [ByteArray.size_append, ByteArray.size_append, ByteArray.size_append]; omega)
    have f6 := astr_add' (((((⟨#[97, 99, 108, 47]⟩ : ByteArray) ++ name) ++ sl47) ++ name) ++ sl47) name (by rw [ByteArray.size_append, ByteArray.size_append, ByteArray.size_append, ByteArray.size_append]; omega)
    rw [nodeL] at f1
    rw [aclL] at f6
    have kn := known_node name
    have ka := known_acl name
    refine awp_region (by kernel_rfl) ?_
    (refine aL_S rfl rfl v_ ?_)
    refine aL_X rfl rfl (AOp_use rfl rfl (.inr ⟨rfl, rfl, rfl⟩) g_ va_ (known_c (by omega)) ?_); rintro _ _ ⟨rfl, rfl⟩
    refine aL_nil ?_
    refine awp_cond v_ (fun hc3 => ?_) (fun hc3 => ?_)
    · replace hc3 := nm_ hc3
      refine awp_seq ?_
      obtain ⟨q1, q2, q3⟩ := known_end hc3
      have q4 := known_len (p := partsS key) hc3
      refine awp_region (by kernel_rfl) ?_
      (refine aL_S rfl rfl v_ ?_)
      refine aL_X rfl rfl (AOp_use rfl rfl (.inr ⟨rfl, rfl, rfl⟩) g_ va_ (rParts_c (by omega)) ?_); rintro _ _ ⟨rfl, rfl⟩
      iterate 2 (refine aL_S rfl rfl v_ ?_)
      refine aL_nil ?_
      refine awp_seq ?_
      have R := And.intro e1 (And.intro e2 e3)
      refine awp_region (by kernel_rfl) ?_
      iterate 3 (refine aL_S rfl rfl v_ ?_)
      refine aL_GF rfl rfl v_ rfl vg_ ?_
      refine aL_GF rfl rfl v_ rfl vg_ ?_
      iterate 2 (refine aL_S rfl rfl v_ ?_)
      refine aL_GF rfl rfl v_ rfl vg_ ?_
      refine aL_GF rfl rfl v_ rfl vg_ ?_
      refine aL_GFX rfl rfl v_ rfl (fun hb => AOp_useV (by rfl) (by rfl) (.inr ⟨by rfl, by rfl, by rfl⟩) g_ cg_ (known_c (k := key ++ sl47) (by rw [ByteArray.size_append]; omega))) ?_
      iterate 2 (refine aL_S rfl rfl v_ ?_)
      refine aL_GF rfl rfl v_ rfl vg_ ?_
      refine aL_GF rfl rfl v_ rfl vg_ ?_
      refine aL_GFX rfl rfl v_ rfl (fun hb => AOp_useV (by rfl) (by rfl) (.inr ⟨by rfl, by rfl, by rfl⟩) g_ cg_ (known_c (k := sl47 ++ key) (by rw [ByteArray.size_append]; omega))) ?_
      iterate 2 (refine aL_S rfl rfl v_ ?_)
      refine aL_GF rfl rfl v_ rfl vg_ ?_
      refine aL_GF rfl rfl v_ rfl vg_ ?_
      refine aL_GF rfl rfl v_ rfl vg_ ?_
      refine aL_GF rfl rfl v_ rfl vg_ ?_
      refine aL_GFX rfl rfl v_ rfl (fun hb => AOp_useV (by rfl) (by rfl) (.inr ⟨by rfl, by rfl, by rfl⟩) g_ cg_ (known_c (k := key ++ sl47 ++ key) (by rw [ByteArray.size_append, ByteArray.size_append]; omega))) ?_
      (refine aL_S rfl rfl v_ ?_)
      refine aL_nil ?_
      refine awp_cond v_ (fun hc5 => ?_) (fun hc5 => ?_)
      · replace hc5 := nm_ hc5
        simp [q1, q2, q3] at hc5; omega
      · replace hc5 := nm_ hc5
        refine awp_skip ?_
        refine awp_seq ?_
        have R := And.intro f1 (And.intro f2 (And.intro f3 (And.intro f4 (And.intro f5 f6))))
        refine awp_region (by kernel_rfl) ?_
        iterate 2 (refine aL_S rfl rfl v_ ?_)
        refine aL_X rfl rfl (AOp_use rfl rfl (.inr ⟨rfl, rfl, rfl⟩) g_ va_ (known_c (k := bsNode ++ sl47 ++ name) (by rw [ByteArray.size_append, ByteArray.size_append, show bsNode.size = 4 from rfl]; omega)) ?_); rintro _ _ ⟨rfl, rfl⟩
        rw [kn]
        (refine aL_S rfl rfl v_ ?_)
        refine aL_X rfl rfl (AOp_use rfl rfl (.inr ⟨rfl, rfl, rfl⟩) g_ va_ (rIs_c (by omega)) ?_); rintro _ _ ⟨rfl, rfl⟩
        iterate 2 (refine aL_S rfl rfl v_ ?_)
        refine aL_GT rfl rfl v_ rfl vg_ ?_
        refine aL_GT rfl rfl v_ rfl vg_ ?_
        refine aL_GT rfl rfl v_ rfl vg_ ?_
        refine aL_GT rfl rfl v_ rfl vg_ ?_
        refine aL_GT rfl rfl v_ rfl vg_ ?_
        refine aL_GT rfl rfl v_ rfl vg_ ?_
        refine aL_GT rfl rfl v_ rfl vg_ ?_
        refine aL_GT rfl rfl v_ rfl vg_ ?_
        refine aL_GTX rfl rfl v_ rfl (fun hb => AOp_useV (by rfl) (by rfl) (.inr ⟨by rfl, by rfl, by rfl⟩) g_ cg_ (known_c (k := bsAcl ++ sl47 ++ (name ++ sl47 ++ (name ++ sl47 ++ name))) (by simp only [ByteArray.size_append, show bsAcl.size = 3 from rfl]; omega))) ?_
        refine aL_GT rfl rfl v_ rfl vg_ ?_
        refine aL_GTX rfl rfl v_ rfl (fun hb => AOp_useV (by rfl) (by rfl) (.inr ⟨by rfl, by rfl, by rfl⟩) g_ cg_ (rIs_c (by omega))) ?_
        refine aL_GT rfl rfl v_ rfl vg_ ?_
        iterate 2 (refine aL_S rfl rfl v_ ?_)
        refine aL_GTX rfl rfl v_ rfl (fun hb => AOp_useV (by rfl) (by rfl) (.inr ⟨by rfl, by rfl, by rfl⟩) g_ cg_ (awake56_c)) ?_
        iterate 2 (refine aL_S rfl rfl v_ ?_)
        refine aL_nil ?_
        refine awp_ret ?_
        refine aEnd_ret (σ' := σ) v_ sub_ ?_
        exact ⟨by rw [ka, beq_self_eq_true], rfl⟩
    · replace hc3 := nm_ hc3
      refine awp_skip ?_
      refine awp_seq ?_
      have R := And.intro f1 (And.intro f2 (And.intro f3 (And.intro f4 (And.intro f5 f6))))
      refine awp_region (by kernel_rfl) ?_
      iterate 2 (refine aL_S rfl rfl v_ ?_)
      refine aL_X rfl rfl (AOp_use rfl rfl (.inr ⟨rfl, rfl, rfl⟩) g_ va_ (known_c (k := bsNode ++ sl47 ++ name) (by rw [ByteArray.size_append, ByteArray.size_append, show bsNode.size = 4 from rfl]; omega)) ?_); rintro _ _ ⟨rfl, rfl⟩
      rw [kn]
      (refine aL_S rfl rfl v_ ?_)
      refine aL_X rfl rfl (AOp_use rfl rfl (.inr ⟨rfl, rfl, rfl⟩) g_ va_ (rIs_c (by omega)) ?_); rintro _ _ ⟨rfl, rfl⟩
      iterate 2 (refine aL_S rfl rfl v_ ?_)
      refine aL_GT rfl rfl v_ rfl vg_ ?_
      refine aL_GT rfl rfl v_ rfl vg_ ?_
      refine aL_GT rfl rfl v_ rfl vg_ ?_
      refine aL_GT rfl rfl v_ rfl vg_ ?_
      refine aL_GT rfl rfl v_ rfl vg_ ?_
      refine aL_GT rfl rfl v_ rfl vg_ ?_
      refine aL_GT rfl rfl v_ rfl vg_ ?_
      refine aL_GT rfl rfl v_ rfl vg_ ?_
      refine aL_GTX rfl rfl v_ rfl (fun hb => AOp_useV (by rfl) (by rfl) (.inr ⟨by rfl, by rfl, by rfl⟩) g_ cg_ (known_c (k := bsAcl ++ sl47 ++ (name ++ sl47 ++ (name ++ sl47 ++ name))) (by simp only [ByteArray.size_append, show bsAcl.size = 3 from rfl]; omega))) ?_
      refine aL_GT rfl rfl v_ rfl vg_ ?_
      refine aL_GTX rfl rfl v_ rfl (fun hb => AOp_useV (by rfl) (by rfl) (.inr ⟨by rfl, by rfl, by rfl⟩) g_ cg_ (rIs_c (by omega))) ?_
      refine aL_GT rfl rfl v_ rfl vg_ ?_
      iterate 2 (refine aL_S rfl rfl v_ ?_)
      refine aL_GTX rfl rfl v_ rfl (fun hb => AOp_useV (by rfl) (by rfl) (.inr ⟨by rfl, by rfl, by rfl⟩) g_ cg_ (awake56_c)) ?_
      iterate 2 (refine aL_S rfl rfl v_ ?_)
      refine aL_nil ?_
      refine awp_ret ?_
      refine aEnd_ret (σ' := σ) v_ sub_ ?_
      exact ⟨by rw [ka, beq_self_eq_true], rfl⟩
end Go.Proofs.YtbomkkjhafdhiaaGreatDoor
end
