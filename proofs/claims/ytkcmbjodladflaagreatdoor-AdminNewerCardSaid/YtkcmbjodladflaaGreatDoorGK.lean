/-
  Entries sorted by their keys, and joined one behind the other; versions held against each other: the program; Entries of partitions, entries joined one behind the other: the program; The entries of a cluster at first, without more: the program; Entries joined with others: the document's way; What must come of administrators, whatever the arguments are; What must come of administrators, whatever the arguments are: the walk; What was set is newer, and may be put: plainly; What an administrator sets may be put, all of it: plainly; The reference's Is, of any string that a call may bring; Few of an administrator's ask, what is new among entries: the program; AdminNewer: the walk; An administrator's ask, as it comes in. Own work (an AI agent).
-/
import Derived.Test.YtkcmbjodladflaaGreatDoorGF
import Derived.Test.YtkcmbjodladflaaGreatDoorGI
import Derived.Test.YtkcmbjodladflaaGreatDoorGE
import Derived.Test.YtkcmbjodladflaaGreatDoorGG
import Derived.Test.YtkcmbjodladflaaGreatDoorGD
import Derived.Lib.Bytealg
import Derived.Shelf.Small.Strs
import Derived.WalkKit
import Derived.Shelf.SlSortCmp.NoneTotal
import Derived.Test.YtkcmbjodladflaaGreatDoorGJ
import Derived.Test.YtkcmbjodladflaaGreatDoorGH

section
set_option linter.all false
set_option maxRecDepth 100000
namespace Go.Proofs
open Go.Shelf
def sortF_ren : Go.Shelf.Ren := ⟨(fun n => match n with | 6 => 55 | 14 => 114 | 15 => 115 | 20 => 158 | 21 => 159 | 22 => 160 | 23 => 161 | 24 => 162 | 25 => 163 | 26 => 164 | 27 => 165 | 28 => 166 | 29 => 167 | 46 => 197 | 47 => 198 | 48 => 199 | 49 => 200 | 50 => 201 | 57 => 227 | _ => 0), (fun n => match n with | 0 => 0 | 3 => 3 | 4 => 4 | 5 => 5 | 9 => 9 | 22 => 22 | 24 => 45 | 25 => 86 | 39 => 139 | 45 => 178 | 46 => 179 | 50 => 98 | 53 => 185 | 55 => 187 | 66 => 213 | 70 => 217 | 76 => 238 | 77 => 122 | _ => 0), (fun n => match n with  | _ => 0)⟩
theorem sortF : SlLaysF0.n6 Tryz.prog sortF_ren := {
  mixed := Tryz.mixed
  f6 := ⟨ "slices.SortFunc[[]pantler/api.Entry,pantler/api.Entry]", by decide, by kernel_rfl⟩
  f14 := ⟨ "slices.pdqsortCmpFunc[pantler/api.Entry]", by decide, by kernel_rfl⟩
  f15 := by kernel_rfl
  f20 := ⟨ "slices.insertionSortCmpFunc[pantler/api.Entry]", by decide, by kernel_rfl⟩
  f21 := ⟨ "slices.heapSortCmpFunc[pantler/api.Entry]", by decide, by kernel_rfl⟩
  f22 := ⟨ "slices.breakPatternsCmpFunc[pantler/api.Entry]", by decide, by kernel_rfl⟩
  f23 := ⟨ "slices.choosePivotCmpFunc[pantler/api.Entry]", by decide, by kernel_rfl⟩
  f24 := ⟨ "slices.reverseRangeCmpFunc[pantler/api.Entry]", by decide, by kernel_rfl⟩
  f25 := ⟨ "slices.partialInsertionSortCmpFunc[pantler/api.Entry]", by decide, by kernel_rfl⟩
  f26 := ⟨ "slices.partitionEqualCmpFunc[pantler/api.Entry]", by decide, by kernel_rfl⟩
  f27 := ⟨ "slices.partitionCmpFunc[pantler/api.Entry]", by decide, by kernel_rfl⟩
  f28 := by kernel_rfl
  f29 := by kernel_rfl
  f46 := ⟨ "slices.siftDownCmpFunc[pantler/api.Entry]", by decide, by kernel_rfl⟩
  f47 := by kernel_rfl
  f48 := by kernel_rfl
  f49 := ⟨ "slices.medianAdjacentCmpFunc[pantler/api.Entry]", by decide, by kernel_rfl⟩
  f50 := ⟨ "slices.medianCmpFunc[pantler/api.Entry]", by decide, by kernel_rfl⟩
  f57 := ⟨ "slices.order2CmpFunc[pantler/api.Entry]", by decide, by kernel_rfl⟩
  t0 := Tryz.underlying0
  a0 := Tryz.isAgg0
  z0 := Tryz.sizeOf0
  v0 := Tryz.zeroValue0
  t3 := Tryz.underlying3
  a3 := Tryz.isAgg3
  z3 := Tryz.sizeOf3
  v3 := Tryz.zeroValue3
  t4 := Tryz.underlying4
  a4 := Tryz.isAgg4
  z4 := Tryz.sizeOf4
  v4 := Tryz.zeroValue4
  t5 := Tryz.underlying5
  a5 := Tryz.isAgg5
  z5 := Tryz.sizeOf5
  v5 := Tryz.zeroValue5
  t9 := Tryz.underlying9
  a9 := Tryz.isAgg9
  z9 := Tryz.sizeOf9
  v9 := Tryz.zeroValue9
  t22 := Tryz.underlying22
  a22 := Tryz.isAgg22
  z22 := Tryz.sizeOf22
  v22 := Tryz.zeroValue22
  t25 := Tryz.underlying86
  a25 := Tryz.isAgg86
  z25 := Tryz.sizeOf86
  v25 := Tryz.zeroValue86
  t39 := Tryz.underlying139
  a39 := Tryz.isAgg139
  z39 := Tryz.sizeOf139
  v39 := Tryz.zeroValue139
  t45 := Tryz.underlying178
  a45 := Tryz.isAgg178
  z45 := Tryz.sizeOf178
  v45 := Tryz.zeroValue178
  t46 := Tryz.underlying179
  a46 := Tryz.isAgg179
  z46 := Tryz.sizeOf179
  v46 := Tryz.zeroValue179
  t50 := Tryz.underlying98
  a50 := Tryz.isAgg98
  z50 := Tryz.sizeOf98
  v50 := Tryz.zeroValue98
  t53 := Tryz.underlying185
  a53 := Tryz.isAgg185
  z53 := Tryz.sizeOf185
  v53 := Tryz.zeroValue185
  t55 := Tryz.underlying187
  a55 := Tryz.isAgg187
  z55 := Tryz.sizeOf187
  v55 := Tryz.zeroValue187
  t66 := Tryz.underlying213
  a66 := Tryz.isAgg213
  z66 := Tryz.sizeOf213
  v66 := Tryz.zeroValue213
  t70 := Tryz.underlying217
  a70 := Tryz.isAgg217
  z70 := Tryz.sizeOf217
  v70 := Tryz.zeroValue217
  t76 := Tryz.underlying238
  a76 := Tryz.isAgg238
  z76 := Tryz.sizeOf238
  v76 := Tryz.zeroValue238
  t77 := Tryz.underlying122
  a77 := Tryz.isAgg122
  z77 := Tryz.sizeOf122
  v77 := Tryz.zeroValue122 }

def strCmpL_ren : Go.Shelf.Ren := ⟨(fun n => match n with | 106 => 57 | 213 => 116 | 265 => 168 | _ => 0), (fun n => match n with | 3 => 3 | 9 => 9 | _ => 0), (fun n => match n with  | _ => 0)⟩
theorem strCmpL : Lays.n106 Tryz.prog strCmpL_ren := {
  mixed := Tryz.mixed
  f106 := by kernel_rfl
  f213 := by kernel_rfl
  f265 := by kernel_rfl
  t3 := Tryz.underlying3
  a3 := Tryz.isAgg3
  z3 := Tryz.sizeOf3
  v3 := Tryz.zeroValue3
  t9 := Tryz.underlying9
  a9 := Tryz.isAgg9
  z9 := Tryz.sizeOf9
  v9 := Tryz.zeroValue9 }

end Go.Proofs
namespace Go.Proofs.YtkcmbjodladflaaGreatDoor
open Go.Ab Go.Shelf Go.Sort
theorem cmpB_eq : ∀ (l m : List UInt8), Lib.compareBytes l m = if Op.bytesLess l m then -1 else if l = m then 0 else 1
  | [], [] => rfl
  | [], _ :: _ => rfl
  | _ :: _, [] => rfl
  | a :: l, b :: m => by
    rw [Lib.compareBytes, Op.bytesLess, cmpB_eq l m]
    by_cases h1 : a < b
    · simp [h1]
    · by_cases h2 : b < a
      · have h3 : a ≠ b := fun h => by rw [h] at h2; exact absurd h2 (UInt8.lt_irrefl _)
        simp [h1, h2, h3]
      · have h3 : a = b := UInt8.le_antisymm (UInt8.not_lt.1 h2) (UInt8.not_lt.1 h1)
        subst h3
        simp [h1]
def cmpS (a b : ByteArray) : Int := if sLt a b then -1 else if a = b then 0 else 1
theorem cmpS_eq (a b : ByteArray) : Lib.compareBytes a.data.toList b.data.toList = cmpS a b := by
  rw [cmpB_eq, cmpS, sLt, Lib.toList_data, Lib.toList_data]
  congr 1
  by_cases h : a = b
  · subst h; simp
  · have : ¬ a.data.toList = b.data.toList := fun hh => h (by apply ByteArray.ext; exact Array.toList_inj.1 hh)
    rw [if_neg h, if_neg this]
theorem cmpS_lt {a b : ByteArray} : cmpS a b < 0 ↔ sLt a b = true := by
  unfold cmpS
  split
  · rename_i h; simp [h]
  · rename_i h
    split <;> simp [h]
/-! ### sorted by their keys -/
def encE (x : Ent) : List Value := [.string x.key, .int .i64 x.n, .string x.who, .string x.value]
theorem cells_encE (x : Ent) : (sEnt x).cells = (encE x).map .lit := rfl
def cfE (x y : Ent) : Int := cmpS x.key y.key
theorem ltOf_cfE (x y : Ent) : ltOf cfE x y = sLt x.key y.key := by
  unfold ltOf cfE
  rw [Bool.eq_iff_iff, decide_eq_true_eq, cmpS_lt]
theorem swoE : SWO (ltOf cfE) where
  irrefl x := by rw [ltOf_cfE, sLt_irrefl]
  trans x y z h1 h2 := by rw [ltOf_cfE] at *; exact sLt_trans h1 h2
  ntrans x y z h1 h2 := by
    rw [ltOf_cfE] at *
    cases h : sLt x.key z.key with
    | false => rfl
    | true =>
      by_cases e : x.key = y.key
      · rw [e] at h; rw [h] at h2; cases h2
      · have k := sLt_tri h1 e
        have := sLt_trans k h
        rw [this] at h2; cases h2
set_option maxHeartbeats 1000000 in
theorem cmpEA_w (x y : Ent) (W : World) : Calls Tryz.prog 56 #[.agg #[.string x.key, .int .i64 x.n, .string x.who, .string x.value], .agg #[.string y.key, .int .i64 y.n, .string y.who, .string y.value]] W fun e w' => e = .returned (.int .i64 (cfE x y)) ∧ ∃ q os', w' = grow (W.drewN q) os' := by
  have hcon : ∀ W', Calls Tryz.prog 57 #[.string x.key, .string y.key] W' fun e w' => e = .returned (.int .i64 (cfE x y)) ∧ w' = W' := fun W' => by
    have := Any.strings_Compare strCmpL x.key y.key W'
    rw [cmpS_eq] at this
    exact this
  generalize cfE x y = r at hcon ⊢
  go_enter Tryz.func56, Tryz.ntmps56
  go_wp2_with (go_at_call 57; refine (hcon _).mono ?_; rintro e w' ⟨rfl, rfl⟩)
  go_ret
  exact ⟨rfl, 0, _, by rw [alloc_eq_grow, alloc_eq_grow, grow_grow]; rfl⟩
theorem sortEA_c {o : Nat} {L : List Ent} {σ : Store} (ho : σ.heap o = some (.cells (flat (L.map sEnt)))) (hl : L.length ≤ 1000000000) :
    ACalls Tryz.prog 55 [.msl o 4 0 L.length, .lit (.func (.func 56) #[] #[])] σ fun v σ' => v = .tup [] ∧ ∃ L' : List Ent, L'.Perm L ∧ L'.Pairwise (fun x y => sLt y.key x.key = false) ∧ σ' = σ.set o (.cells (flat (L'.map sEnt))) := by
  have e1 : ∀ M : List Ent, flat (M.map sEnt) = (flatK encE 4 M.toArray).toList.map .lit := fun M => flat_flatK sEnt encE cells_encE (fun _ => rfl) M
  rw [e1] at ho
  refine (sortK_of (P := Tryz.prog) (σ := σ) (f := 55) (o := o) (k := 4) (n := L.length) (flatK encE 4 L.toArray).toList
    (fun F' => ∃ L' : List Ent, L'.Perm L ∧ L'.Pairwise (fun x y => sLt y.key x.key = false) ∧ F' = (flatK encE 4 L'.toArray).toList) ho [.lit (.func (.func 56) #[] #[])] [.func (.func 56) #[] #[]] (fun b cap w hG hH hb => ?_) rfl).wkS fun v σ' ⟨hv, F', ⟨L', h1, h2, h3⟩, h4⟩ => ⟨v, σ', .refl _, .refl _, hv, L', h1, h2, by rw [h4, h3, e1]⟩
  have hcmp : CmpLays Tryz.prog 56 #[] encE 4 cfE b 0 L.toArray.size w := fun m os dk _ x y => cmpEA_w x y _
  have key := AnyQ.slices_SortFunc sortF 4 Tryz.isAgg45 Tryz.sizeOf45 encE (fun _ => rfl) (fun x v hv => by simp [encE] at hv; rcases hv with rfl | rfl | rfl | rfl <;> rfl) cfE swoE 56 #[] b 0 cap L.toArray w (fun args w => run_callFunc (by kernel_rfl) args w) hcmp (by simpa [HoldsK] using hH) hb (by simp; omega)
  have key2 : Calls Tryz.prog 55 (#[.slice (some ⟨b, 0, none⟩) L.length cap] ++ #[.func (.func 56) #[] #[]]) w _ := key
  refine key2.mono fun e w' ⟨he, d', n, os, hp, hs, hw⟩ => ⟨he, (flatK encE 4 d').toList, n, os, ⟨d'.toList, ?_, ?_, by simp⟩, ?_, ?_⟩
  · exact perm_of hp
  · exact (sorted_of (n := L.toArray.size) hp.1 hs).imp fun {a b} h => by rw [ltOf_cfE] at h; exact h
  · simp [hp.1]
  · rw [hw]; simp [sortWorldK, putRowK]
set_option maxHeartbeats 1000000 in
theorem cmpEB_w (x y : Ent) (W : World) : Calls Tryz.prog 109 #[.agg #[.string x.key, .int .i64 x.n, .string x.who, .string x.value], .agg #[.string y.key, .int .i64 y.n, .string y.who, .string y.value]] W fun e w' => e = .returned (.int .i64 (cfE x y)) ∧ ∃ q os', w' = grow (W.drewN q) os' := by
  have hcon : ∀ W', Calls Tryz.prog 57 #[.string x.key, .string y.key] W' fun e w' => e = .returned (.int .i64 (cfE x y)) ∧ w' = W' := fun W' => by
    have := Any.strings_Compare strCmpL x.key y.key W'
    rw [cmpS_eq] at this
    exact this
  generalize cfE x y = r at hcon ⊢
  go_enter Tryz.func109, Tryz.ntmps109
  go_wp2_with (go_at_call 57; refine (hcon _).mono ?_; rintro e w' ⟨rfl, rfl⟩)
  go_ret
  exact ⟨rfl, 0, _, by rw [alloc_eq_grow, alloc_eq_grow, grow_grow]; rfl⟩
theorem sortEB_c {o : Nat} {L : List Ent} {σ : Store} (ho : σ.heap o = some (.cells (flat (L.map sEnt)))) (hl : L.length ≤ 1000000000) :
    ACalls Tryz.prog 55 [.msl o 4 0 L.length, .lit (.func (.func 109) #[] #[])] σ fun v σ' => v = .tup [] ∧ ∃ L' : List Ent, L'.Perm L ∧ L'.Pairwise (fun x y => sLt y.key x.key = false) ∧ σ' = σ.set o (.cells (flat (L'.map sEnt))) := by
  have e1 : ∀ M : List Ent, flat (M.map sEnt) = (flatK encE 4 M.toArray).toList.map .lit := fun M => flat_flatK sEnt encE cells_encE (fun _ => rfl) M
  rw [e1] at ho
  refine (sortK_of (P := Tryz.prog) (σ := σ) (f := 55) (o := o) (k := 4) (n := L.length) (flatK encE 4 L.toArray).toList
    (fun F' => ∃ L' : List Ent, L'.Perm L ∧ L'.Pairwise (fun x y => sLt y.key x.key = false) ∧ F' = (flatK encE 4 L'.toArray).toList) ho [.lit (.func (.func 109) #[] #[])] [.func (.func 109) #[] #[]] (fun b cap w hG hH hb => ?_) rfl).wkS fun v σ' ⟨hv, F', ⟨L', h1, h2, h3⟩, h4⟩ => ⟨v, σ', .refl _, .refl _, hv, L', h1, h2, by rw [h4, h3, e1]⟩
  have hcmp : CmpLays Tryz.prog 109 #[] encE 4 cfE b 0 L.toArray.size w := fun m os dk _ x y => cmpEB_w x y _
  have key := AnyQ.slices_SortFunc sortF 4 Tryz.isAgg45 Tryz.sizeOf45 encE (fun _ => rfl) (fun x v hv => by simp [encE] at hv; rcases hv with rfl | rfl | rfl | rfl <;> rfl) cfE swoE 109 #[] b 0 cap L.toArray w (fun args w => run_callFunc (by kernel_rfl) args w) hcmp (by simpa [HoldsK] using hH) hb (by simp; omega)
  have key2 : Calls Tryz.prog 55 (#[.slice (some ⟨b, 0, none⟩) L.length cap] ++ #[.func (.func 109) #[] #[]]) w _ := key
  refine key2.mono fun e w' ⟨he, d', n, os, hp, hs, hw⟩ => ⟨he, (flatK encE 4 d').toList, n, os, ⟨d'.toList, ?_, ?_, by simp⟩, ?_, ?_⟩
  · exact perm_of hp
  · exact (sorted_of (n := L.toArray.size) hp.1 hs).imp fun {a b} h => by rw [ltOf_cfE] at h; exact h
  · simp [hp.1]
  · rw [hw]; simp [sortWorldK, putRowK]
end Go.Proofs.YtkcmbjodladflaaGreatDoor
end

section
set_option linter.all false
set_option maxRecDepth 100000
namespace Go.Ab
theorem AOp_frz {P : Program} {op : Oper} {α : Operand → AVal} {σ : Store} {sz n : Nat} {cs l : List AVal} {Kk : AVal → Store → Prop} (h : AOp P op α σ fun v τ => ∃ ob, σ.heap ob = none ∧ v = .msl ob sz 0 n ∧ τ = σ.set ob (.cells cs)) (hl : cs.take (n * sz) = flat l) (hn : l.length = n) (hs : ∀ x ∈ l, x.cells.length = sz) (hk : Kk (.sl sz l false) σ) : AOp P op α σ Kk :=
  fun κ ev hI hx => (h κ ev hI hx).mono fun v w ⟨κ', b, τ, h1, h2, h3, h4, ob, ho, hb, hτ⟩ => by
    subst hb; subst hτ
    obtain ⟨κ2, g1, g2, g3, g4⟩ := Ab.freeze h3 h4 (Store.set_get ..) hl hn hs
    rw [Store.set_del ho] at g3
    exact ⟨κ2, _, σ, g1.trans h1, h2.trans g2, g3, g4, hk⟩
end Go.Ab
namespace Go.Proofs.YtkcmbjodladflaaGreatDoor
open Go.Ab
def entGo : Nat → List ByteArray → List Ent
  | _, [] => []
  | k, s :: l => if nameOk s = true then ⟨ringK k, 1, ⟨#[]⟩, s⟩ :: entGo (k + 1) l else entGo (k + 1) l
theorem ent_step : ∀ {l : List ByteArray} {k j : Nat} {s : ByteArray}, l[k]? = some s → entGo j (l.take (k + 1)) = entGo j (l.take k) ++ (if nameOk s = true then [⟨ringK (j + k), 1, ⟨#[]⟩, s⟩] else [])
  | [], k, j, s, h => by simp at h
  | u :: l, 0, j, s, h => by
    simp only [List.getElem?_cons_zero, Option.some.injEq] at h
    subst h
    simp only [List.take_succ_cons, List.take_zero, entGo]
    split <;> simp
  | u :: l, k + 1, j, s, h => by
    simp only [List.getElem?_cons_succ] at h
    have ih := ent_step (j := j + 1) h
    simp only [List.take_succ_cons, entGo] at ih ⊢
    rw [ih, show j + 1 + k = j + (k + 1) by omega]
    split <;> simp
theorem ent_len : ∀ (k : Nat) (l : List ByteArray), (entGo k l).length ≤ l.length
  | _, [] => Nat.le_refl _
  | k, s :: l => by
    have := ent_len (k + 1) l
    unfold entGo
    split
    · simp; omega
    · simp; omega
def SrtE (L : List Ent) : Prop := L.Pairwise fun x y => sLt y.key x.key = false
set_option maxHeartbeats 1000000 in
theorem ringEntM {ow : List ByteArray} {t : Bool} {σ : Store} (hl : ow.length ≤ 1000) (hz : ∀ s ∈ ow, s.size ≤ 1000000) (h0 : 0 < (entGo 0 ow).length) : ACalls Tryz.prog 53 [.sl 1 (ow.map vStr) t] σ fun v σ' => ∃ (L : List Ent) (o : Nat), L.Perm (entGo 0 ow) ∧ SrtE L ∧ σ.heap o = none ∧ v = .msl o 4 0 L.length ∧ σ' = σ.set o (.cells (flat (L.map sEnt))) := by
  have hel := ent_len 0 ow
  refine ACalls_of Tryz.func53 rfl Tryz.ntmps53 (congrArg Array.toList Tryz.results53) (by simp only [List.length_cons, List.length_nil]; decide) ?_; simp only [envOf_cons, envOf_nil, Nat.reduceAdd]
  refine awp_seq ?_
  refine awp_region (by kernel_rfl) ?_
  (refine aL_S rfl rfl v_ ?_)
  refine aL_nil ?_
  refine awp_seq ?_
  refine awp_seq ?_
  refine awp_region (by kernel_rfl) ?_
  iterate 3 (refine aL_S rfl rfl v_ ?_)
  refine aL_nil ?_
  refine awp_cond v_ (fun hc1 => ?_) (fun hc1 => ?_)
  · replace hc1 := nm_ hc1
    omega
  · replace hc1 := nm_ hc1
    refine awp_skip ?_
    refine awp_seq ?_
    refine awp_region (by kernel_rfl) ?_
    (refine aL_S rfl rfl v_ ?_)
    refine aL_nil ?_
    refine awp_seq ?_
    refine awp_seq ?_
    refine awp_region (by kernel_rfl) ?_
    iterate 3 (refine aL_S rfl rfl v_ ?_)
    refine aL_nil ?_
    refine awp_block ?_
    refine awp_loop_env (ι := Store × AVal × Nat) (fun ⟨τ, g, k⟩ => ow.length - k) (fun ⟨τ, g, k⟩ => k ≤ ow.length ∧ CBp σ τ 4 ((entGo 0 (ow.take k)).map sEnt) g) (fun ⟨τ, g, k⟩ => [(3, g), (9, .sl 1 (ow.map vStr) t), (10, vInt ow.length), (11, vInt k)]) (fun ⟨τ, g, k⟩ => τ) (σ, vNil, 0) ?_ ?_ ?_ ?_
    · exact ⟨Nat.zero_le _, .inl ⟨rfl, rfl, rfl⟩⟩
    · exact cv_
    · exact Store.Wk.refl _
    rintro ⟨τ, g, k⟩ ⟨hk, hC⟩
    simp only [envL_cons, envL_nil]
    refine awp_seq ?_
    refine awp_region (by kernel_rfl) ?_
    (refine aL_S rfl rfl v_ ?_)
    refine aL_nil ?_
    refine awp_seq ?_
    refine awp_cond v_ (fun hc5 => ?_) (fun hc5 => ?_)
    · replace hc5 := nm_ hc5
      refine awp_skip ?_
      refine awp_seq ?_
      refine awp_block ?_
      refine awp_seq ?_
      obtain ⟨s, hs⟩ := get_some (l := ow) (k := k) (by omega)
      have hst0 := ent_step (j := 0) hs
      have hle := ent_len 0 (ow.take k)
      rw [List.length_take] at hle
      rw [Nat.zero_add] at hst0
      have R := hs
      refine awp_region (by kernel_rfl) ?_
      iterate 5 (refine aL_S rfl rfl v_ ?_)
      refine aL_nil ?_
      refine awp_seq ?_
      refine awp_region (by kernel_rfl) ?_
      (refine aL_S rfl rfl v_ ?_)
      refine aL_X rfl rfl (AOp_use rfl rfl (.inr ⟨rfl, rfl, rfl⟩) g_ va_ (nameIs_c (by have := hz s (List.mem_of_getElem? hs); omega)) ?_); rintro _ _ ⟨rfl, rfl⟩
      refine aL_nil ?_
      refine awp_cond v_ (fun hc7 => ?_) (fun hc7 => ?_)
      · replace hc7 := nm_ hc7
        have hst : entGo 0 (ow.take (k + 1)) = entGo 0 (ow.take k) ++ [⟨ringK k, 1, ⟨#[]⟩, s⟩] := by rw [hst0, if_pos hc7]
        refine awp_region (by kernel_rfl) ?_
        iterate 2 (refine aL_S rfl rfl v_ ?_)
        refine aL_X rfl rfl (AOp_use rfl rfl (.inr ⟨rfl, rfl, rfl⟩) g_ va_ (ringKey_c (by omega)) ?_); rintro _ _ ⟨rfl, rfl⟩
        iterate 3 (refine aL_S rfl rfl v_ ?_)
        refine aL_buildSlice rfl rfl rfl g_ g_ rfl rfl h_ c2_ (by decide) ?_
        refine aL_X rfl rfl (AOp_appendC rfl g_ g_ hC va_ (szEnt _) va_ c_ (by simp; omega) fun a' τ2 hC3 => ?_)
        rw [show (entGo 0 (ow.take k)).map sEnt ++ [sEnt ⟨ringK k, 1, ⟨#[]⟩, s⟩] = (entGo 0 (ow.take k) ++ [(⟨ringK k, 1, ⟨#[]⟩, s⟩ : Ent)]).map sEnt from by simp] at hC3
        (refine aL_S rfl rfl v_ ?_)
        refine aL_nil ?_
        refine awp_region (by kernel_rfl) ?_
        iterate 2 (refine aL_S rfl rfl v_ ?_)
        refine aL_nil ?_
        refine aNext (ι := Store × AVal × Nat) (i := ⟨τ, g, k⟩) (τ2, a', k + 1) ?_ ?_ ?_ ?_
        · show ow.length - (k + 1) < ow.length - k; omega
        · exact ⟨by show k + 1 ≤ ow.length; omega, by rw [hst]; exact hC3⟩
        · exact cv_
        · exact Store.Wk.refl _
      · replace hc7 := nm_ hc7
        have hst : entGo 0 (ow.take (k + 1)) = entGo 0 (ow.take k) := by rw [hst0, if_neg (by simp [hc7]), List.append_nil]
        refine awp_skip ?_
        refine awp_region (by kernel_rfl) ?_
        iterate 2 (refine aL_S rfl rfl v_ ?_)
        refine aL_nil ?_
        refine aNext (ι := Store × AVal × Nat) (i := ⟨τ, g, k⟩) (τ, g, k + 1) ?_ ?_ ?_ ?_
        · show ow.length - (k + 1) < ow.length - k; omega
        · exact ⟨by show k + 1 ≤ ow.length; omega, by rw [hst]; exact hC⟩
        · exact cv_
        · exact sub_
    · replace hc5 := nm_ hc5
      refine awp_exit ?_
      refine aThen_exit ?_
      refine aThen_exit ?_
      refine aBlock_hit ?_
      refine awp_seq ?_
      obtain rfl : k = ow.length := by omega
      rw [List.take_length] at hC
      obtain ⟨oo, hoo, rfl, rfl⟩ : ∃ oo, σ.heap oo = none ∧ g = .msl oo 4 0 (entGo 0 ow).length ∧ τ = σ.set oo (.cells (flat ((entGo 0 ow).map sEnt))) := by
        rcases hC with ⟨_, h, _⟩ | ⟨oo, h1, h2, h3⟩
        · rw [List.map_eq_nil_iff] at h; rw [h] at h0; exact absurd h0 (by simp)
        · exact ⟨oo, h1, by rw [h2, List.length_map], h3⟩
      refine awp_region (by kernel_rfl) ?_
      (refine aL_S rfl rfl v_ ?_)
      refine aL_X rfl rfl (AOp_use rfl rfl (.inr ⟨rfl, rfl, rfl⟩) g_ va_ (sortEB_c (o := oo) (L := entGo 0 ow) (Store.set_get ..) (by omega)) ?_); rintro _ τ1 ⟨rfl, L, p1, p2, rfl⟩
      refine aL_nil ?_
      refine awp_seq ?_
      refine awp_region (by kernel_rfl) ?_
      iterate 2 (refine aL_S rfl rfl v_ ?_)
      refine aL_nil ?_
      refine awp_ret ?_
      refine aEnd_ret v_ (Store.Wk.refl _) ?_
      exact ⟨L, oo, p1, p2, hoo, by rw [p1.length_eq], by rw [Store.set_set]⟩
theorem flat_take (L : List Ent) : (flat (L.map sEnt)).take (L.length * 4) = flat (L.map sEnt) := List.take_of_length_le (by rw [flat_length (szEnt L), List.length_map]; exact Nat.le_refl _)
theorem ringEnt_c {ow : List ByteArray} {t : Bool} {σ : Store} (hl : ow.length ≤ 1000) (hz : ∀ s ∈ ow, s.size ≤ 1000000) (h0 : 0 < (entGo 0 ow).length) : ACalls Tryz.prog 53 [.sl 1 (ow.map vStr) t] σ fun v σ' => (∃ L : List Ent, L.Perm (entGo 0 ow) ∧ SrtE L ∧ v = .sl 4 (L.map sEnt) false) ∧ σ = σ' := by
  refine (ringEntM hl hz h0).aft ?_
  rintro κ a τ cv hI hr ⟨L, o, p1, p2, ho, rfl, rfl⟩
  obtain ⟨κ', h1, h2, h3, h4⟩ := Ab.freeze hI hr (Store.set_get ..) (l := L.map sEnt) (flat_take L) (by simp) (szEnt L)
  rw [Store.set_del ho] at h3
  exact ⟨κ', _, _, h1, h2, h3, h4, ⟨L, p1, p2, rfl⟩, rfl⟩
/-! ### one behind the other -/
@[reducible] def slE (L : List Ent) : AVal := .sl 4 (L.map sEnt) false
theorem oneEntL (l : List Ent) : ∀ y ∈ l.map sEnt, ∀ c ∈ y.cells, c.one = true := fun y hy c hc => by
  obtain ⟨x, _, rfl⟩ := List.mem_map.1 hy
  simp [AVal.cells] at hc
  rcases hc with rfl | rfl | rfl | rfl <;> rfl
theorem growEnt_c {n : Nat} {σ : Store} (hn : n ≤ 1000000000) : ACalls Tryz.prog 170 [vNil, vInt n] σ fun v σ' => CBp σ σ' 4 [] v := by
  refine ACalls_of Tryz.func170 rfl Tryz.ntmps170 (congrArg Array.toList Tryz.results170) (by simp only [List.length_cons, List.length_nil]; decide) ?_; simp only [envOf_cons, envOf_nil, Nat.reduceAdd]
  refine awp_seq ?_
  refine awp_region (by kernel_rfl) ?_
  (refine aL_S rfl rfl v_ ?_)
  refine aL_nil ?_
  refine awp_seq ?_
  refine awp_seq ?_
  refine awp_region (by kernel_rfl) ?_
  iterate 2 (refine aL_S rfl rfl v_ ?_)
  refine aL_nil ?_
  refine awp_cond v_ (fun hc1 => ?_) (fun hc1 => ?_)
  · replace hc1 := nm_ hc1
    omega
  · replace hc1 := nm_ hc1
    refine awp_skip ?_
    refine awp_seq ?_
    refine awp_seq ?_
    refine awp_region (by kernel_rfl) ?_
    iterate 2 (refine aL_S rfl rfl v_ ?_)
    refine aL_X rfl rfl (AOp_capNil rfl g_ va_ ?_)
    iterate 5 (refine aL_S rfl rfl v_ ?_)
    refine aL_nil ?_
    refine awp_seq ?_
    refine awp_region (by kernel_rfl) ?_
    iterate 2 (refine aL_S rfl rfl v_ ?_)
    refine aL_nil ?_
    refine awp_cond v_ (fun hc4 => ?_) (fun hc4 => ?_)
    · replace hc4 := nm_ hc4
      refine awp_region (by kernel_rfl) ?_
      iterate 2 (refine aL_S rfl rfl v_ ?_)
      refine aL_X rfl rfl (AOp_capNil rfl g_ va_ ?_)
      iterate 2 (refine aL_S rfl rfl v_ ?_)
      refine aL_X rfl rfl (AOp_appendMake (n := n) rfl g_ g_ g_ va_ va_ (by omega) (by omega) fun o22 ho22 => ?_)
      iterate 4 (refine aL_S rfl rfl v_ ?_)
      refine aL_nil ?_
      refine awp_seq ?_
      refine awp_region (by kernel_rfl) ?_
      iterate 2 (refine aL_S rfl rfl v_ ?_)
      refine aL_nil ?_
      refine awp_ret ?_
      refine aEnd_ret v_ (Store.Wk.refl _) ?_
      exact .inr ⟨o22, ho22, rfl, rfl⟩
    · replace hc4 := nm_ hc4
      refine awp_skip ?_
      refine awp_seq ?_
      refine awp_region (by kernel_rfl) ?_
      iterate 2 (refine aL_S rfl rfl v_ ?_)
      refine aL_nil ?_
      refine awp_ret ?_
      refine aEnd_ret v_ (Store.Wk.refl _) ?_
      exact .inl ⟨rfl, rfl, rfl⟩
theorem flatten_take {α : Type} {Ls : List (List α)} {k : Nat} {x : List α} (h : Ls[k]? = some x) : (Ls.take (k + 1)).flatten = (Ls.take k).flatten ++ x := by rw [take_snoc h, List.flatten_append]; simp
theorem flatten_le {α : Type} (Ls : List (List α)) (k : Nat) : (Ls.take k).flatten.length ≤ Ls.flatten.length := by
  conv => rhs; rw [← List.take_append_drop k Ls, List.flatten_append, List.length_append]
  omega
theorem concatEnt_c {Ls : List (List Ent)} {tt : Bool} {σ : Store} (hb : Ls.flatten.length ≤ 10000000) (hn : Ls.length ≤ 10) :
    ACalls Tryz.prog 118 [.sl 1 (Ls.map slE) tt] σ fun v σ' => CBp σ σ' 4 (Ls.flatten.map sEnt) v := by
  have hle := fun k => flatten_le Ls k
  refine ACalls_of Tryz.func118 rfl Tryz.ntmps118 (congrArg Array.toList Tryz.results118) (by simp only [List.length_cons, List.length_nil]; decide) ?_; simp only [envOf_cons, envOf_nil, Nat.reduceAdd]
  refine awp_seq ?_
  refine awp_region (by kernel_rfl) ?_
  (refine aL_S rfl rfl v_ ?_)
  refine aL_nil ?_
  refine awp_seq ?_
  refine awp_region (by kernel_rfl) ?_
  (refine aL_S rfl rfl v_ ?_)
  refine aL_nil ?_
  refine awp_seq ?_
  refine awp_seq ?_
  refine awp_region (by kernel_rfl) ?_
  iterate 3 (refine aL_S rfl rfl v_ ?_)
  refine aL_nil ?_
  refine awp_block ?_
  refine awp_loop_env (ι := Nat) (fun k => Ls.length - k) (fun k => k ≤ Ls.length) (fun k => [(0, .sl 1 (Ls.map slE) tt), (3, vInt ((Ls.take k).flatten.length : Int)), (9, .sl 1 (Ls.map slE) tt), (10, vInt Ls.length), (11, vInt k)]) (fun k => σ) 0 ?_ ?_ ?_ ?_
  · exact Nat.zero_le _
  · exact cv_
  · exact sub_
  rintro k hk
  simp only [envL_cons, envL_nil]
  refine awp_seq ?_
  refine awp_region (by kernel_rfl) ?_
  (refine aL_S rfl rfl v_ ?_)
  refine aL_nil ?_
  refine awp_seq ?_
  refine awp_cond v_ (fun hc3 => ?_) (fun hc3 => ?_)
  · replace hc3 := nm_ hc3
    refine awp_skip ?_
    refine awp_seq ?_
    refine awp_block ?_
    refine awp_seq ?_
    obtain ⟨x, hx⟩ := get_some (l := Ls) (k := k) (by omega)
    have hcov : (((Ls.take (k + 1)).flatten.length : Nat) : Int) = ((Ls.take k).flatten.length : Int) + (x.length : Int) := by rw [flatten_take hx, List.length_append]; omega
    have hk1 := hle k; have hk2 := hle (k + 1)
    have R := hx
    refine awp_region (by kernel_rfl) ?_
    iterate 3 (refine aL_S rfl rfl v_ ?_)
    refine aL_nil ?_
    refine awp_seq ?_
    refine awp_region (by kernel_rfl) ?_
    iterate 5 (refine aL_S rfl rfl v_ ?_)
    refine aL_nil ?_
    refine awp_seq ?_
    refine awp_region (by kernel_rfl) ?_
    iterate 2 (refine aL_S rfl rfl v_ ?_)
    refine aL_nil ?_
    refine awp_cond v_ (fun hc6 => ?_) (fun hc6 => ?_)
    · replace hc6 := nm_ hc6
      omega
    · replace hc6 := nm_ hc6
      refine awp_skip ?_
      refine awp_region (by kernel_rfl) ?_
      iterate 2 (refine aL_S rfl rfl v_ ?_)
      refine aL_nil ?_
      refine aNext (ι := Nat) (i := k) (k + 1) ?_ ?_ ?_ ?_
      · omega
      · exact (by omega)
      · have R := hcov; exact cv_
      · exact sub_
  · replace hc3 := nm_ hc3
    refine awp_exit ?_
    refine aThen_exit ?_
    refine aThen_exit ?_
    refine aBlock_hit ?_
    refine awp_seq ?_
    obtain rfl : k = Ls.length := by omega
    rw [List.take_length]
    refine awp_region (by kernel_rfl) ?_
    (refine aL_S rfl rfl v_ ?_)
    refine aL_X rfl rfl (AOp_use rfl rfl (.inr ⟨rfl, rfl, rfl⟩) g_ va_ (growEnt_c (n := Ls.flatten.length) (by omega)) ?_); rintro _ τ0 hC0
    rename_i b0
    (refine aL_S rfl rfl v_ ?_)
    refine aL_nil ?_
    refine awp_seq ?_
    refine awp_seq ?_
    refine awp_region (by kernel_rfl) ?_
    iterate 3 (refine aL_S rfl rfl v_ ?_)
    refine aL_nil ?_
    refine awp_block ?_
    refine awp_loop_env (ι := Store × AVal × Nat) (fun ⟨τ, b, k⟩ => Ls.length - k) (fun ⟨τ, b, k⟩ => k ≤ Ls.length ∧ CBp σ τ 4 ((Ls.take k).flatten.map sEnt) b) (fun ⟨τ, b, k⟩ => [(6, b), (25, .sl 1 (Ls.map slE) tt), (26, vInt Ls.length), (27, vInt k)]) (fun ⟨τ, b, k⟩ => τ) (τ0, b0, 0) ?_ ?_ ?_ ?_
    · exact ⟨Nat.zero_le _, hC0⟩
    · exact cv_
    · exact Store.Wk.refl _
    rintro ⟨τ, b, k⟩ ⟨hk, hC⟩
    simp only [envL_cons, envL_nil]
    refine awp_seq ?_
    refine awp_region (by kernel_rfl) ?_
    (refine aL_S rfl rfl v_ ?_)
    refine aL_nil ?_
    refine awp_seq ?_
    refine awp_cond v_ (fun hc11 => ?_) (fun hc11 => ?_)
    · replace hc11 := nm_ hc11
      refine awp_skip ?_
      refine awp_seq ?_
      refine awp_block ?_
      refine awp_seq ?_
      obtain ⟨x, hx⟩ := get_some (l := Ls) (k := k) (by omega)
      have hk1 := hle k; have hk2 := hle (k + 1)
      rw [flatten_take hx, List.length_append] at hk2
      have R := hx
      refine awp_region (by kernel_rfl) ?_
      iterate 3 (refine aL_S rfl rfl v_ ?_)
      refine aL_nil ?_
      refine awp_region (by kernel_rfl) ?_
      iterate 2 (refine aL_S rfl rfl v_ ?_)
      refine aL_X rfl rfl (AOp_appendC rfl g_ g_ hC va_ (szEnt _) va_ (oneEntL _) (by simp only [List.length_append, List.length_map]; omega) fun a' σ' hC' => ?_)
      (refine aL_S rfl rfl v_ ?_)
      refine aL_nil ?_
      refine awp_region (by kernel_rfl) ?_
      iterate 2 (refine aL_S rfl rfl v_ ?_)
      refine aL_nil ?_
      refine aNext (ι := Store × AVal × Nat) (i := ⟨τ, b, k⟩) (σ', a', k + 1) ?_ ?_ ?_ ?_
      · show Ls.length - (k + 1) < Ls.length - k; omega
      · exact ⟨by show k + 1 ≤ Ls.length; omega, by rw [flatten_take hx, List.map_append]; exact hC'⟩
      · exact cv_
      · exact Store.Wk.refl _
    · replace hc11 := nm_ hc11
      refine awp_exit ?_
      refine aThen_exit ?_
      refine aThen_exit ?_
      refine aBlock_hit ?_
      refine awp_seq ?_
      obtain rfl : k = Ls.length := by omega
      rw [List.take_length] at hC
      refine awp_region (by kernel_rfl) ?_
      iterate 2 (refine aL_S rfl rfl v_ ?_)
      refine aL_nil ?_
      refine awp_ret ?_
      refine aEnd_ret v_ (Store.Wk.refl _) ?_
      exact hC
theorem concatE_s {Ls : List (List Ent)} {tt : Bool} {σ : Store} (hb : Ls.flatten.length ≤ 10000000) (hn : Ls.length ≤ 10) :
    ACalls Tryz.prog 118 [.sl 1 (Ls.map slE) tt] σ fun v σ' => v = .sl 4 (Ls.flatten.map sEnt) false ∧ σ = σ' :=
  frozenS ((concatEnt_c hb hn).mono fun v σ' h => ⟨σ, h, .refl _⟩) (szEnt _)
end Go.Proofs.YtkcmbjodladflaaGreatDoor
end

section
set_option linter.all false
set_option maxRecDepth 100000
namespace Go.Proofs.YtkcmbjodladflaaGreatDoor
open Go.Ab
theorem ents_nil : entsOk [] = true := by decide
theorem ents_len {l : List Ent} (h : entsOk l = true) : l.length ≤ 4096 := by
  unfold entsOk at h
  simp only [Bool.and_eq_true, decide_eq_true_eq] at h
  exact h.1
theorem joinNil_c {l : List Ent} {σ : Store} (hs : ∀ x ∈ l, EntSm x) (hl : l.length ≤ 1000000) : ACalls Tryz.prog 58 [.sl 4 (l.map sEnt) false, vNil] σ fun v σ' => v = .tup [.sl 4 ((if entsOk l = true then l else []).map sEnt) false, vInt (if entsOk l = true then 0 else 1)] ∧ σ = σ' := by
  refine ACalls_of Tryz.func58 rfl Tryz.ntmps58 (congrArg Array.toList Tryz.results58) (by simp only [List.length_cons, List.length_nil]; decide) ?_; simp only [envOf_cons, envOf_nil, Nat.reduceAdd]
  refine awp_seq ?_
  refine awp_region (by kernel_rfl) ?_
  iterate 2 (refine aL_S rfl rfl v_ ?_)
  refine aL_nil ?_
  refine awp_scope ?_
  refine awp_seq ?_
  refine awp_seq ?_
  refine awp_region (by kernel_rfl) ?_
  (refine aL_S rfl rfl v_ ?_)
  refine aL_X rfl rfl (AOp_use rfl rfl (.inr ⟨rfl, rfl, rfl⟩) g_ va_ (entsCheck_c hs hl) ?_); rintro _ _ ⟨rfl, rfl⟩
  iterate 2 (refine aL_S rfl rfl v_ ?_)
  refine aL_GF rfl rfl v_ rfl vg_ ?_
  refine aL_GFX rfl rfl v_ rfl (fun hb => AOp_useV (by rfl) (by rfl) (.inr ⟨by rfl, by rfl, by rfl⟩) g_ cg_ (ACalls.wkA (args := [vNil]) (entsCheck_c (l := []) (t := false) (fun x hx => by cases hx) (by simp)) rfl (fun j hj hj' => by match j, hj with | 0, _ => exact .nil _ _))) ?_
  refine aL_GF rfl rfl v_ rfl vg_ ?_
  (refine aL_S rfl rfl v_ ?_)
  refine aL_nil ?_
  refine awp_cond v_ (fun hc1 => ?_) (fun hc1 => ?_)
  · replace hc1 := nm_ hc1
    refine awp_seq ?_
    refine awp_region (by kernel_rfl) ?_
    iterate 2 (refine aL_S rfl rfl v_ ?_)
    refine aL_nil ?_
    refine awp_ret ?_
    have hn : ¬ entsOk l = true := by rw [if01, if01] at hc1; intro h; rcases hc1 with h1 | h1; exact h1 h; exact h1 ents_nil
    exact aEnd_retW (v := .tup [.sl 4 ((if entsOk l = true then l else []).map sEnt) false, vInt (if entsOk l = true then 0 else 1)]) (v' := .tup [vNil, vInt 1]) va_ (by rw [if_neg hn, if_neg hn]; exact wkTupNil 1) sub_ ⟨rfl, rfl⟩
  · replace hc1 := nm_ hc1
    have hok : entsOk l = true := by rw [if01] at hc1; exact hc1.1
    have hle := ents_len hok
    refine awp_skip ?_
    refine awp_seq ?_
    refine awp_region (by kernel_rfl) ?_
    (refine aL_S rfl rfl v_ ?_)
    refine aL_nil ?_
    refine awp_seq ?_
    refine awp_label ?_
    refine awp_seq ?_
    refine awp_block ?_
    refine awp_loop_env (ι := Unit) (fun u => 0) (fun u => True) (fun u => [(0, .sl 4 (l.map sEnt) false), (1, vNil), (6, vNil)]) (fun u => σ) () ?_ ?_ ?_ ?_
    · trivial
    · exact cv_
    · exact sub_
    rintro u _
    simp only [envL_cons, envL_nil]
    refine awp_seq ?_
    refine awp_seq ?_
    refine awp_region (by kernel_rfl) ?_
    iterate 4 (refine aL_S rfl rfl v_ ?_)
    refine aL_GT rfl rfl v_ rfl vg_ ?_
    refine aL_GT rfl rfl v_ rfl vg_ ?_
    refine aL_GT rfl rfl v_ rfl vg_ ?_
    (refine aL_S rfl rfl v_ ?_)
    refine aL_nil ?_
    refine awp_cond v_ (fun hc4 => ?_) (fun hc4 => ?_)
    · replace hc4 := nm_ hc4
      simp at hc4
    · replace hc4 := nm_ hc4
      refine awp_exit ?_
      refine aThen_exit ?_
      refine aThen_exit ?_
      refine aBlock_hit ?_
      refine awp_seq ?_
      refine awp_region (by kernel_rfl) ?_
      refine aL_X rfl rfl (AOp_wk (a := vNil) (AOp_val (by rfl) ⟨rfl, rfl⟩) (.nil 4 false) ?_)
      (refine aL_S rfl rfl v_ ?_)
      refine aL_X rfl rfl (AOp_wk (a := vNil) (AOp_val (by rfl) ⟨rfl, rfl⟩) (.nil 4 false) ?_)
      refine aL_buildSlice rfl rfl rfl g_ g_ rfl rfl h_ c2_ (by decide) ?_
      refine aL_X rfl rfl (AOp_use rfl rfl (.inr ⟨rfl, rfl, rfl⟩) g_ va_ (concatE_s (Ls := [[], l, []]) (by simp; omega) (by simp)) ?_); rintro _ _ ⟨rfl, rfl⟩
      rw [show ([[], l, []] : List (List Ent)).flatten = l from by simp]
      (refine aL_S rfl rfl v_ ?_)
      refine aL_nil ?_
      refine awp_seq ?_
      refine awp_seq ?_
      refine awp_region (by kernel_rfl) ?_
      iterate 3 (refine aL_S rfl rfl v_ ?_)
      refine aL_nil ?_
      refine awp_cond v_ (fun hc13 => ?_) (fun hc13 => ?_)
      · replace hc13 := nm_ hc13
        omega
      · replace hc13 := nm_ hc13
        refine awp_skip ?_
        refine awp_seq ?_
        refine awp_region (by kernel_rfl) ?_
        iterate 3 (refine aL_S rfl rfl v_ ?_)
        refine aL_nil ?_
        refine awp_ret ?_
        refine aEnd_ret (σ' := σ) v_ sub_ ?_
        exact ⟨by rw [if_pos hok, if_pos hok], rfl⟩
/-! ### a cluster at first -/
def nodeE (m : Mbr) : Ent := ⟨keyN m.name, 1, ⟨#[]⟩, (valM m).1⟩
structure MbOk (m : Mbr) : Prop where
  name : nameOk m.name = true
  rack : nameOk m.rack = true
  zone : nameOk m.zone = true
def ow0 : List ByteArray := List.replicate 16 ⟨#[]⟩
theorem entGo_sm : ∀ {l : List ByteArray} {k : Nat} {x : Ent}, k + l.length ≤ 1000000 → (∀ s ∈ l, s.size ≤ 1000) → x ∈ entGo k l → EntSm x
  | [], k, x, _, _, h => by simp [entGo] at h
  | s :: l, k, x, hkl, hs, h => by
    rw [List.length_cons] at hkl
    have key : x ∈ entGo (k + 1) l → EntSm x := fun h => entGo_sm (by omega) (fun s hs' => hs s (.tail _ hs')) h
    unfold entGo at h
    split at h
    · rcases List.mem_cons.1 h with rfl | h
      · refine ⟨?_, Nat.zero_le _, Nat.le_trans (hs s (.head _)) (by decide)⟩
        show (ringK k).size ≤ 1000000
        exact Nat.le_trans (ringK_sz (by omega)) (by decide)
      · exact key h
    · exact key h
theorem nodeE_sm {m : Mbr} (h : MbOk m) : EntSm (nodeE m) := by
  have h1 := (name_size h.name).2
  have h2 := (name_size h.rack).2
  have h3 := (name_size h.zone).2
  refine ⟨?_, Nat.zero_le _, ?_⟩
  · show (keyN m.name).size ≤ _
    simp only [keyN, pathS, pathL, B_size, List.flatMap_cons, List.flatMap_nil, List.append_nil, List.length_append, List.length_cons, Lb_length, show bsNode.size = 4 from rfl]; omega
  · show (valM m).1.size ≤ _
    rw [valM, if_pos ⟨h.rack, h.zone⟩]
    have : (if m.up = true then bsUp else bsDown).size ≤ 4 := by split <;> decide
    simp only [pathS, pathL, B_size, List.flatMap_cons, List.flatMap_nil, List.append_nil, List.length_append, List.length_cons, Lb_length]; omega
set_option maxHeartbeats 2000000 in
theorem firstNil_c {ms : List Mbr} {t : Bool} {σ : Store} (h0 : 0 < ms.length) (h8 : ms.length ≤ 8) (hok : ∀ m ∈ ms, MbOk m) (hnd : ∀ k m, ms[k]? = some m → hasT ((ms.take k).map Mbr.name) m.name = false) (hne : 0 < (entGo 0 (evenS ow0 (ms.map Mbr.name))).length) (hsz : ∀ s ∈ evenS ow0 (ms.map Mbr.name), s.size ≤ 1000) :
    ACalls Tryz.prog 15 [.sl 4 (ms.map sMbr) t, vNil] σ fun v σ' => (∃ L : List Ent, L.Perm (ms.map nodeE ++ entGo 0 (evenS ow0 (ms.map Mbr.name))) ∧ SrtE L ∧ v = .tup [.sl 4 ((if entsOk L = true then L else []).map sEnt) false, vInt (if entsOk L = true then 0 else 1)]) ∧ σ = σ' := by
  have hsz1 : ∀ m ∈ ms, m.name.size ≤ 16 ∧ m.rack.size ≤ 16 ∧ m.zone.size ≤ 16 := fun m hm => ⟨(name_size (hok m hm).name).2, (name_size (hok m hm).rack).2, (name_size (hok m hm).zone).2⟩
  refine ACalls_of Tryz.func15 rfl Tryz.ntmps15 (congrArg Array.toList Tryz.results15) (by simp only [List.length_cons, List.length_nil]; decide) ?_; simp only [envOf_cons, envOf_nil, Nat.reduceAdd]
  refine awp_seq ?_
  refine awp_region (by kernel_rfl) ?_
  iterate 2 (refine aL_S rfl rfl v_ ?_)
  refine aL_nil ?_
  refine awp_seq ?_
  refine awp_seq ?_
  refine awp_region (by kernel_rfl) ?_
  iterate 4 (refine aL_S rfl rfl v_ ?_)
  refine aL_GF rfl rfl v_ rfl vg_ ?_
  refine aL_GF rfl rfl v_ rfl vg_ ?_
  refine aL_GF rfl rfl v_ rfl vg_ ?_
  (refine aL_S rfl rfl v_ ?_)
  refine aL_nil ?_
  refine awp_cond v_ (fun hc1 => ?_) (fun hc1 => ?_)
  · replace hc1 := nm_ hc1
    omega
  · replace hc1 := nm_ hc1
    refine awp_skip ?_
    refine awp_seq ?_
    refine awp_region (by kernel_rfl) ?_
    (refine aL_S rfl rfl v_ ?_)
    refine aL_nil ?_
    refine awp_seq ?_
    refine awp_seq ?_
    refine awp_region (by kernel_rfl) ?_
    iterate 3 (refine aL_S rfl rfl v_ ?_)
    refine aL_nil ?_
    refine awp_block ?_
    refine awp_loop_env (ι := Store × AVal × Nat) (fun ⟨τ, g, k⟩ => ms.length - k) (fun ⟨τ, g, k⟩ => k ≤ ms.length ∧ CBp σ τ 4 (((ms.take k).map nodeE).map sEnt) g) (fun ⟨τ, g, k⟩ => [(0, .sl 4 (ms.map sMbr) t), (1, vNil), (6, g), (19, .sl 4 (ms.map sMbr) t), (20, vInt ms.length), (21, vInt k)]) (fun ⟨τ, g, k⟩ => τ) (σ, vNil, 0) ?_ ?_ ?_ ?_
    · exact ⟨Nat.zero_le _, .inl ⟨rfl, rfl, rfl⟩⟩
    · exact cv_
    · exact Store.Wk.refl _
    rintro ⟨τ, g, k⟩ ⟨hk, hC⟩
    simp only [envL_cons, envL_nil]
    refine awp_seq ?_
    refine awp_region (by kernel_rfl) ?_
    (refine aL_S rfl rfl v_ ?_)
    refine aL_nil ?_
    refine awp_seq ?_
    refine awp_cond v_ (fun hc5 => ?_) (fun hc5 => ?_)
    · replace hc5 := nm_ hc5
      refine awp_skip ?_
      refine awp_seq ?_
      refine awp_block ?_
      refine awp_seq ?_
      obtain ⟨m, hm⟩ := get_some (l := ms) (k := k) (by omega)
      have hmm := List.mem_of_getElem? hm
      have hmo := hok m hmm
      have hmz := hsz1 m hmm
      have hmn := hnd k m hm
      have hv2 : (valM m).2 = 0 := by rw [valM, if_pos ⟨hmo.rack, hmo.zone⟩]
      have hsl : ((ms.map sMbr).take k).drop 0 = (ms.take k).map sMbr := by rw [List.drop_zero, List.map_take]
      have hsl2 : (ms.map sMbr).take k = (ms.take k).map sMbr := List.map_take.symm
      have hle : (ms.take k).length ≤ 8 := by rw [List.length_take]; omega
      have R := hm
      refine awp_region (by kernel_rfl) ?_
      iterate 3 (refine aL_S rfl rfl v_ ?_)
      refine aL_alloc rfl rfl rfl g_ gl_ fun o8 ho8 => ?_
      repeat (rw [none_set_iff] at ho8; obtain ⟨_, ho8⟩ := ho8)
      (refine aL_S rfl rfl v_ ?_)
      refine aL_store rfl rfl rfl v_ v_ h_ g_ rfl g_ c_ (by rfl) le_ v_ ?_
      refine aL_nil ?_
      skip
      have n8 := heap_none hC ho8
      have hC1 := cbp_set2 (x := .cells (sMbr zeroM).cells) (y := .cells (sMbr m).cells) hC ho8
      refine awp_seq ?_
      refine awp_region (by kernel_rfl) ?_
      (refine aL_S rfl rfl v_ ?_)
      refine aL_X rfl rfl (AOp_use rfl rfl (.inr ⟨rfl, rfl, rfl⟩) g_ va_ (value13_c (m := m) (by omega) (by omega)) ?_); rintro _ _ ⟨rfl, rfl⟩
      rw [hv2]
      iterate 5 (refine aL_S rfl rfl v_ ?_)
      refine aL_nil ?_
      refine awp_seq ?_
      refine awp_seq ?_
      have R := And.intro hsl hsl2
      refine awp_draw (.op 0 0 (.op 1 0 (.op 2 0 (.op 3 0 (.op 4 0 (.op 5 1 (.op 6 0 (.op 7 0 (.op 8 0 (.op 9 0 (.op 10 0 (.op 11 0 (.op 13 0 (.op 14 0 (.op 12 1 (.op 15 1 (.op 16 0 .nil))))))))))))))))) Tryz.mixed (by kernel_rfl) ?_
      iterate 3 (refine dR_S o_ (by rfl) (by rfl) v_ ?_)
      refine dR_GF o_ (by rfl) (by rfl) v_ (by rfl) vg_ ?_
      refine dR_GF o_ (by rfl) (by rfl) v_ (by rfl) vg_ ?_
      refine dR_GFX o_ (by rfl) (by rfl) v_ (by rfl) sub_ (fun hb => AOp_useV (by rfl) (by rfl) (.inr ⟨by rfl, by rfl, by rfl⟩) g_ cg_ (nameIs_c (by omega))) ?_
      refine dR_GF o_ (by rfl) (by rfl) v_ (by rfl) vg_ ?_
      iterate 2 (refine dR_S o_ (by rfl) (by rfl) v_ ?_)
      refine dR_GF o_ (by rfl) (by rfl) v_ (by rfl) vg_ ?_
      refine dR_GF o_ (by rfl) (by rfl) v_ (by rfl) vg_ ?_
      refine dR_GF o_ (by rfl) (by rfl) v_ (by rfl) vg_ ?_
      refine dR_GF o_ (by rfl) (by rfl) v_ (by rfl) vg_ ?_
      refine dR_GF o_ (by rfl) (by rfl) v_ (by rfl) vg_ ?_
      refine dR_GFX o_ (by rfl) (by rfl) v_ (by rfl) sub_ (fun hb => AOp_useV (by rfl) (by rfl) (.inr ⟨by rfl, by rfl, by rfl⟩) g_ cg_ (namesM (ms := ms.take k) (by omega))) ?_
      refine dR_GFX o_ (by rfl) (by rfl) v_ (by rfl) sub_ (fun hb => AOp_useV (by rfl) (by rfl) (.inr ⟨by rfl, by rfl, by rfl⟩) g_ cg_ (containsStr_c (l := (ms.take k).map Mbr.name) (by rw [List.length_map]; omega))) ?_
      (refine dR_S o_ (by rfl) (by rfl) v_ ?_)
      refine dR_nil ?_
      refine awp_cond v_ (fun hc8 => ?_) (fun hc8 => ?_)
      · replace hc8 := nm_ hc8
        rw [hmo.name, hmn] at hc8; simp at hc8
      · replace hc8 := nm_ hc8
        refine awp_skip ?_
        refine awp_region (by kernel_rfl) ?_
        iterate 3 (refine aL_S rfl rfl v_ ?_)
        refine aL_X rfl rfl (AOp_use rfl rfl (.inr ⟨rfl, rfl, rfl⟩) g_ va_ (keyN_c (by omega)) ?_); rintro _ _ ⟨rfl, rfl⟩
        iterate 3 (refine aL_S rfl rfl v_ ?_)
        refine aL_buildSlice rfl rfl rfl g_ g_ rfl rfl h_ c2_ (by decide) ?_
        refine aL_X rfl rfl (AOp_appendC rfl g_ g_ hC1 va_ (szEnt _) va_ c_ (by simp only [List.length_map, List.length_singleton] at *; omega) fun a' σ' hC3 => ?_)
        replace hC3 : CBp (σ.set o8 (.cells (sMbr m).cells)) σ' 4 (((ms.take k).map nodeE ++ [m].map nodeE).map sEnt) a' := by rw [List.map_append]; exact hC3
        obtain ⟨τ2, hC5, hs2⟩ := cbp_drop hC3 n8
        (refine aL_S rfl rfl v_ ?_)
        refine aL_nil ?_
        refine awp_region (by kernel_rfl) ?_
        iterate 2 (refine aL_S rfl rfl v_ ?_)
        refine aL_nil ?_
        refine aNext (ι := Store × AVal × Nat) (i := ⟨τ, g, k⟩) (τ2, a', k + 1) ?_ ?_ ?_ ?_
        · show ms.length - (k + 1) < ms.length - k; omega
        · exact ⟨by show k + 1 ≤ ms.length; omega, by rw [take_snoc hm, List.map_append]; exact hC5⟩
        · exact cv_
        · exact hs2.wk
    · replace hc5 := nm_ hc5
      refine awp_exit ?_
      refine aThen_exit ?_
      refine aThen_exit ?_
      refine aBlock_hit ?_
      refine awp_seq ?_
      obtain rfl : k = ms.length := by omega
      rw [List.take_length] at hC
      refine awp_draw (.op 0 0 (.op 2 0 (.alt 1 1 (.op 3 1 (.op 4 1 (.op 5 1 (.op 6 2 (.op 7 0 .nil))))) (.op 3 1 (.op 1 1 (.op 4 1 (.op 5 1 (.op 6 2 (.op 7 0 .nil))))))))) Tryz.mixed (by kernel_rfl) ?_
      iterate 2 (refine dR_S o_ (by rfl) (by rfl) v_ ?_)
      refine dR_alt ?_ ?_
      · refine dR_X o_ (by rfl) (by rfl) (AOp_frz (l := ow0.map vStr) (AOp_makeSlice (n := 16) rfl g_ g_ g_ rfl va_ va_ (by decide) fun ob hob => ⟨ob, hob, rfl, rfl⟩) (by rfl) (by rfl) (fun x hx => by obtain ⟨y, _, rfl⟩ := List.mem_map.1 hx; rfl) ⟨sub_, ?_⟩)
        refine dR_X o_ (by rfl) (by rfl) (AOp_use (by rfl) (by rfl) (.inr ⟨by rfl, by rfl, by rfl⟩) g_ va_ (namesM (ms := ms) (by omega)) ?_); rintro _ _ ⟨rfl, rfl⟩; refine ⟨sub_, ?_⟩
        refine dR_X o_ (by rfl) (by rfl) (AOp_use (by rfl) (by rfl) (.inr ⟨by rfl, by rfl, by rfl⟩) g_ va_ (even_e (ow := ow0) (nm := ms.map Mbr.name) (by decide) (by rw [List.length_map]; omega)) ?_); rintro _ _ ⟨rfl, rfl⟩; refine ⟨sub_, ?_⟩
        refine dR_X o_ (by rfl) (by rfl) (AOp_use (by rfl) (by rfl) (.inr ⟨by rfl, by rfl, by rfl⟩) g_ va_ (ringEnt_c (ow := evenS ow0 (ms.map Mbr.name)) (by rw [even_len]; decide) (fun s hs => by have := hsz s hs; omega) hne) ?_); rintro _ _ ⟨⟨L1, p1, s1, rfl⟩, rfl⟩; refine ⟨sub_, ?_⟩
        refine dR_T o_ (by rfl) (by rfl) (AOp_appendC (by rfl) g_ g_ hC va_ (szEnt _) va_ (oneEntL _) (by have e1 := p1.length_eq; have e2 := ent_len 0 (evenS ow0 (ms.map Mbr.name)); rw [even_len, show ow0.length = 16 from rfl] at e2; simp only [List.length_map]; omega) fun a' σ' hC3 => ?_)
        rw [← List.map_append] at hC3
        have hp2 : (ms.map nodeE ++ L1).Perm (ms.map nodeE ++ entGo 0 (evenS ow0 (ms.map Mbr.name))) := List.Perm.append_left _ p1
        (refine dR_S o_ (by rfl) (by rfl) v_ ?_)
        refine dR_nil ?_
        refine awp_seq ?_
        obtain ⟨M, hM⟩ : ∃ M, ms.map nodeE ++ L1 = M := ⟨_, rfl⟩
        rw [hM] at hC3 hp2
        have hMl : M.length ≤ 100 := by have e1 := hp2.length_eq; have e2 := ent_len 0 (evenS ow0 (ms.map Mbr.name)); rw [even_len, show ow0.length = 16 from rfl] at e2; simp only [List.length_append, List.length_map] at e1; omega
        have hMn : M.map sEnt ≠ [] := by rw [← hM]; simp; intro h; rw [h] at h0; simp at h0
        obtain ⟨oo, hoo, rfl, rfl⟩ : ∃ oo, σ.heap oo = none ∧ a' = .msl oo 4 0 M.length ∧ σ' = σ.set oo (.cells (flat (M.map sEnt))) := by
          rcases hC3 with ⟨_, h, _⟩ | ⟨oo, h1, h2, h3⟩
          · exact absurd h hMn
          · exact ⟨oo, h1, by rw [h2, List.length_map], h3⟩
        refine awp_region (by kernel_rfl) ?_
        (refine aL_S rfl rfl v_ ?_)
        refine aL_X rfl rfl (AOp_use rfl rfl (.inr ⟨rfl, rfl, rfl⟩) g_ va_ (sortEA_c (o := oo) (L := M) (Store.set_get ..) (by omega)) ?_); rintro _ τ1 ⟨rfl, L, q1, q2, rfl⟩
        refine aL_nil ?_
        refine awp_seq ?_
        rw [Store.set_set]
        have hLl := q1.length_eq
        have hLs : ∀ x ∈ L, EntSm x := fun x hx => by
          have hx' := hp2.mem_iff.1 (q1.mem_iff.1 hx)
          rcases List.mem_append.1 hx' with h | h
          · obtain ⟨m, hm, rfl⟩ := List.mem_map.1 h
            exact nodeE_sm (hok m hm)
          · exact entGo_sm (by rw [even_len]; decide) hsz h
        refine awp_region (by kernel_rfl) ?_
        refine aL_X rfl rfl (AOp_freeze (.inr rfl) va_ (Store.set_get ..) (l := L.map sEnt) (by rw [← hLl]; exact flat_take L) (by rw [List.length_map]; exact hLl) (szEnt L) ?_)
        rw [Store.set_del hoo]
        (refine aL_S rfl rfl v_ ?_)
        refine aL_X rfl rfl (AOp_use rfl rfl (.inr ⟨rfl, rfl, rfl⟩) g_ va_ (joinNil_c hLs (by omega)) ?_); rintro _ _ ⟨rfl, rfl⟩
        iterate 4 (refine aL_S rfl rfl v_ ?_)
        refine aL_nil ?_
        refine awp_ret ?_
        refine aEnd_ret (σ' := σ) v_ sub_ ?_
        exact ⟨⟨L, q1.trans hp2, q2, rfl⟩, rfl⟩
      refine dR_X o_ (by rfl) (by rfl) (AOp_use (by rfl) (by rfl) (.inr ⟨by rfl, by rfl, by rfl⟩) g_ va_ (namesM (ms := ms) (by omega)) ?_); rintro _ _ ⟨rfl, rfl⟩; refine ⟨sub_, ?_⟩
      refine dR_X o_ (by rfl) (by rfl) (AOp_frz (l := ow0.map vStr) (AOp_makeSlice (n := 16) rfl g_ g_ g_ rfl va_ va_ (by decide) fun ob hob => ⟨ob, hob, rfl, rfl⟩) (by rfl) (by rfl) (fun x hx => by obtain ⟨y, _, rfl⟩ := List.mem_map.1 hx; rfl) ⟨sub_, ?_⟩)
      refine dR_X o_ (by rfl) (by rfl) (AOp_use (by rfl) (by rfl) (.inr ⟨by rfl, by rfl, by rfl⟩) g_ va_ (even_e (ow := ow0) (nm := ms.map Mbr.name) (by decide) (by rw [List.length_map]; omega)) ?_); rintro _ _ ⟨rfl, rfl⟩; refine ⟨sub_, ?_⟩
      refine dR_X o_ (by rfl) (by rfl) (AOp_use (by rfl) (by rfl) (.inr ⟨by rfl, by rfl, by rfl⟩) g_ va_ (ringEnt_c (ow := evenS ow0 (ms.map Mbr.name)) (by rw [even_len]; decide) (fun s hs => by have := hsz s hs; omega) hne) ?_); rintro _ _ ⟨⟨L1, p1, s1, rfl⟩, rfl⟩; refine ⟨sub_, ?_⟩
      refine dR_T o_ (by rfl) (by rfl) (AOp_appendC (by rfl) g_ g_ hC va_ (szEnt _) va_ (oneEntL _) (by have e1 := p1.length_eq; have e2 := ent_len 0 (evenS ow0 (ms.map Mbr.name)); rw [even_len, show ow0.length = 16 from rfl] at e2; simp only [List.length_map]; omega) fun a' σ' hC3 => ?_)
      rw [← List.map_append] at hC3
      have hp2 : (ms.map nodeE ++ L1).Perm (ms.map nodeE ++ entGo 0 (evenS ow0 (ms.map Mbr.name))) := List.Perm.append_left _ p1
      (refine dR_S o_ (by rfl) (by rfl) v_ ?_)
      refine dR_nil ?_
      refine awp_seq ?_
      obtain ⟨M, hM⟩ : ∃ M, ms.map nodeE ++ L1 = M := ⟨_, rfl⟩
      rw [hM] at hC3 hp2
      have hMl : M.length ≤ 100 := by have e1 := hp2.length_eq; have e2 := ent_len 0 (evenS ow0 (ms.map Mbr.name)); rw [even_len, show ow0.length = 16 from rfl] at e2; simp only [List.length_append, List.length_map] at e1; omega
      have hMn : M.map sEnt ≠ [] := by rw [← hM]; simp; intro h; rw [h] at h0; simp at h0
      obtain ⟨oo, hoo, rfl, rfl⟩ : ∃ oo, σ.heap oo = none ∧ a' = .msl oo 4 0 M.length ∧ σ' = σ.set oo (.cells (flat (M.map sEnt))) := by
        rcases hC3 with ⟨_, h, _⟩ | ⟨oo, h1, h2, h3⟩
        · exact absurd h hMn
        · exact ⟨oo, h1, by rw [h2, List.length_map], h3⟩
      refine awp_region (by kernel_rfl) ?_
      (refine aL_S rfl rfl v_ ?_)
      refine aL_X rfl rfl (AOp_use rfl rfl (.inr ⟨rfl, rfl, rfl⟩) g_ va_ (sortEA_c (o := oo) (L := M) (Store.set_get ..) (by omega)) ?_); rintro _ τ1 ⟨rfl, L, q1, q2, rfl⟩
      refine aL_nil ?_
      refine awp_seq ?_
      rw [Store.set_set]
      have hLl := q1.length_eq
      have hLs : ∀ x ∈ L, EntSm x := fun x hx => by
        have hx' := hp2.mem_iff.1 (q1.mem_iff.1 hx)
        rcases List.mem_append.1 hx' with h | h
        · obtain ⟨m, hm, rfl⟩ := List.mem_map.1 h
          exact nodeE_sm (hok m hm)
        · exact entGo_sm (by rw [even_len]; decide) hsz h
      refine awp_region (by kernel_rfl) ?_
      refine aL_X rfl rfl (AOp_freeze (.inr rfl) va_ (Store.set_get ..) (l := L.map sEnt) (by rw [← hLl]; exact flat_take L) (by rw [List.length_map]; exact hLl) (szEnt L) ?_)
      rw [Store.set_del hoo]
      (refine aL_S rfl rfl v_ ?_)
      refine aL_X rfl rfl (AOp_use rfl rfl (.inr ⟨rfl, rfl, rfl⟩) g_ va_ (joinNil_c hLs (by omega)) ?_); rintro _ _ ⟨rfl, rfl⟩
      iterate 4 (refine aL_S rfl rfl v_ ?_)
      refine aL_nil ?_
      refine awp_ret ?_
      refine aEnd_ret (σ' := σ) v_ sub_ ?_
      exact ⟨⟨L, q1.trans hp2, q2, rfl⟩, rfl⟩
end Go.Proofs.YtkcmbjodladflaaGreatDoor
end

section
set_option linter.all false
set_option maxRecDepth 100000
namespace Go.Proofs.YtkcmbjodladflaaGreatDoor
open Go.Ab
def jnS (a b : List Ent) : List Ent := b.foldl (fun acc y => putS y acc) a
def joinR (a b : List Ent) : List Ent × Int := if entsOk a = true ∧ entsOk b = true then (if 4096 < (jnS a b).length then ([], 4) else (jnS a b, 0)) else ([], 1)
theorem jn_snoc {a b : List Ent} {k : Nat} {x : Ent} (h : b[k]? = some x) : jnS a (b.take (k + 1)) = putS x (jnS a (b.take k)) := by
  unfold jnS
  rw [take_snoc h, List.foldl_append]; rfl
theorem jn_len (b : List Ent) : ∀ a, (jnS a b).length ≤ a.length + b.length := by
  induction b with
  | nil => intro a; exact Nat.le_refl _
  | cons x b ih =>
    intro a
    have := ih (putS x a)
    have h2 := putS_len x a
    unfold jnS at this ⊢
    rw [List.foldl_cons, List.length_cons]; omega
theorem rJoin10_c {a b : List Ent} {ta tb : Bool} {σ : Store} (ea : ∀ x ∈ a, EntSm x) (eb : ∀ x ∈ b, EntSm x) (la : a.length ≤ 100000) (lb : b.length ≤ 100000) : ACalls Tryz.prog 30 [.sl 4 (a.map sEnt) ta, .sl 4 (b.map sEnt) tb] σ fun v σ' => v = .tup [.sl 4 ((joinR a b).1.map sEnt) false, vInt (joinR a b).2] ∧ σ = σ' := by
  refine ACalls_of Tryz.func30 rfl Tryz.ntmps30 (congrArg Array.toList Tryz.results30) (by simp only [List.length_cons, List.length_nil]; decide) ?_; simp only [envOf_cons, envOf_nil, Nat.reduceAdd]
  refine awp_seq ?_
  refine awp_region (by kernel_rfl) ?_
  iterate 2 (refine aL_S rfl rfl v_ ?_)
  refine aL_nil ?_
  refine awp_seq ?_
  refine awp_seq ?_
  refine awp_region (by kernel_rfl) ?_
  (refine aL_S rfl rfl v_ ?_)
  refine aL_X rfl rfl (AOp_use rfl rfl (.inr ⟨rfl, rfl, rfl⟩) g_ va_ (rMay10_c ea (by omega)) ?_); rintro _ _ ⟨rfl, rfl⟩
  iterate 2 (refine aL_S rfl rfl v_ ?_)
  refine aL_GF rfl rfl v_ rfl vg_ ?_
  refine aL_GFX rfl rfl v_ rfl (fun hb => AOp_useV (by rfl) (by rfl) (.inr ⟨by rfl, by rfl, by rfl⟩) g_ cg_ (rMay10_c eb (by omega))) ?_
  refine aL_GF rfl rfl v_ rfl vg_ ?_
  (refine aL_S rfl rfl v_ ?_)
  refine aL_nil ?_
  refine awp_cond v_ (fun hc1 => ?_) (fun hc1 => ?_)
  · replace hc1 := nm_ hc1
    refine awp_seq ?_
    refine awp_region (by kernel_rfl) ?_
    iterate 2 (refine aL_S rfl rfl v_ ?_)
    refine aL_nil ?_
    refine awp_ret ?_
    have hn : joinR a b = ([], 1) := by rw [joinR, if_neg (by rintro ⟨g1, g2⟩; simp [g1, g2] at hc1)]
    exact aEnd_retW (v := .tup [.sl 4 ((joinR a b).1.map sEnt) false, vInt (joinR a b).2]) (v' := .tup [vNil, vInt 1]) va_ (by rw [hn]; exact wkTupNil 1) sub_ ⟨rfl, rfl⟩
  · replace hc1 := nm_ hc1
    refine awp_skip ?_
    refine awp_seq ?_
    refine awp_region (by kernel_rfl) ?_
    refine aL_nilOwn 45 4 rfl rfl rfl (by rfl) fun k6 hk6 => ?_
    refine aL_nil ?_
    refine awp_seq ?_
    refine awp_region (by kernel_rfl) ?_
    iterate 2 (refine aL_S rfl rfl v_ ?_)
    refine aL_append rfl rfl rfl g_ g_ v_ h_ va_ (oneEnt _) (by simp; omega) fun k18 hk18 => ?_
    have t18 := (newTok_none hk18).2
    refine aL_X rfl rfl (AOp_wk (a := .own k18 4 (a.map sEnt)) (AOp_val (by rfl) ⟨rfl, rfl⟩) (.own1 _ _ _) ?_)
    refine aL_nil ?_
    refine awp_seq ?_
    refine awp_seq ?_
    refine awp_region (by kernel_rfl) ?_
    (refine aL_S rfl rfl v_ ?_)
    refine aL_nil ?_
    refine awp_block ?_
    refine awp_loop_env (ι := Nat) (fun i => b.length - i) (fun i => i ≤ b.length) (fun i => [(1, .sl 4 (b.map sEnt) tb), (6, .sl 4 ((jnS a (b.take i)).map sEnt) false), (7, vInt i)]) (fun i => σ) 0 ?_ ?_ ?_ ?_
    · exact Nat.zero_le _
    · exact cv_
    · exact sub_
    rintro i hi
    simp only [envL_cons, envL_nil]
    refine awp_seq ?_
    refine awp_seq ?_
    refine awp_region (by kernel_rfl) ?_
    iterate 4 (refine aL_S rfl rfl v_ ?_)
    refine aL_nil ?_
    refine awp_cond v_ (fun hc6 => ?_) (fun hc6 => ?_)
    · replace hc6 := nm_ hc6
      refine awp_skip ?_
      refine awp_seq ?_
      refine awp_block ?_
      obtain ⟨x, hx⟩ := get_some (l := b) (k := i) (by omega)
      have hst := jn_snoc (a := a) hx
      have hle := jn_len (b.take i) a
      rw [List.length_take] at hle
      have R := hx
      refine awp_region (by kernel_rfl) ?_
      iterate 5 (refine aL_S rfl rfl v_ ?_)
      refine aL_X rfl rfl (AOp_use rfl rfl (.inr ⟨rfl, rfl, rfl⟩) g_ va_ (put_c (y := x) (by omega)) ?_); rintro _ _ ⟨rfl, rfl⟩
      (refine aL_S rfl rfl v_ ?_)
      refine aL_nil ?_
      refine awp_region (by kernel_rfl) ?_
      iterate 3 (refine aL_S rfl rfl v_ ?_)
      refine aL_nil ?_
      refine aNext (ι := Nat) (i := i) (i + 1) ?_ ?_ ?_ ?_
      · omega
      · exact (by omega)
      · have R := hst; exact cv_
      · exact sub_
    · replace hc6 := nm_ hc6
      refine awp_exit ?_
      refine aThen_exit ?_
      refine aThen_exit ?_
      refine aBlock_hit ?_
      refine awp_seq ?_
      refine awp_seq ?_
      obtain rfl : i = b.length := by omega
      rw [List.take_length]
      refine awp_region (by kernel_rfl) ?_
      iterate 3 (refine aL_S rfl rfl v_ ?_)
      refine aL_nil ?_
      refine awp_cond v_ (fun hc9 => ?_) (fun hc9 => ?_)
      · replace hc9 := nm_ hc9
        refine awp_seq ?_
        refine awp_region (by kernel_rfl) ?_
        iterate 2 (refine aL_S rfl rfl v_ ?_)
        refine aL_nil ?_
        refine awp_ret ?_
        have hn : joinR a b = ([], 4) := by rw [joinR, if_pos hc1, if_pos (by omega)]
        exact aEnd_retW (v := .tup [.sl 4 ((joinR a b).1.map sEnt) false, vInt (joinR a b).2]) (v' := .tup [vNil, vInt 4]) va_ (by rw [hn]; exact wkTupNil 4) sub_ ⟨rfl, rfl⟩
      · replace hc9 := nm_ hc9
        refine awp_skip ?_
        refine awp_seq ?_
        refine awp_region (by kernel_rfl) ?_
        iterate 3 (refine aL_S rfl rfl v_ ?_)
        refine aL_nil ?_
        refine awp_ret ?_
        refine aEnd_ret (σ' := σ) v_ sub_ ?_
        exact ⟨by rw [joinR, if_pos hc1, if_neg (by omega)], rfl⟩
end Go.Proofs.YtkcmbjodladflaaGreatDoor
end

section
set_option linter.all false
set_option maxRecDepth 100000
namespace Go.Proofs.YtkcmbjodladflaaGreatDoor
open Go.Ab
/-! ### one order -/
def insE (x : Ent) : List Ent → List Ent
  | [] => [x]
  | y :: l => if sLt y.key x.key = true then y :: insE x l else x :: y :: l
def sortE (l : List Ent) : List Ent := l.foldr insE []
def StrE (L : List Ent) : Prop := L.Pairwise fun x y => sLt x.key y.key = true
theorem insE_perm (x : Ent) : ∀ l : List Ent, (insE x l).Perm (x :: l)
  | [] => .refl _
  | y :: l => by
    unfold insE
    split
    · exact ((insE_perm x l).cons y).trans (.swap ..)
    · exact .refl _
theorem sortE_perm : ∀ l : List Ent, (sortE l).Perm l
  | [] => .refl _
  | x :: l => (insE_perm x _).trans ((sortE_perm l).cons x)
theorem srt_uniq {L L0 M : List Ent} (hp : L.Perm M) (hs : SrtE L) (hp0 : L0.Perm M) (h0 : StrE L0) : L = L0 := by
  have hnd : (L.map Ent.key).Nodup := by
    have h1 : (L0.map Ent.key).Nodup := by
      unfold List.Nodup
      rw [List.pairwise_map]
      exact h0.imp fun {a b} h e => by rw [e, sLt_irrefl] at h; cases h
    exact ((hp.trans hp0.symm).map Ent.key).nodup_iff.2 h1
  have hL : StrE L := by
    unfold List.Nodup at hnd
    rw [List.pairwise_map] at hnd
    exact List.pairwise_and_iff.2 ⟨hs, hnd⟩ |>.imp fun {a b} h => sLt_tri h.1 (fun e => h.2 e.symm)
  exact rise_unique (r := fun x y : Ent => sLt x.key y.key = true) (fun a => by rw [sLt_irrefl]; simp) (fun a b c h1 h2 => sLt_trans h1 h2) hL h0 fun x => by rw [hp.mem_iff, hp0.mem_iff]
def strB : List Ent → Bool
  | x :: y :: l => sLt x.key y.key && strB (y :: l)
  | _ => true
theorem strB_ok : ∀ {l : List Ent}, strB l = true → StrE l
  | [], _ => .nil
  | [x], _ => List.pairwise_singleton _ _
  | x :: y :: l, h => by
    unfold strB at h
    rw [Bool.and_eq_true] at h
    have ih := strB_ok h.2
    refine List.pairwise_cons.2 ⟨fun z hz => ?_, ih⟩
    rcases List.mem_cons.1 hz with rfl | hz
    · exact h.1
    · exact sLt_trans h.1 ((List.pairwise_cons.1 ih).1 z hz)
/-! ### the kernel's reckoning -/
def entGoT : Nat → List ByteArray → List Ent
  | _, [] => []
  | k, s :: l => if nameOk s = true then ⟨ringT k, 1, ⟨#[]⟩, s⟩ :: entGoT (k + 1) l else entGoT (k + 1) l
theorem entGo_T : ∀ {l : List ByteArray} {k : Nat}, k + l.length ≤ 20 → entGo k l = entGoT k l
  | [], k, _ => rfl
  | s :: l, k, h => by
    rw [List.length_cons] at h
    unfold entGo entGoT
    rw [ringK_T (by omega), entGo_T (k := k + 1) (by omega)]
abbrev n1 : ByteArray := ⟨#[110, 49]⟩
abbrev n2 : ByteArray := ⟨#[110, 50]⟩
abbrev mb1 : Mbr := ⟨n1, ⟨#[114]⟩, ⟨#[122]⟩, true⟩
abbrev mb2 : Mbr := ⟨n2, ⟨#[114]⟩, ⟨#[122]⟩, false⟩
def ev12 : List ByteArray := [n1, n2, n1, n2, n1, n2, n1, n2, n1, n2, n1, n2, n1, n2, n1, n2]
theorem ev_eq : evenS ow0 [n1, n2] = ev12 := by kernel_rfl
def l41 : List Ent := sortE ([mb1, mb2].map nodeE ++ entGoT 0 ev12)
theorem l41_eq {L : List Ent} (hp : L.Perm ([mb1, mb2].map nodeE ++ entGo 0 (evenS ow0 [n1, n2]))) (hs : SrtE L) : L = l41 := by
  rw [ev_eq, entGo_T (by decide)] at hp
  exact srt_uniq hp hs (sortE_perm _) (strB_ok (by kernel_rfl))
theorem l41_ok : entsOk l41 = true := by kernel_rfl
theorem l41_len : l41.length = 18 := by kernel_rfl
abbrev ad6 : Adm := ⟨6, ⟨#[]⟩, ⟨#[]⟩, ⟨#[]⟩, ⟨#[]⟩, 0, ⟨n2, ⟨#[]⟩, ⟨#[]⟩, false⟩⟩
abbrev ad7 : Adm := ⟨7, ⟨#[]⟩, ⟨#[]⟩, ⟨#[]⟩, ⟨#[]⟩, 0, zeroM⟩
abbrev ad0 : Adm := ⟨0, ⟨#[]⟩, ⟨#[]⟩, ⟨#[]⟩, ⟨#[]⟩, 0, zeroM⟩
abbrev x41 : Ent := ⟨⟨#[110, 111, 100, 101, 47, 110, 50]⟩, 2, n1, bsGone⟩
theorem gone41 : adS l41 n1 ad6 = ([x41], 0) := by kernel_rfl
def m41 : List Ent := putS x41 l41
theorem join41 : joinR l41 [x41] = (m41, 0) := by kernel_rfl
theorem bad41 : adS m41 n1 ad0 = ([], 1) := by kernel_rfl
def clMvT (l : List Ent) (who : ByteArray) (ms : List Mv) : List Ent × Int := ms.foldl (fun s x => adPut s (setS l who (ringT x.part) x.now)) ([], 0)
theorem clMv_T {l : List Ent} {who : ByteArray} {ms : List Mv} (h : ∀ x ∈ ms, x.part < 16) : clMv l who ms = clMvT l who ms := by
  unfold clMv clMvT
  have key : ∀ (ms : List Mv) (s : List Ent × Int), (∀ x ∈ ms, x.part < 16) → ms.foldl (fun s x => adPut s (setS l who (ringK x.part) x.now)) s = ms.foldl (fun s x => adPut s (setS l who (ringT x.part) x.now)) s := by
    intro ms
    induction ms with
    | nil => intro s _; rfl
    | cons x ms ih =>
      intro s h
      rw [List.foldl_cons, List.foldl_cons, ringK_T (by have := h x (.head _); omega)]
      exact ih _ fun y hy => h y (.tail _ hy)
  exact key ms _ h
def pl41 : List Mv := planS ((List.range 16).map (ownKT m41)) (evenS ((List.range 16).map (ownKT m41)) [n1])
theorem claim41 : adS m41 n1 ad7 = clMvT m41 n1 pl41 ∧ (clMvT m41 n1 pl41).2 = 0 ∧ (clMvT m41 n1 pl41).1.length = 8 ∧ ((clMvT m41 n1 pl41).1.headD zeroR).value = n1 := by
  have hn : nmsS m41 = [n1] := by kernel_rfl
  have hp : clPlan m41 = pl41 := by unfold clPlan; rw [ownersT, hn]; rfl
  have hc : adClaim m41 n1 = clMvT m41 n1 pl41 := by
    have h1 : ¬ (memsS m41).length = 0 := by
      have := congrArg List.length hn
      rw [nmsS, List.length_map] at this
      rw [this]; decide
    rw [adClaim, if_neg h1, hp, clMv_T (fun x hx => by rw [← hp] at hx; exact cl_part hx)]
  have h0 : (clMvT m41 n1 pl41).2 = 0 := by kernel_rfl
  refine ⟨?_, h0, by kernel_rfl, by kernel_rfl⟩
  have ha : adAll m41 n1 ad7 = clMvT m41 n1 pl41 := by rw [← hc]; rfl
  rw [adS, if_pos ⟨by kernel_rfl, by kernel_rfl⟩, ha, if_pos h0]
  exact Prod.ext rfl h0.symm
end Go.Proofs.YtkcmbjodladflaaGreatDoor
end

section
set_option linter.all false
set_option maxRecDepth 100000
namespace Go.Proofs.YtkcmbjodladflaaGreatDoor
open Go.Ab
theorem up_all {α : Type} {ok : α → Bool} {key : α → ByteArray} : ∀ {l : List α} {pv : Option ByteArray}, upGo ok key pv l = true → ∀ x ∈ l, ok x = true
  | [], _, _, x, h => by cases h
  | y :: l, pv, hu, x, h => by
    unfold upGo at hu
    simp only [Bool.and_eq_true] at hu
    rcases List.mem_cons.1 h with rfl | h
    · exact hu.1.1
    · exact up_all hu.2 x h
theorem ents_sm {l : List Ent} (h : entsOk l = true) : ∀ x ∈ l, EntSm x ∧ x.key.size ≤ 128 ∧ x.value.size ≤ 256 := fun x hx => by
  unfold entsOk at h
  rw [Bool.and_eq_true] at h
  have := up_all h.2 x hx
  unfold entOk regOk at this
  simp only [Bool.and_eq_true, Bool.or_eq_true, decide_eq_true_eq] at this
  obtain ⟨⟨h1, h2⟩, ⟨⟨h3, h4⟩, h5⟩, h6⟩ := this
  have hw : x.who.size ≤ 16 := by
    rcases h5 with h5 | h5
    · omega
    · exact (name_size h5).2
  exact ⟨⟨by omega, by omega, by omega⟩, h2, h6⟩
theorem m41_ok : entsOk m41 = true := by kernel_rfl
theorem m41_len : m41.length = 18 := by kernel_rfl
theorem x41_sm : ∀ x ∈ [x41], EntSm x := fun x hx => by rw [List.mem_singleton.1 hx]; exact ⟨by decide, by decide, by decide⟩
theorem ad_sm {k : Int} {m : Mbr} (h1 : m.name.size ≤ 16) (h2 : m.rack.size ≤ 16) (h3 : m.zone.size ≤ 16) : AdmSm ⟨k, ⟨#[]⟩, ⟨#[]⟩, ⟨#[]⟩, ⟨#[]⟩, 0, m⟩ :=
  ⟨Nat.zero_le _, Nat.zero_le _, Nat.zero_le _, Nat.zero_le _, (show (-9223372036854775808 : Int) ≤ 0 by decide), (show (0 : Int) ≤ 9223372036854775807 by decide), Nat.le_trans h1 (by decide), Nat.le_trans h2 (by decide), Nat.le_trans h3 (by decide)⟩
theorem gone_sm : bsGone = ⟨#[103, 111, 110, 101]⟩ := rfl
set_option maxHeartbeats 1000000 in
theorem awake41_c {σ : Store} : ACalls Tryz.prog 10 [] σ fun v σ' => v = vB true ∧ σ = σ' := by
  have el := ents_sm l41_ok
  have em := ents_sm m41_ok
  obtain ⟨c1, c2, c3, c4⟩ := claim41
  generalize clMvT m41 n1 pl41 = Y at c1 c2 c3 c4
  obtain ⟨y0, hy0, hyv⟩ : ∃ y, Y.1[0]? = some y ∧ y.value = n1 := by
    match h : Y.1, c3, c4 with
    | y :: r, _, h4 => exact ⟨y, rfl, h4⟩
  refine ACalls_of Tryz.func10 rfl Tryz.ntmps10 (congrArg Array.toList Tryz.results10) (by simp only [List.length_cons, List.length_nil]; decide) ?_; simp only [envOf_cons, envOf_nil, Nat.reduceAdd]
  refine awp_seq ?_
  refine awp_region (by kernel_rfl) ?_
  (refine aL_S rfl rfl v_ ?_)
  refine aL_nil ?_
  refine awp_seq ?_
  refine awp_region (by kernel_rfl) ?_
  iterate 2 (refine aL_S rfl rfl v_ ?_)
  refine aL_buildSlice rfl rfl rfl g_ g_ rfl rfl h_ c2_ (by decide) ?_
  refine aL_X rfl rfl (AOp_use rfl rfl (.inr ⟨rfl, rfl, rfl⟩) g_ va_ (firstNil_c (ms := [mb1, mb2]) (by decide) (by decide) (fun m hm => by rcases List.mem_cons.1 hm with rfl | hm; exact ⟨by kernel_rfl, by kernel_rfl, by kernel_rfl⟩; rw [List.mem_singleton.1 hm]; exact ⟨by kernel_rfl, by kernel_rfl, by kernel_rfl⟩) (fun k m hm => by match k, hm with | 0, hm => rfl | 1, hm => obtain rfl := Option.some.inj hm; rfl) (by show 0 < (entGo 0 (evenS ow0 [n1, n2])).length; rw [ev_eq, entGo_T (by decide)]; decide) (by show ∀ s ∈ evenS ow0 [n1, n2], s.size ≤ 1000; rw [ev_eq]; decide)) ?_); rintro _ _ ⟨⟨L, p1, p2, rfl⟩, rfl⟩
  obtain rfl := l41_eq p1 p2
  rw [if_pos l41_ok, if_pos l41_ok]
  iterate 5 (refine aL_S rfl rfl v_ ?_)
  refine aL_nil ?_
  refine awp_seq ?_
  refine awp_region (by kernel_rfl) ?_
  iterate 3 (refine aL_S rfl rfl v_ ?_)
  refine aL_X rfl rfl (AOp_use rfl rfl (.inr ⟨rfl, rfl, rfl⟩) g_ va_ (adEntries_c (l := l41) (t := false) (who := n1) (a := ad6) (fun x hx => (el x hx).1) (fun x hx => by have := (el x hx).2; omega) (by rw [l41_len]; decide) (by decide) (ad_sm (by decide) (by decide) (by decide))) ?_); rintro _ _ ⟨rfl, rfl⟩
  rw [gone41]
  iterate 5 (refine aL_S rfl rfl v_ ?_)
  refine aL_nil ?_
  refine awp_seq ?_
  refine awp_region (by kernel_rfl) ?_
  iterate 2 (refine aL_S rfl rfl v_ ?_)
  refine aL_X rfl rfl (AOp_use rfl rfl (.inr ⟨rfl, rfl, rfl⟩) g_ va_ (rJoin10_c (a := l41) (b := [x41]) (fun x hx => (el x hx).1) x41_sm (by rw [l41_len]; decide) (by decide)) ?_); rintro _ _ ⟨rfl, rfl⟩
  rw [join41]
  iterate 5 (refine aL_S rfl rfl v_ ?_)
  refine aL_nil ?_
  refine awp_seq ?_
  refine awp_region (by kernel_rfl) ?_
  iterate 2 (refine aL_S rfl rfl v_ ?_)
  refine aL_X rfl rfl (AOp_use rfl rfl (.inr ⟨rfl, rfl, rfl⟩) g_ va_ (adEntries_c (l := m41) (t := false) (who := n1) (a := ad7) (fun x hx => (em x hx).1) (fun x hx => by have := (em x hx).2; omega) (by rw [m41_len]; decide) (by decide) (ad_sm (by decide) (by decide) (by decide))) ?_); rintro _ _ ⟨rfl, rfl⟩
  rw [c1, c2]
  iterate 5 (refine aL_S rfl rfl v_ ?_)
  refine aL_nil ?_
  refine awp_seq ?_
  refine awp_region (by kernel_rfl) ?_
  iterate 2 (refine aL_S rfl rfl v_ ?_)
  refine aL_X rfl rfl (AOp_use rfl rfl (.inr ⟨rfl, rfl, rfl⟩) g_ va_ (adEntries_c (l := m41) (t := false) (who := n1) (a := ad0) (fun x hx => (em x hx).1) (fun x hx => by have := (em x hx).2; omega) (by rw [m41_len]; decide) (by decide) (ad_sm (by decide) (by decide) (by decide))) ?_); rintro _ _ ⟨rfl, rfl⟩
  rw [bad41]
  iterate 5 (refine aL_S rfl rfl v_ ?_)
  refine aL_nil ?_
  refine awp_seq ?_
  have R := And.intro l41_len (And.intro c3 (And.intro hy0 (And.intro hyv gone_sm)))
  refine awp_region (by kernel_rfl) ?_
  iterate 3 (refine aL_S rfl rfl v_ ?_)
  refine aL_SY (wantedA_yes rfl rfl v_ (by rfl)) rfl v_ ?_
  refine aL_SY (wantedA_yes rfl rfl v_ (by rfl)) rfl v_ ?_
  iterate 2 (refine aL_S rfl rfl v_ ?_)
  refine aL_SY (wantedA_yes rfl rfl v_ (by rfl)) rfl v_ ?_
  refine aL_SY (wantedA_yes rfl rfl v_ (by rfl)) rfl v_ ?_
  iterate 2 (refine aL_S rfl rfl v_ ?_)
  refine aL_SY (wantedA_yes rfl rfl v_ (by rfl)) rfl v_ ?_
  refine aL_SY (wantedA_yes rfl rfl v_ (by rfl)) rfl v_ ?_
  iterate 2 (refine aL_S rfl rfl v_ ?_)
  refine aL_SY (wantedA_yes rfl rfl v_ (by rfl)) rfl v_ ?_
  refine aL_SY (wantedA_yes rfl rfl v_ (by rfl)) rfl v_ ?_
  iterate 2 (refine aL_S rfl rfl v_ ?_)
  refine aL_SY (wantedA_yes rfl rfl v_ (by rfl)) rfl v_ ?_
  refine aL_SY (wantedA_yes rfl rfl v_ (by rfl)) rfl v_ ?_
  refine aL_SY (wantedA_yes rfl rfl v_ (by rfl)) rfl v_ ?_
  iterate 2 (refine aL_S rfl rfl v_ ?_)
  refine aL_SY (wantedA_yes rfl rfl v_ (by rfl)) rfl v_ ?_
  refine aL_SY (wantedA_yes rfl rfl v_ (by rfl)) rfl v_ ?_
  refine aL_SY (wantedA_yes rfl rfl v_ (by rfl)) rfl v_ ?_
  iterate 2 (refine aL_S rfl rfl v_ ?_)
  refine aL_SY (wantedA_yes rfl rfl v_ (by rfl)) rfl v_ ?_
  refine aL_SY (wantedA_yes rfl rfl v_ (by rfl)) rfl v_ ?_
  refine aL_SY (wantedA_yes rfl rfl v_ (by rfl)) rfl v_ ?_
  refine aL_SY (wantedA_yes rfl rfl v_ (by rfl)) rfl v_ ?_
  refine aL_SY (wantedA_yes rfl rfl v_ (by rfl)) rfl v_ ?_
  refine aL_SY (wantedA_yes rfl rfl v_ (by rfl)) rfl v_ ?_
  iterate 2 (refine aL_S rfl rfl v_ ?_)
  refine aL_SY (wantedA_yes rfl rfl v_ (by rfl)) rfl v_ ?_
  refine aL_SY (wantedA_yes rfl rfl v_ (by rfl)) rfl v_ ?_
  refine aL_SY (wantedA_yes rfl rfl v_ (by rfl)) rfl v_ ?_
  iterate 2 (refine aL_S rfl rfl v_ ?_)
  refine aL_SY (wantedA_yes rfl rfl v_ (by rfl)) rfl v_ ?_
  refine aL_SY (wantedA_yes rfl rfl v_ (by rfl)) rfl v_ ?_
  refine aL_SY (wantedA_yes rfl rfl v_ (by rfl)) rfl v_ ?_
  refine aL_SY (wantedA_yes rfl rfl v_ (by rfl)) rfl v_ ?_
  refine aL_SY (wantedA_yes rfl rfl v_ (by rfl)) rfl v_ ?_
  refine aL_SY (wantedA_yes rfl rfl v_ (by rfl)) rfl v_ ?_
  iterate 2 (refine aL_S rfl rfl v_ ?_)
  refine aL_nil ?_
  refine awp_ret ?_
  refine aEnd_ret (σ' := σ) v_ sub_ ?_
  exact ⟨rfl, rfl⟩
end Go.Proofs.YtkcmbjodladflaaGreatDoor
end

section
set_option linter.all false
set_option maxRecDepth 100000
namespace Go.Proofs.YtkcmbjodladflaaGreatDoor
open Go.Ab
structure SetOk (l : List Ent) (who k v : ByteArray) (y : Ent) : Prop where
  key : y.key = k
  who : y.who = who
  value : y.value = v
  newer : newerS y (getS l k) = true
  ok : entOk y = true
theorem set_ok {l : List Ent} {who k v : ByteArray} (h : (setS l who k v).2 = 0) : SetOk l who k v (setS l who k v).1 := by
  unfold setS at h ⊢
  split at h
  · cases h
  · rename_i h1
    split at h
    · rename_i h2; exact absurd h h2
    · rename_i h2
      rw [if_neg h1, if_neg h2]
      have h2' : (nextS (getS l k) who v).2 = 0 := by simpa using h2
      unfold nextS at h2' ⊢
      split at h2'
      · cases h2'
      · rename_i h3
        split at h2'
        · cases h2'
        · rename_i h4
          rw [if_neg h3, if_neg h4]
          simp only [Bool.or_eq_true, Bool.and_eq_true, Bool.not_eq_true', decide_eq_true_eq, not_or, not_and, Bool.not_eq_false] at h1 h3
          obtain ⟨⟨h11, h12⟩, h13⟩ := h1
          obtain ⟨⟨h31, h32⟩, h33⟩ := h3
          have hn0 : 0 ≤ (getS l k).n := by
            cases hz : regZ (getS l k) with
            | true => unfold regZ at hz; simp only [Bool.and_eq_true, decide_eq_true_eq] at hz; omega
            | false => have := regOk_n (h31 hz); omega
          refine ⟨rfl, rfl, rfl, ?_, ?_⟩
          · unfold newerS
            simp only
            rw [if_pos (by omega)]
            exact decide_eq_true (by omega)
          · unfold entOk regOk
            simp only
            rw [h32]
            simp only [Bool.and_eq_true, Bool.or_true, decide_eq_true_eq]
            exact ⟨⟨by omega, by omega⟩, ⟨⟨by omega, by omega⟩, trivial⟩, by omega⟩
/-! ### puts -/
theorem up_put {y : Ent} (hy : entOk y = true) : ∀ {l : List Ent} {pv : Option ByteArray}, upGo entOk Ent.key pv l = true → aheadOk pv y.key = true → upGo entOk Ent.key pv (putS y l) = true
  | [], pv, _, ha => by simp [putS, upGo, hy, ha]
  | x :: l, pv, h, ha => by
    unfold upGo at h
    simp only [Bool.and_eq_true] at h
    obtain ⟨⟨h1, h2⟩, h3⟩ := h
    unfold putS
    split
    · rename_i hlt
      unfold upGo
      rw [h1, h2, up_put hy h3 hlt]; rfl
    · rename_i hlt
      split
      · rename_i he
        split
        · unfold upGo
          rw [hy, ha, ← he, h3]; rfl
        · unfold upGo
          rw [h1, h2, h3]; rfl
      · rename_i he
        have : sLt y.key x.key = true := sLt_tri (by simpa using hlt) he
        unfold upGo upGo
        rw [hy, ha, h1, h3, show aheadOk (some y.key) x.key = true from this]; rfl
theorem put_ents {y : Ent} {l : List Ent} (hy : entOk y = true) (h : entsOk l = true) (hl : l.length < 4096) : entsOk (putS y l) = true := by
  unfold entsOk at h ⊢
  simp only [Bool.and_eq_true, decide_eq_true_eq] at h ⊢
  have := putS_len y l
  exact ⟨by omega, up_put hy h.2 rfl⟩
theorem get_put {y : Ent} : ∀ {l : List Ent}, newerS y (getS l y.key) = true → getS (putS y l) y.key = y
  | [], _ => by simp [putS, getS]
  | x :: l, h => by
    unfold putS
    split
    · rename_i hlt
      have hne : ¬ x.key = y.key := fun e => by rw [e, sLt_irrefl] at hlt; cases hlt
      have e1 : getS (x :: l) y.key = getS l y.key := by unfold getS; rw [List.find?_cons, decide_eq_false hne]
      have e2 : getS (x :: putS y l) y.key = getS (putS y l) y.key := by unfold getS; rw [List.find?_cons, decide_eq_false hne]
      rw [e1] at h
      rw [e2]; exact get_put h
    · split
      · rename_i he
        have e1 : getS (x :: l) y.key = x := by unfold getS; rw [List.find?_cons, decide_eq_true he]; rfl
        rw [e1] at h
        rw [if_pos h]
        unfold getS; rw [List.find?_cons, decide_eq_true rfl]; rfl
      · unfold getS; rw [List.find?_cons, decide_eq_true rfl]; rfl
theorem newer_irrefl (a : Ent) : newerS a a = false := by
  unfold newerS
  simp [sLt_irrefl]
/-! ### many puts -/
structure PutsOk (l xs : List Ent) : Prop where
  ok : ∀ x ∈ xs, entOk x = true ∧ newerS x (getS l x.key) = true
  apart : (xs.map Ent.key).Nodup
theorem jn_get_other {xs : List Ent} {k : ByteArray} : ∀ {l : List Ent}, (∀ x ∈ xs, x.key ≠ k) → getS (jnS l xs) k = getS l k := by
  induction xs with
  | nil => intro l _; rfl
  | cons x xs ih =>
    intro l h
    have : jnS l (x :: xs) = jnS (putS x l) xs := rfl
    rw [this, ih fun y hy => h y (.tail _ hy), putS_get (h x (.head _))]
theorem PutsOk.tail {l xs : List Ent} {x : Ent} (h : PutsOk l (x :: xs)) : PutsOk (putS x l) xs := by
  have hn := h.apart
  rw [List.map_cons, List.nodup_cons] at hn
  refine ⟨fun y hy => ?_, hn.2⟩
  have h1 := h.ok y (.tail _ hy)
  have hne : x.key ≠ y.key := fun e => hn.1 (by rw [e]; exact List.mem_map_of_mem hy)
  rw [putS_get hne]; exact h1
theorem jn_get {xs : List Ent} : ∀ {l : List Ent}, PutsOk l xs → ∀ x ∈ xs, getS (jnS l xs) x.key = x := by
  induction xs with
  | nil => intro l _ x hx; cases hx
  | cons y xs ih =>
    intro l h x hx
    have e : jnS l (y :: xs) = jnS (putS y l) xs := rfl
    rw [e]
    rcases List.mem_cons.1 hx with rfl | hx
    · have hn := h.apart
      rw [List.map_cons, List.nodup_cons] at hn
      rw [jn_get_other fun z hz e => hn.1 (by rw [← e]; exact List.mem_map_of_mem hz)]
      exact get_put (h.ok x (.head _)).2
    · exact ih h.tail x hx
theorem jn_ok {xs : List Ent} : ∀ {l : List Ent}, PutsOk l xs → entsOk l = true → l.length + xs.length < 4096 → entsOk (jnS l xs) = true := by
  induction xs with
  | nil => intro l _ h _; exact h
  | cons y xs ih =>
    intro l h hl hn
    have e : jnS l (y :: xs) = jnS (putS y l) xs := rfl
    rw [e]
    rw [List.length_cons] at hn
    have := putS_len y l
    exact ih h.tail (put_ents (h.ok y (.head _)).1 hl (by omega)) (by omega)
theorem PutsOk.take {l xs : List Ent} (h : PutsOk l xs) (k : Nat) : PutsOk l (xs.take k) :=
  ⟨fun x hx => h.ok x (List.mem_of_mem_take hx), by rw [List.map_take]; exact h.apart.sublist (List.take_sublist ..)⟩
/-! ### what an administrator sets -/
theorem clMv_ok {l : List Ent} {who : ByteArray} : ∀ (ms : List Mv) (s : List Ent × Int), (ms.foldl (fun s x => adPut s (setS l who (ringK x.part) x.now)) s).2 = 0 → s.2 = 0 ∧ (ms.foldl (fun s x => adPut s (setS l who (ringK x.part) x.now)) s).1 = s.1 ++ ms.map (fun x => (setS l who (ringK x.part) x.now).1) ∧ ∀ x ∈ ms, (setS l who (ringK x.part) x.now).2 = 0
  | [], s, h => ⟨h, by simp, fun x hx => by cases hx⟩
  | x :: ms, s, h => by
    rw [List.foldl_cons] at h ⊢
    obtain ⟨h1, h2, h3⟩ := clMv_ok ms _ h
    unfold adPut at h1 h2
    split at h1
    · rename_i hs
      rw [if_pos hs] at h2
      unfold adPut
      rw [if_pos hs]
      refine ⟨hs, by rw [h2]; simp, fun y hy => ?_⟩
      rcases List.mem_cons.1 hy with rfl | hy
      · exact h1
      · exact h3 y hy
    · rename_i hs
      exact absurd h1 hs
theorem plan_parts : ∀ {a b : List ByteArray} {j : Nat}, (planGo j a b).Pairwise fun x y => x.part < y.part
  | [], b, j => by unfold planGo; exact .nil
  | u :: a, [], j => by unfold planGo; exact .nil
  | u :: a, v :: b, j => by
    have ih := plan_parts (a := a) (b := b) (j := j + 1)
    unfold planGo
    split
    · exact ih
    · exact List.pairwise_cons.2 ⟨fun y hy => by have := (plan_mem hy).1; show j < y.part; omega, ih⟩
theorem ring_inj : ∀ i < 16, ∀ j < 16, ringT i = ringT j → i = j := by decide
theorem setK {l : List Ent} {who k v : ByteArray} (h : (setS l who k v).2 = 0) : PutsOk l [(setS l who k v).1] := by
  have := set_ok h
  refine ⟨fun x hx => ?_, by simp⟩
  rw [List.mem_singleton.1 hx]
  exact ⟨this.ok, by rw [this.key]; exact this.newer⟩
end Go.Proofs.YtkcmbjodladflaaGreatDoor
end

section
set_option linter.all false
set_option maxRecDepth 100000
namespace Go.Proofs.YtkcmbjodladflaaGreatDoor
open Go.Ab
theorem adPut_one {r : Ent × Int} : adPut ([], 0) r = ([r.1], r.2) := by simp [adPut]
theorem sec_put {l : List Ent} {who a b : ByteArray} (h : (secS l who a b).2 = 0) : PutsOk l [(secS l who a b).1] ∧ (secS l who a b).1.who = who := by
  unfold secS at h ⊢
  split at h
  · cases h
  · rename_i h1; rw [if_neg h1]; exact ⟨setK h, (set_ok h).who⟩
theorem limit_put {l : List Ent} {who a b : ByteArray} {n : Int} (h : (limitS l who a b n).2 = 0) : PutsOk l [(limitS l who a b n).1] ∧ (limitS l who a b n).1.who = who := by
  unfold limitS at h ⊢
  split at h
  · cases h
  · rename_i h1; rw [if_neg h1]; exact ⟨setK h, (set_ok h).who⟩
theorem prp_put {l : List Ent} {who a b f : ByteArray} {n : Int} (h : (prpSet l who a b f n).2 = 0) : PutsOk l [(prpSet l who a b f n).1] ∧ (prpSet l who a b f n).1.who = who := by
  unfold prpSet at h ⊢
  split at h
  · rename_i h1; rw [if_pos h1]; exact ⟨setK h, (set_ok h).who⟩
  · cases h
theorem acc_put {l : List Ent} {who a b f : ByteArray} {n : Int} (h : (accSet l who a b f n).2 = 0) : PutsOk l [(accSet l who a b f n).1] ∧ (accSet l who a b f n).1.who = who := by
  unfold accSet at h ⊢
  split at h
  · rename_i h1; rw [if_pos h1]; exact ⟨setK h, (set_ok h).who⟩
  · cases h
/-- what is set: may be put, and is who's -/
structure AdPuts (l : List Ent) (who : ByteArray) (xs : List Ent) : Prop where
  puts : PutsOk l xs
  all : ∀ x ∈ xs, x.who = who
  few : xs.length ≤ 16
theorem one_puts {l : List Ent} {who : ByteArray} {y : Ent} (h : PutsOk l [y] ∧ y.who = who) : AdPuts l who [y] := ⟨h.1, fun x hx => by rw [List.mem_singleton.1 hx]; exact h.2, by simp⟩
theorem claim_puts {l : List Ent} {who : ByteArray} (h : (clMv l who (clPlan l)).2 = 0) : AdPuts l who (clMv l who (clPlan l)).1 := by
  unfold clMv at h ⊢
  obtain ⟨_, h2, h3⟩ := clMv_ok (clPlan l) ([], 0) h
  rw [h2, List.nil_append]
  refine ⟨⟨fun x hx => ?_, ?_⟩, fun x hx => ?_, ?_⟩
  · obtain ⟨y, hy, rfl⟩ := List.mem_map.1 hx
    have := set_ok (h3 y hy)
    exact ⟨this.ok, by rw [this.key]; exact this.newer⟩
  · rw [List.map_map]
    have hp : (clPlan l).Pairwise fun x y => x.part < y.part := plan_parts
    unfold List.Nodup
    rw [List.pairwise_map]
    refine List.Pairwise.imp_of_mem ?_ hp
    intro a b ha hb hab he
    have ea : (setS l who (ringK a.part) a.now).1.key = ringK a.part := (set_ok (h3 a ha)).key
    have eb : (setS l who (ringK b.part) b.now).1.key = ringK b.part := (set_ok (h3 b hb)).key
    have h1 := cl_part ha; have h2 := cl_part hb
    simp only [Function.comp] at he
    rw [ea, eb, ringK_T (by omega), ringK_T (by omega)] at he
    have := ring_inj _ h1 _ h2 he
    omega
  · obtain ⟨y, hy, rfl⟩ := List.mem_map.1 hx
    exact (set_ok (h3 y hy)).who
  · rw [List.length_map]
    have := plan_len 0 (ownersS l 16) (evenS (ownersS l 16) (nmsS l))
    rw [show (ownersS l 16).length = 16 by simp [ownersS]] at this
    exact this
theorem all_puts {l : List Ent} {who : ByteArray} {a : Adm} (h : (adAll l who a).2 = 0) : AdPuts l who (adAll l who a).1 := by
  unfold adAll at h ⊢
  repeat' split at h
  · rename_i h1; rw [if_pos h1, adPut_one]; rw [adPut_one] at h; exact one_puts (sec_put h)
  · rename_i h1 h2; rw [if_neg h1, if_pos h2, adPut_one]; rw [adPut_one] at h; exact one_puts (limit_put h)
  · rename_i h1 h2 h3; rw [if_neg h1, if_neg h2, if_pos h3, adPut_one]; rw [adPut_one] at h; exact one_puts (prp_put h)
  · rename_i h1 h2 h3 h4; rw [if_neg h1, if_neg h2, if_neg h3, if_pos h4, adPut_one]; rw [adPut_one] at h; exact one_puts (acc_put h)
  · rename_i h1 h2 h3 h4 h5
    rw [if_neg h1, if_neg h2, if_neg h3, if_neg h4, if_pos h5]
    unfold adMember at h ⊢
    split at h
    · rename_i h6; rw [if_pos h6, adPut_one]; rw [adPut_one] at h; exact one_puts ⟨setK h, (set_ok h).who⟩
    · cases h
  · rename_i h1 h2 h3 h4 h5 h6
    rw [if_neg h1, if_neg h2, if_neg h3, if_neg h4, if_neg h5, if_pos h6]
    unfold adGone at h ⊢
    split at h
    · rename_i h7; rw [if_pos h7, adPut_one]; rw [adPut_one] at h; exact one_puts ⟨setK h, (set_ok h).who⟩
    · cases h
  · rename_i h1 h2 h3 h4 h5 h6 h7
    rw [if_neg h1, if_neg h2, if_neg h3, if_neg h4, if_neg h5, if_neg h6, if_pos h7]
    unfold adClaim at h ⊢
    split at h
    · cases h
    · rename_i h8; rw [if_neg h8]; exact claim_puts h
  · cases h
theorem ad_puts {l : List Ent} {who : ByteArray} {a : Adm} (h : (adS l who a).2 = 0) : AdPuts l who (adS l who a).1 := by
  unfold adS at h ⊢
  split at h
  · rename_i h1
    rw [if_pos h1]
    split at h
    · rename_i h2; rw [if_pos h2]; exact all_puts h2
    · rename_i h2; exact absurd h h2
  · cases h
end Go.Proofs.YtkcmbjodladflaaGreatDoor
end

section
set_option linter.all false
set_option maxRecDepth 100000
namespace Go.Proofs.YtkcmbjodladflaaGreatDoor
open Go.Ab
theorem rIsL_c {s : ByteArray} {σ : Store} (hs : s.size ≤ 9223372036854775807) : ACalls Tryz.prog 18 [vStr s] σ fun v σ' => v = .lit (.bool (nameOk s)) ∧ σ = σ' := by
  refine ACalls_of Tryz.func18 rfl Tryz.ntmps18 (congrArg Array.toList Tryz.results18) (by simp only [List.length_cons, List.length_nil]; decide) ?_; simp only [envOf_cons, envOf_nil, Nat.reduceAdd]
  refine awp_seq ?_
  refine awp_region (by kernel_rfl) ?_
  (refine aL_S rfl rfl (by simp (disch := omega) only [go_sem, wrap_i64, ↓reduceIte, Nat.reduceEqDiff, Nat.reduceAdd, Nat.reduceSub, Nat.reduceMul, Nat.reduceLeDiff, reduceCtorEq, Int.reduceToNat, Int.reduceLE, Int.reduceLT]; rfl) ?_)
  refine aL_nil ?_
  refine awp_seq ?_
  refine awp_seq ?_
  refine awp_region (by kernel_rfl) ?_
  (refine aL_S rfl rfl (by simp (disch := omega) only [go_sem, wrap_i64, ↓reduceIte, Nat.reduceEqDiff, Nat.reduceAdd, Nat.reduceSub, Nat.reduceMul, Nat.reduceLeDiff, reduceCtorEq, Int.reduceToNat, Int.reduceLE, Int.reduceLT]; rfl) ?_)
  refine aL_nil ?_
  refine awp_block ?_
  refine awp_loop_env (ι := Nat) (fun p => s.size - p) (fun p => p ≤ s.size ∧ ((Lb s).take p).all letB = true) (fun p => [(0, vStr s), (3, vInt p)]) (fun p => σ) 0 ?_ ?_ ?_ ?_
  · exact ⟨Nat.zero_le _, rfl⟩
  · ((repeat (refine covers.eq (by first | rfl | (simp (disch := omega) only [go_sem, wrap_i64, ↓reduceIte, Nat.reduceEqDiff, Nat.reduceAdd, Nat.reduceSub, Nat.reduceMul, Nat.reduceLeDiff, reduceCtorEq, Int.reduceToNat, Int.reduceLE, Int.reduceLT]; rfl) | (simp (disch := omega) only [go_sem, wrap_i64, ↓reduceIte, Nat.reduceEqDiff, Nat.reduceAdd, Nat.reduceSub, Nat.reduceMul, Nat.reduceLeDiff, reduceCtorEq, Int.reduceToNat, Int.reduceLE, Int.reduceLT])) ?_)); exact covers.nil)
  · first | exact Store.Wk.refl _ | exact Store.Sub.refl _ | ((try dsimp only); (try simp (disch := assumption) only [Store.newTok_set, Store.newTok_step]); (first | refine subx_start ?_ | refine subx_startS ?_); (repeat (first | refine subx_skip (.head _) ?_ | refine subx_skip (.tail _ (.head _)) ?_ | refine subx_skip (.tail _ (.tail _ (.head _))) ?_ | refine subx_skip (.tail _ (.tail _ (.tail _ (.head _)))) ?_ | refine subx_left (by first | (simp (disch := omega) only [go_sem, ↓reduceIte, Nat.reduceEqDiff, Nat.reduceAdd, Nat.reduceSub, Nat.reduceMul, Nat.reduceLeDiff, reduceCtorEq, Int.reduceToNat, Int.reduceLE, Int.reduceLT]; rfl) | simp (disch := omega) only [go_sem, ↓reduceIte, Nat.reduceEqDiff, Nat.reduceAdd, Nat.reduceSub, Nat.reduceMul, Nat.reduceLeDiff, reduceCtorEq, Int.reduceToNat, Int.reduceLE, Int.reduceLT]) ?_)); (repeat (first | exact subx_refl | refine subx_in (.head _) ?_ | refine subx_in (.tail _ (.head _)) ?_ | refine subx_in (.tail _ (.tail _ (.head _))) ?_ | refine subx_in (.tail _ (.tail _ (.tail _ (.head _)))) ?_ | refine subx_new (by first | assumption | (simp only [Store.newTok_heap]; assumption)) ?_ | refine subx_tok ?_ | refine subx_newTok (by assumption) ?_)))
  rintro p ⟨hp, ha⟩
  simp only [envL_cons, envL_nil]
  refine awp_seq ?_
  refine awp_seq ?_
  refine awp_region (by kernel_rfl) ?_
  iterate 4 (refine aL_S rfl rfl (by simp (disch := omega) only [go_sem, wrap_i64, ↓reduceIte, Nat.reduceEqDiff, Nat.reduceAdd, Nat.reduceSub, Nat.reduceMul, Nat.reduceLeDiff, reduceCtorEq, Int.reduceToNat, Int.reduceLE, Int.reduceLT]; rfl) ?_)
  refine aL_nil ?_
  refine awp_cond (by simp (disch := omega) only [go_sem, wrap_i64, ↓reduceIte, Nat.reduceEqDiff, Nat.reduceAdd, Nat.reduceSub, Nat.reduceMul, Nat.reduceLeDiff, reduceCtorEq, Int.reduceToNat, Int.reduceLE, Int.reduceLT]; rfl) (fun hc2 => ?_) (fun hc2 => ?_)
  · (try simp only [decide_eq_true_eq, decide_eq_false_iff_not, Bool.not_eq_true', Bool.not_eq_false', Bool.and_eq_true, Bool.or_eq_true, Bool.and_eq_false_iff, Bool.or_eq_false_iff, Bool.not_eq_eq_eq_not, Bool.not_true, Bool.not_false, Int.not_le, Int.not_lt, beq_iff_eq] at hc2)
    refine awp_skip ?_
    refine awp_seq ?_
    refine awp_block ?_
    refine awp_seq ?_
    have hp' : p < s.size := by omega
    have hg := Lb_get hp'
    have hg2 : s[p]? = some (s[p]'hp') := getElem?_pos s p hp'
    obtain ⟨c, hc⟩ : ∃ c, s[p]'hp' = c := ⟨_, rfl⟩
    rw [hc] at hg hg2
    have hcl := letB_iff c
    refine awp_region (by kernel_rfl) ?_
    (refine aL_S rfl rfl (by simp (disch := omega) only [go_sem, wrap_i64, ↓reduceIte, Nat.reduceEqDiff, Nat.reduceAdd, Nat.reduceSub, Nat.reduceMul, Nat.reduceLeDiff, reduceCtorEq, Int.reduceToNat, Int.reduceLE, Int.reduceLT, hg2]; rfl) ?_)
    (refine aL_S rfl rfl (by simp (disch := omega) only [go_sem, wrap_i64, ↓reduceIte, Nat.reduceEqDiff, Nat.reduceAdd, Nat.reduceSub, Nat.reduceMul, Nat.reduceLeDiff, reduceCtorEq, Int.reduceToNat, Int.reduceLE, Int.reduceLT, hg2]; rfl) ?_)
    (refine aL_S rfl rfl (by simp (disch := omega) only [go_sem, wrap_i64, ↓reduceIte, Nat.reduceEqDiff, Nat.reduceAdd, Nat.reduceSub, Nat.reduceMul, Nat.reduceLeDiff, reduceCtorEq, Int.reduceToNat, Int.reduceLE, Int.reduceLT, hg2]; rfl) ?_)
    (refine aL_S rfl rfl (by simp (disch := omega) only [go_sem, wrap_i64, ↓reduceIte, Nat.reduceEqDiff, Nat.reduceAdd, Nat.reduceSub, Nat.reduceMul, Nat.reduceLeDiff, reduceCtorEq, Int.reduceToNat, Int.reduceLE, Int.reduceLT, hg2]; rfl) ?_)
    (refine aL_S rfl rfl (by simp (disch := omega) only [go_sem, wrap_i64, ↓reduceIte, Nat.reduceEqDiff, Nat.reduceAdd, Nat.reduceSub, Nat.reduceMul, Nat.reduceLeDiff, reduceCtorEq, Int.reduceToNat, Int.reduceLE, Int.reduceLT, hg2]; rfl) ?_)
    refine aL_GF rfl rfl (by simp (disch := omega) only [go_sem, wrap_i64, ↓reduceIte, Nat.reduceEqDiff, Nat.reduceAdd, Nat.reduceSub, Nat.reduceMul, Nat.reduceLeDiff, reduceCtorEq, Int.reduceToNat, Int.reduceLE, Int.reduceLT, hg2]; rfl) rfl (by intro hb; have hb' := hb; (try simp only [decide_eq_true_eq, decide_eq_false_iff_not, Bool.not_eq_true', Bool.not_eq_false', Bool.and_eq_true, Bool.or_eq_true, Bool.and_eq_false_iff, Bool.or_eq_false_iff, Bool.not_eq_eq_eq_not, Bool.not_true, Bool.not_false, Int.not_le, Int.not_lt, beq_iff_eq] at hb'); (try simp only [Bool.and_eq_true] at hb); first | (simp (disch := omega) only [go_sem, wrap_i64, ↓reduceIte, Nat.reduceEqDiff, Nat.reduceAdd, Nat.reduceSub, Nat.reduceMul, Nat.reduceLeDiff, reduceCtorEq, Int.reduceToNat, Int.reduceLE, Int.reduceLT, hg2]; rfl) | (simp (disch := omega) only [go_sem, wrap_i64, ↓reduceIte, Nat.reduceEqDiff, Nat.reduceAdd, Nat.reduceSub, Nat.reduceMul, Nat.reduceLeDiff, reduceCtorEq, Int.reduceToNat, Int.reduceLE, Int.reduceLT, hg2, hb]; rfl)) ?_
    refine aL_GF rfl rfl (by simp (disch := omega) only [go_sem, wrap_i64, ↓reduceIte, Nat.reduceEqDiff, Nat.reduceAdd, Nat.reduceSub, Nat.reduceMul, Nat.reduceLeDiff, reduceCtorEq, Int.reduceToNat, Int.reduceLE, Int.reduceLT, hg2]; rfl) rfl (by intro hb; have hb' := hb; (try simp only [decide_eq_true_eq, decide_eq_false_iff_not, Bool.not_eq_true', Bool.not_eq_false', Bool.and_eq_true, Bool.or_eq_true, Bool.and_eq_false_iff, Bool.or_eq_false_iff, Bool.not_eq_eq_eq_not, Bool.not_true, Bool.not_false, Int.not_le, Int.not_lt, beq_iff_eq] at hb'); (try simp only [Bool.and_eq_true] at hb); first | (simp (disch := omega) only [go_sem, wrap_i64, ↓reduceIte, Nat.reduceEqDiff, Nat.reduceAdd, Nat.reduceSub, Nat.reduceMul, Nat.reduceLeDiff, reduceCtorEq, Int.reduceToNat, Int.reduceLE, Int.reduceLT, hg2]; rfl) | (simp (disch := omega) only [go_sem, wrap_i64, ↓reduceIte, Nat.reduceEqDiff, Nat.reduceAdd, Nat.reduceSub, Nat.reduceMul, Nat.reduceLeDiff, reduceCtorEq, Int.reduceToNat, Int.reduceLE, Int.reduceLT, hg2, hb]; rfl)) ?_
    refine aL_GF rfl rfl (by simp (disch := omega) only [go_sem, wrap_i64, ↓reduceIte, Nat.reduceEqDiff, Nat.reduceAdd, Nat.reduceSub, Nat.reduceMul, Nat.reduceLeDiff, reduceCtorEq, Int.reduceToNat, Int.reduceLE, Int.reduceLT, hg2]; rfl) rfl (by intro hb; have hb' := hb; (try simp only [decide_eq_true_eq, decide_eq_false_iff_not, Bool.not_eq_true', Bool.not_eq_false', Bool.and_eq_true, Bool.or_eq_true, Bool.and_eq_false_iff, Bool.or_eq_false_iff, Bool.not_eq_eq_eq_not, Bool.not_true, Bool.not_false, Int.not_le, Int.not_lt, beq_iff_eq] at hb'); (try simp only [Bool.and_eq_true] at hb); first | (simp (disch := omega) only [go_sem, wrap_i64, ↓reduceIte, Nat.reduceEqDiff, Nat.reduceAdd, Nat.reduceSub, Nat.reduceMul, Nat.reduceLeDiff, reduceCtorEq, Int.reduceToNat, Int.reduceLE, Int.reduceLT, hg2]; rfl) | (simp (disch := omega) only [go_sem, wrap_i64, ↓reduceIte, Nat.reduceEqDiff, Nat.reduceAdd, Nat.reduceSub, Nat.reduceMul, Nat.reduceLeDiff, reduceCtorEq, Int.reduceToNat, Int.reduceLE, Int.reduceLT, hg2, hb]; rfl)) ?_
    refine aL_GF rfl rfl (by simp (disch := omega) only [go_sem, wrap_i64, ↓reduceIte, Nat.reduceEqDiff, Nat.reduceAdd, Nat.reduceSub, Nat.reduceMul, Nat.reduceLeDiff, reduceCtorEq, Int.reduceToNat, Int.reduceLE, Int.reduceLT, hg2]; rfl) rfl (by intro hb; have hb' := hb; (try simp only [decide_eq_true_eq, decide_eq_false_iff_not, Bool.not_eq_true', Bool.not_eq_false', Bool.and_eq_true, Bool.or_eq_true, Bool.and_eq_false_iff, Bool.or_eq_false_iff, Bool.not_eq_eq_eq_not, Bool.not_true, Bool.not_false, Int.not_le, Int.not_lt, beq_iff_eq] at hb'); (try simp only [Bool.and_eq_true] at hb); first | (simp (disch := omega) only [go_sem, wrap_i64, ↓reduceIte, Nat.reduceEqDiff, Nat.reduceAdd, Nat.reduceSub, Nat.reduceMul, Nat.reduceLeDiff, reduceCtorEq, Int.reduceToNat, Int.reduceLE, Int.reduceLT, hg2]; rfl) | (simp (disch := omega) only [go_sem, wrap_i64, ↓reduceIte, Nat.reduceEqDiff, Nat.reduceAdd, Nat.reduceSub, Nat.reduceMul, Nat.reduceLeDiff, reduceCtorEq, Int.reduceToNat, Int.reduceLE, Int.reduceLT, hg2, hb]; rfl)) ?_
    (refine aL_S rfl rfl (by simp (disch := omega) only [go_sem, wrap_i64, ↓reduceIte, Nat.reduceEqDiff, Nat.reduceAdd, Nat.reduceSub, Nat.reduceMul, Nat.reduceLeDiff, reduceCtorEq, Int.reduceToNat, Int.reduceLE, Int.reduceLT, hg2]; rfl) ?_)
    (refine aL_S rfl rfl (by simp (disch := omega) only [go_sem, wrap_i64, ↓reduceIte, Nat.reduceEqDiff, Nat.reduceAdd, Nat.reduceSub, Nat.reduceMul, Nat.reduceLeDiff, reduceCtorEq, Int.reduceToNat, Int.reduceLE, Int.reduceLT, hg2]; rfl) ?_)
    refine aL_GT rfl rfl (by simp (disch := omega) only [go_sem, wrap_i64, ↓reduceIte, Nat.reduceEqDiff, Nat.reduceAdd, Nat.reduceSub, Nat.reduceMul, Nat.reduceLeDiff, reduceCtorEq, Int.reduceToNat, Int.reduceLE, Int.reduceLT, hg2]; rfl) rfl (by intro hb; have hb' := hb; (try simp only [decide_eq_true_eq, decide_eq_false_iff_not, Bool.not_eq_true', Bool.not_eq_false', Bool.and_eq_true, Bool.or_eq_true, Bool.and_eq_false_iff, Bool.or_eq_false_iff, Bool.not_eq_eq_eq_not, Bool.not_true, Bool.not_false, Int.not_le, Int.not_lt, beq_iff_eq] at hb'); (try simp only [Bool.and_eq_true] at hb); first | (simp (disch := omega) only [go_sem, wrap_i64, ↓reduceIte, Nat.reduceEqDiff, Nat.reduceAdd, Nat.reduceSub, Nat.reduceMul, Nat.reduceLeDiff, reduceCtorEq, Int.reduceToNat, Int.reduceLE, Int.reduceLT, hg2]; rfl) | (simp (disch := omega) only [go_sem, wrap_i64, ↓reduceIte, Nat.reduceEqDiff, Nat.reduceAdd, Nat.reduceSub, Nat.reduceMul, Nat.reduceLeDiff, reduceCtorEq, Int.reduceToNat, Int.reduceLE, Int.reduceLT, hg2, hb]; rfl)) ?_
    refine aL_GT rfl rfl (by simp (disch := omega) only [go_sem, wrap_i64, ↓reduceIte, Nat.reduceEqDiff, Nat.reduceAdd, Nat.reduceSub, Nat.reduceMul, Nat.reduceLeDiff, reduceCtorEq, Int.reduceToNat, Int.reduceLE, Int.reduceLT, hg2]; rfl) rfl (by intro hb; have hb' := hb; (try simp only [decide_eq_true_eq, decide_eq_false_iff_not, Bool.not_eq_true', Bool.not_eq_false', Bool.and_eq_true, Bool.or_eq_true, Bool.and_eq_false_iff, Bool.or_eq_false_iff, Bool.not_eq_eq_eq_not, Bool.not_true, Bool.not_false, Int.not_le, Int.not_lt, beq_iff_eq] at hb'); (try simp only [Bool.and_eq_true] at hb); first | (simp (disch := omega) only [go_sem, wrap_i64, ↓reduceIte, Nat.reduceEqDiff, Nat.reduceAdd, Nat.reduceSub, Nat.reduceMul, Nat.reduceLeDiff, reduceCtorEq, Int.reduceToNat, Int.reduceLE, Int.reduceLT, hg2]; rfl) | (simp (disch := omega) only [go_sem, wrap_i64, ↓reduceIte, Nat.reduceEqDiff, Nat.reduceAdd, Nat.reduceSub, Nat.reduceMul, Nat.reduceLeDiff, reduceCtorEq, Int.reduceToNat, Int.reduceLE, Int.reduceLT, hg2, hb]; rfl)) ?_
    refine aL_GT rfl rfl (by simp (disch := omega) only [go_sem, wrap_i64, ↓reduceIte, Nat.reduceEqDiff, Nat.reduceAdd, Nat.reduceSub, Nat.reduceMul, Nat.reduceLeDiff, reduceCtorEq, Int.reduceToNat, Int.reduceLE, Int.reduceLT, hg2]; rfl) rfl (by intro hb; have hb' := hb; (try simp only [decide_eq_true_eq, decide_eq_false_iff_not, Bool.not_eq_true', Bool.not_eq_false', Bool.and_eq_true, Bool.or_eq_true, Bool.and_eq_false_iff, Bool.or_eq_false_iff, Bool.not_eq_eq_eq_not, Bool.not_true, Bool.not_false, Int.not_le, Int.not_lt, beq_iff_eq] at hb'); (try simp only [Bool.and_eq_true] at hb); first | (simp (disch := omega) only [go_sem, wrap_i64, ↓reduceIte, Nat.reduceEqDiff, Nat.reduceAdd, Nat.reduceSub, Nat.reduceMul, Nat.reduceLeDiff, reduceCtorEq, Int.reduceToNat, Int.reduceLE, Int.reduceLT, hg2]; rfl) | (simp (disch := omega) only [go_sem, wrap_i64, ↓reduceIte, Nat.reduceEqDiff, Nat.reduceAdd, Nat.reduceSub, Nat.reduceMul, Nat.reduceLeDiff, reduceCtorEq, Int.reduceToNat, Int.reduceLE, Int.reduceLT, hg2, hb]; rfl)) ?_
    refine aL_GT rfl rfl (by simp (disch := omega) only [go_sem, wrap_i64, ↓reduceIte, Nat.reduceEqDiff, Nat.reduceAdd, Nat.reduceSub, Nat.reduceMul, Nat.reduceLeDiff, reduceCtorEq, Int.reduceToNat, Int.reduceLE, Int.reduceLT, hg2]; rfl) rfl (by intro hb; have hb' := hb; (try simp only [decide_eq_true_eq, decide_eq_false_iff_not, Bool.not_eq_true', Bool.not_eq_false', Bool.and_eq_true, Bool.or_eq_true, Bool.and_eq_false_iff, Bool.or_eq_false_iff, Bool.not_eq_eq_eq_not, Bool.not_true, Bool.not_false, Int.not_le, Int.not_lt, beq_iff_eq] at hb'); (try simp only [Bool.and_eq_true] at hb); first | (simp (disch := omega) only [go_sem, wrap_i64, ↓reduceIte, Nat.reduceEqDiff, Nat.reduceAdd, Nat.reduceSub, Nat.reduceMul, Nat.reduceLeDiff, reduceCtorEq, Int.reduceToNat, Int.reduceLE, Int.reduceLT, hg2]; rfl) | (simp (disch := omega) only [go_sem, wrap_i64, ↓reduceIte, Nat.reduceEqDiff, Nat.reduceAdd, Nat.reduceSub, Nat.reduceMul, Nat.reduceLeDiff, reduceCtorEq, Int.reduceToNat, Int.reduceLE, Int.reduceLT, hg2, hb]; rfl)) ?_
    refine aL_GT rfl rfl (by simp (disch := omega) only [go_sem, wrap_i64, ↓reduceIte, Nat.reduceEqDiff, Nat.reduceAdd, Nat.reduceSub, Nat.reduceMul, Nat.reduceLeDiff, reduceCtorEq, Int.reduceToNat, Int.reduceLE, Int.reduceLT, hg2]; rfl) rfl (by intro hb; have hb' := hb; (try simp only [decide_eq_true_eq, decide_eq_false_iff_not, Bool.not_eq_true', Bool.not_eq_false', Bool.and_eq_true, Bool.or_eq_true, Bool.and_eq_false_iff, Bool.or_eq_false_iff, Bool.not_eq_eq_eq_not, Bool.not_true, Bool.not_false, Int.not_le, Int.not_lt, beq_iff_eq] at hb'); (try simp only [Bool.and_eq_true] at hb); first | (simp (disch := omega) only [go_sem, wrap_i64, ↓reduceIte, Nat.reduceEqDiff, Nat.reduceAdd, Nat.reduceSub, Nat.reduceMul, Nat.reduceLeDiff, reduceCtorEq, Int.reduceToNat, Int.reduceLE, Int.reduceLT, hg2]; rfl) | (simp (disch := omega) only [go_sem, wrap_i64, ↓reduceIte, Nat.reduceEqDiff, Nat.reduceAdd, Nat.reduceSub, Nat.reduceMul, Nat.reduceLeDiff, reduceCtorEq, Int.reduceToNat, Int.reduceLE, Int.reduceLT, hg2, hb]; rfl)) ?_
    refine aL_GGF rfl rfl (by simp (disch := omega) only [go_sem, wrap_i64, ↓reduceIte, Nat.reduceEqDiff, Nat.reduceAdd, Nat.reduceSub, Nat.reduceMul, Nat.reduceLeDiff, reduceCtorEq, Int.reduceToNat, Int.reduceLE, Int.reduceLT, hg2]; rfl) rfl (by intro hb; have hb' := hb; (try simp only [decide_eq_true_eq, decide_eq_false_iff_not, Bool.not_eq_true', Bool.not_eq_false', Bool.and_eq_true, Bool.or_eq_true, Bool.and_eq_false_iff, Bool.or_eq_false_iff, Bool.not_eq_eq_eq_not, Bool.not_true, Bool.not_false, Int.not_le, Int.not_lt, beq_iff_eq] at hb'); (try simp only [Bool.and_eq_true] at hb); first | (simp (disch := omega) only [go_sem, wrap_i64, ↓reduceIte, Nat.reduceEqDiff, Nat.reduceAdd, Nat.reduceSub, Nat.reduceMul, Nat.reduceLeDiff, reduceCtorEq, Int.reduceToNat, Int.reduceLE, Int.reduceLT, hg2]; rfl) | (simp (disch := omega) only [go_sem, wrap_i64, ↓reduceIte, Nat.reduceEqDiff, Nat.reduceAdd, Nat.reduceSub, Nat.reduceMul, Nat.reduceLeDiff, reduceCtorEq, Int.reduceToNat, Int.reduceLE, Int.reduceLT, hg2, hb]; rfl)) ?_
    refine aL_GGF rfl rfl (by simp (disch := omega) only [go_sem, wrap_i64, ↓reduceIte, Nat.reduceEqDiff, Nat.reduceAdd, Nat.reduceSub, Nat.reduceMul, Nat.reduceLeDiff, reduceCtorEq, Int.reduceToNat, Int.reduceLE, Int.reduceLT, hg2]; rfl) rfl (by intro hb; have hb' := hb; (try simp only [decide_eq_true_eq, decide_eq_false_iff_not, Bool.not_eq_true', Bool.not_eq_false', Bool.and_eq_true, Bool.or_eq_true, Bool.and_eq_false_iff, Bool.or_eq_false_iff, Bool.not_eq_eq_eq_not, Bool.not_true, Bool.not_false, Int.not_le, Int.not_lt, beq_iff_eq] at hb'); (try simp only [Bool.and_eq_true] at hb); first | (simp (disch := omega) only [go_sem, wrap_i64, ↓reduceIte, Nat.reduceEqDiff, Nat.reduceAdd, Nat.reduceSub, Nat.reduceMul, Nat.reduceLeDiff, reduceCtorEq, Int.reduceToNat, Int.reduceLE, Int.reduceLT, hg2]; rfl) | (simp (disch := omega) only [go_sem, wrap_i64, ↓reduceIte, Nat.reduceEqDiff, Nat.reduceAdd, Nat.reduceSub, Nat.reduceMul, Nat.reduceLeDiff, reduceCtorEq, Int.reduceToNat, Int.reduceLE, Int.reduceLT, hg2, hb]; rfl)) ?_
    refine aL_GGF rfl rfl (by simp (disch := omega) only [go_sem, wrap_i64, ↓reduceIte, Nat.reduceEqDiff, Nat.reduceAdd, Nat.reduceSub, Nat.reduceMul, Nat.reduceLeDiff, reduceCtorEq, Int.reduceToNat, Int.reduceLE, Int.reduceLT, hg2]; rfl) rfl (by intro hb; have hb' := hb; (try simp only [decide_eq_true_eq, decide_eq_false_iff_not, Bool.not_eq_true', Bool.not_eq_false', Bool.and_eq_true, Bool.or_eq_true, Bool.and_eq_false_iff, Bool.or_eq_false_iff, Bool.not_eq_eq_eq_not, Bool.not_true, Bool.not_false, Int.not_le, Int.not_lt, beq_iff_eq] at hb'); (try simp only [Bool.and_eq_true] at hb); first | (simp (disch := omega) only [go_sem, wrap_i64, ↓reduceIte, Nat.reduceEqDiff, Nat.reduceAdd, Nat.reduceSub, Nat.reduceMul, Nat.reduceLeDiff, reduceCtorEq, Int.reduceToNat, Int.reduceLE, Int.reduceLT, hg2]; rfl) | (simp (disch := omega) only [go_sem, wrap_i64, ↓reduceIte, Nat.reduceEqDiff, Nat.reduceAdd, Nat.reduceSub, Nat.reduceMul, Nat.reduceLeDiff, reduceCtorEq, Int.reduceToNat, Int.reduceLE, Int.reduceLT, hg2, hb]; rfl)) ?_
    refine aL_GGF rfl rfl (by simp (disch := omega) only [go_sem, wrap_i64, ↓reduceIte, Nat.reduceEqDiff, Nat.reduceAdd, Nat.reduceSub, Nat.reduceMul, Nat.reduceLeDiff, reduceCtorEq, Int.reduceToNat, Int.reduceLE, Int.reduceLT, hg2]; rfl) rfl (by intro hb; have hb' := hb; (try simp only [decide_eq_true_eq, decide_eq_false_iff_not, Bool.not_eq_true', Bool.not_eq_false', Bool.and_eq_true, Bool.or_eq_true, Bool.and_eq_false_iff, Bool.or_eq_false_iff, Bool.not_eq_eq_eq_not, Bool.not_true, Bool.not_false, Int.not_le, Int.not_lt, beq_iff_eq] at hb'); (try simp only [Bool.and_eq_true] at hb); first | (simp (disch := omega) only [go_sem, wrap_i64, ↓reduceIte, Nat.reduceEqDiff, Nat.reduceAdd, Nat.reduceSub, Nat.reduceMul, Nat.reduceLeDiff, reduceCtorEq, Int.reduceToNat, Int.reduceLE, Int.reduceLT, hg2]; rfl) | (simp (disch := omega) only [go_sem, wrap_i64, ↓reduceIte, Nat.reduceEqDiff, Nat.reduceAdd, Nat.reduceSub, Nat.reduceMul, Nat.reduceLeDiff, reduceCtorEq, Int.reduceToNat, Int.reduceLE, Int.reduceLT, hg2, hb]; rfl)) ?_
    refine aL_GT rfl rfl (by simp (disch := omega) only [go_sem, wrap_i64, ↓reduceIte, Nat.reduceEqDiff, Nat.reduceAdd, Nat.reduceSub, Nat.reduceMul, Nat.reduceLeDiff, reduceCtorEq, Int.reduceToNat, Int.reduceLE, Int.reduceLT, hg2]; rfl) rfl (by intro hb; have hb' := hb; (try simp only [decide_eq_true_eq, decide_eq_false_iff_not, Bool.not_eq_true', Bool.not_eq_false', Bool.and_eq_true, Bool.or_eq_true, Bool.and_eq_false_iff, Bool.or_eq_false_iff, Bool.not_eq_eq_eq_not, Bool.not_true, Bool.not_false, Int.not_le, Int.not_lt, beq_iff_eq] at hb'); (try simp only [Bool.and_eq_true] at hb); first | (simp (disch := omega) only [go_sem, wrap_i64, ↓reduceIte, Nat.reduceEqDiff, Nat.reduceAdd, Nat.reduceSub, Nat.reduceMul, Nat.reduceLeDiff, reduceCtorEq, Int.reduceToNat, Int.reduceLE, Int.reduceLT, hg2]; rfl) | (simp (disch := omega) only [go_sem, wrap_i64, ↓reduceIte, Nat.reduceEqDiff, Nat.reduceAdd, Nat.reduceSub, Nat.reduceMul, Nat.reduceLeDiff, reduceCtorEq, Int.reduceToNat, Int.reduceLE, Int.reduceLT, hg2, hb]; rfl)) ?_
    (refine aL_S rfl rfl (by simp (disch := omega) only [go_sem, wrap_i64, ↓reduceIte, Nat.reduceEqDiff, Nat.reduceAdd, Nat.reduceSub, Nat.reduceMul, Nat.reduceLeDiff, reduceCtorEq, Int.reduceToNat, Int.reduceLE, Int.reduceLT, hg2]; rfl) ?_)
    (refine aL_S rfl rfl (by simp (disch := omega) only [go_sem, wrap_i64, ↓reduceIte, Nat.reduceEqDiff, Nat.reduceAdd, Nat.reduceSub, Nat.reduceMul, Nat.reduceLeDiff, reduceCtorEq, Int.reduceToNat, Int.reduceLE, Int.reduceLT, hg2]; rfl) ?_)
    refine aL_GT rfl rfl (by simp (disch := omega) only [go_sem, wrap_i64, ↓reduceIte, Nat.reduceEqDiff, Nat.reduceAdd, Nat.reduceSub, Nat.reduceMul, Nat.reduceLeDiff, reduceCtorEq, Int.reduceToNat, Int.reduceLE, Int.reduceLT, hg2]; rfl) rfl (by intro hb; have hb' := hb; (try simp only [decide_eq_true_eq, decide_eq_false_iff_not, Bool.not_eq_true', Bool.not_eq_false', Bool.and_eq_true, Bool.or_eq_true, Bool.and_eq_false_iff, Bool.or_eq_false_iff, Bool.not_eq_eq_eq_not, Bool.not_true, Bool.not_false, Int.not_le, Int.not_lt, beq_iff_eq] at hb'); (try simp only [Bool.and_eq_true] at hb); first | (simp (disch := omega) only [go_sem, wrap_i64, ↓reduceIte, Nat.reduceEqDiff, Nat.reduceAdd, Nat.reduceSub, Nat.reduceMul, Nat.reduceLeDiff, reduceCtorEq, Int.reduceToNat, Int.reduceLE, Int.reduceLT, hg2]; rfl) | (simp (disch := omega) only [go_sem, wrap_i64, ↓reduceIte, Nat.reduceEqDiff, Nat.reduceAdd, Nat.reduceSub, Nat.reduceMul, Nat.reduceLeDiff, reduceCtorEq, Int.reduceToNat, Int.reduceLE, Int.reduceLT, hg2, hb]; rfl)) ?_
    refine aL_GT rfl rfl (by simp (disch := omega) only [go_sem, wrap_i64, ↓reduceIte, Nat.reduceEqDiff, Nat.reduceAdd, Nat.reduceSub, Nat.reduceMul, Nat.reduceLeDiff, reduceCtorEq, Int.reduceToNat, Int.reduceLE, Int.reduceLT, hg2]; rfl) rfl (by intro hb; have hb' := hb; (try simp only [decide_eq_true_eq, decide_eq_false_iff_not, Bool.not_eq_true', Bool.not_eq_false', Bool.and_eq_true, Bool.or_eq_true, Bool.and_eq_false_iff, Bool.or_eq_false_iff, Bool.not_eq_eq_eq_not, Bool.not_true, Bool.not_false, Int.not_le, Int.not_lt, beq_iff_eq] at hb'); (try simp only [Bool.and_eq_true] at hb); first | (simp (disch := omega) only [go_sem, wrap_i64, ↓reduceIte, Nat.reduceEqDiff, Nat.reduceAdd, Nat.reduceSub, Nat.reduceMul, Nat.reduceLeDiff, reduceCtorEq, Int.reduceToNat, Int.reduceLE, Int.reduceLT, hg2]; rfl) | (simp (disch := omega) only [go_sem, wrap_i64, ↓reduceIte, Nat.reduceEqDiff, Nat.reduceAdd, Nat.reduceSub, Nat.reduceMul, Nat.reduceLeDiff, reduceCtorEq, Int.reduceToNat, Int.reduceLE, Int.reduceLT, hg2, hb]; rfl)) ?_
    refine aL_GT rfl rfl (by simp (disch := omega) only [go_sem, wrap_i64, ↓reduceIte, Nat.reduceEqDiff, Nat.reduceAdd, Nat.reduceSub, Nat.reduceMul, Nat.reduceLeDiff, reduceCtorEq, Int.reduceToNat, Int.reduceLE, Int.reduceLT, hg2]; rfl) rfl (by intro hb; have hb' := hb; (try simp only [decide_eq_true_eq, decide_eq_false_iff_not, Bool.not_eq_true', Bool.not_eq_false', Bool.and_eq_true, Bool.or_eq_true, Bool.and_eq_false_iff, Bool.or_eq_false_iff, Bool.not_eq_eq_eq_not, Bool.not_true, Bool.not_false, Int.not_le, Int.not_lt, beq_iff_eq] at hb'); (try simp only [Bool.and_eq_true] at hb); first | (simp (disch := omega) only [go_sem, wrap_i64, ↓reduceIte, Nat.reduceEqDiff, Nat.reduceAdd, Nat.reduceSub, Nat.reduceMul, Nat.reduceLeDiff, reduceCtorEq, Int.reduceToNat, Int.reduceLE, Int.reduceLT, hg2]; rfl) | (simp (disch := omega) only [go_sem, wrap_i64, ↓reduceIte, Nat.reduceEqDiff, Nat.reduceAdd, Nat.reduceSub, Nat.reduceMul, Nat.reduceLeDiff, reduceCtorEq, Int.reduceToNat, Int.reduceLE, Int.reduceLT, hg2, hb]; rfl)) ?_
    refine aL_GT rfl rfl (by simp (disch := omega) only [go_sem, wrap_i64, ↓reduceIte, Nat.reduceEqDiff, Nat.reduceAdd, Nat.reduceSub, Nat.reduceMul, Nat.reduceLeDiff, reduceCtorEq, Int.reduceToNat, Int.reduceLE, Int.reduceLT, hg2]; rfl) rfl (by intro hb; have hb' := hb; (try simp only [decide_eq_true_eq, decide_eq_false_iff_not, Bool.not_eq_true', Bool.not_eq_false', Bool.and_eq_true, Bool.or_eq_true, Bool.and_eq_false_iff, Bool.or_eq_false_iff, Bool.not_eq_eq_eq_not, Bool.not_true, Bool.not_false, Int.not_le, Int.not_lt, beq_iff_eq] at hb'); (try simp only [Bool.and_eq_true] at hb); first | (simp (disch := omega) only [go_sem, wrap_i64, ↓reduceIte, Nat.reduceEqDiff, Nat.reduceAdd, Nat.reduceSub, Nat.reduceMul, Nat.reduceLeDiff, reduceCtorEq, Int.reduceToNat, Int.reduceLE, Int.reduceLT, hg2]; rfl) | (simp (disch := omega) only [go_sem, wrap_i64, ↓reduceIte, Nat.reduceEqDiff, Nat.reduceAdd, Nat.reduceSub, Nat.reduceMul, Nat.reduceLeDiff, reduceCtorEq, Int.reduceToNat, Int.reduceLE, Int.reduceLT, hg2, hb]; rfl)) ?_
    (refine aL_S rfl rfl (by simp (disch := omega) only [go_sem, wrap_i64, ↓reduceIte, Nat.reduceEqDiff, Nat.reduceAdd, Nat.reduceSub, Nat.reduceMul, Nat.reduceLeDiff, reduceCtorEq, Int.reduceToNat, Int.reduceLE, Int.reduceLT, hg2]; rfl) ?_)
    refine aL_nil ?_
    refine awp_cond (by simp (disch := omega) only [go_sem, wrap_i64, ↓reduceIte, Nat.reduceEqDiff, Nat.reduceAdd, Nat.reduceSub, Nat.reduceMul, Nat.reduceLeDiff, reduceCtorEq, Int.reduceToNat, Int.reduceLE, Int.reduceLT]; rfl) (fun hc4 => ?_) (fun hc4 => ?_)
    · (try simp only [decide_eq_true_eq, decide_eq_false_iff_not, Bool.not_eq_true', Bool.not_eq_false', Bool.and_eq_true, Bool.or_eq_true, Bool.and_eq_false_iff, Bool.or_eq_false_iff, Bool.not_eq_eq_eq_not, Bool.not_true, Bool.not_false, Int.not_le, Int.not_lt, beq_iff_eq] at hc4)
      skip
      have hlf : letB c = false := by
        cases h : letB c with
        | false => rfl
        | true => rw [hcl] at h; omega
      refine awp_seq ?_
      refine awp_region (by kernel_rfl) ?_
      (refine aL_S rfl rfl (by simp (disch := omega) only [go_sem, wrap_i64, ↓reduceIte, Nat.reduceEqDiff, Nat.reduceAdd, Nat.reduceSub, Nat.reduceMul, Nat.reduceLeDiff, reduceCtorEq, Int.reduceToNat, Int.reduceLE, Int.reduceLT]; rfl) ?_)
      refine aL_nil ?_
      refine awp_ret ?_
      refine aEnd_ret (σ' := σ) (by simp (disch := omega) only [go_sem, wrap_i64, ↓reduceIte, Nat.reduceEqDiff, Nat.reduceAdd, Nat.reduceSub, Nat.reduceMul, Nat.reduceLeDiff, reduceCtorEq, Int.reduceToNat, Int.reduceLE, Int.reduceLT]; rfl) (by first | exact Store.Wk.refl _ | exact Store.Sub.refl _ | ((try dsimp only); (try simp (disch := assumption) only [Store.newTok_set, Store.newTok_step]); (first | refine subx_start ?_ | refine subx_startS ?_); (repeat (first | refine subx_skip (.head _) ?_ | refine subx_skip (.tail _ (.head _)) ?_ | refine subx_skip (.tail _ (.tail _ (.head _))) ?_ | refine subx_skip (.tail _ (.tail _ (.tail _ (.head _)))) ?_ | refine subx_left (by first | (simp (disch := omega) only [go_sem, ↓reduceIte, Nat.reduceEqDiff, Nat.reduceAdd, Nat.reduceSub, Nat.reduceMul, Nat.reduceLeDiff, reduceCtorEq, Int.reduceToNat, Int.reduceLE, Int.reduceLT]; rfl) | simp (disch := omega) only [go_sem, ↓reduceIte, Nat.reduceEqDiff, Nat.reduceAdd, Nat.reduceSub, Nat.reduceMul, Nat.reduceLeDiff, reduceCtorEq, Int.reduceToNat, Int.reduceLE, Int.reduceLT]) ?_)); (repeat (first | exact subx_refl | refine subx_in (.head _) ?_ | refine subx_in (.tail _ (.head _)) ?_ | refine subx_in (.tail _ (.tail _ (.head _))) ?_ | refine subx_in (.tail _ (.tail _ (.tail _ (.head _)))) ?_ | refine subx_new (by first | assumption | (simp only [Store.newTok_heap]; assumption)) ?_ | refine subx_tok ?_ | refine subx_newTok (by assumption) ?_)))) ?_
      refine ⟨?_, rfl⟩
      simp only [nameOk]
      rw [all_not letB hg hlf]; simp
    · (try simp only [decide_eq_true_eq, decide_eq_false_iff_not, Bool.not_eq_true', Bool.not_eq_false', Bool.and_eq_true, Bool.or_eq_true, Bool.and_eq_false_iff, Bool.or_eq_false_iff, Bool.not_eq_eq_eq_not, Bool.not_true, Bool.not_false, Int.not_le, Int.not_lt, beq_iff_eq] at hc4)
      have hnx := all_take_succ letB hg ha (hcl.2 (by omega))
      refine awp_skip ?_
      refine awp_region (by kernel_rfl) ?_
      iterate 3 (refine aL_S rfl rfl (by simp (disch := omega) only [go_sem, wrap_i64, ↓reduceIte, Nat.reduceEqDiff, Nat.reduceAdd, Nat.reduceSub, Nat.reduceMul, Nat.reduceLeDiff, reduceCtorEq, Int.reduceToNat, Int.reduceLE, Int.reduceLT]; rfl) ?_)
      refine aL_nil ?_
      refine aNext (ι := Nat) (i := p) (p + 1) ?_ ?_ ?_ ?_
      · omega
      · exact ⟨by omega, hnx⟩
      · ((repeat (refine covers.eq (by first | rfl | (simp (disch := omega) only [go_sem, wrap_i64, ↓reduceIte, Nat.reduceEqDiff, Nat.reduceAdd, Nat.reduceSub, Nat.reduceMul, Nat.reduceLeDiff, reduceCtorEq, Int.reduceToNat, Int.reduceLE, Int.reduceLT]; rfl) | (simp (disch := omega) only [go_sem, wrap_i64, ↓reduceIte, Nat.reduceEqDiff, Nat.reduceAdd, Nat.reduceSub, Nat.reduceMul, Nat.reduceLeDiff, reduceCtorEq, Int.reduceToNat, Int.reduceLE, Int.reduceLT])) ?_)); exact covers.nil)
      · first | exact Store.Wk.refl _ | exact Store.Sub.refl _ | ((try dsimp only); (try simp (disch := assumption) only [Store.newTok_set, Store.newTok_step]); (first | refine subx_start ?_ | refine subx_startS ?_); (repeat (first | refine subx_skip (.head _) ?_ | refine subx_skip (.tail _ (.head _)) ?_ | refine subx_skip (.tail _ (.tail _ (.head _))) ?_ | refine subx_skip (.tail _ (.tail _ (.tail _ (.head _)))) ?_ | refine subx_left (by first | (simp (disch := omega) only [go_sem, ↓reduceIte, Nat.reduceEqDiff, Nat.reduceAdd, Nat.reduceSub, Nat.reduceMul, Nat.reduceLeDiff, reduceCtorEq, Int.reduceToNat, Int.reduceLE, Int.reduceLT]; rfl) | simp (disch := omega) only [go_sem, ↓reduceIte, Nat.reduceEqDiff, Nat.reduceAdd, Nat.reduceSub, Nat.reduceMul, Nat.reduceLeDiff, reduceCtorEq, Int.reduceToNat, Int.reduceLE, Int.reduceLT]) ?_)); (repeat (first | exact subx_refl | refine subx_in (.head _) ?_ | refine subx_in (.tail _ (.head _)) ?_ | refine subx_in (.tail _ (.tail _ (.head _))) ?_ | refine subx_in (.tail _ (.tail _ (.tail _ (.head _)))) ?_ | refine subx_new (by first | assumption | (simp only [Store.newTok_heap]; assumption)) ?_ | refine subx_tok ?_ | refine subx_newTok (by assumption) ?_)))
  · (try simp only [decide_eq_true_eq, decide_eq_false_iff_not, Bool.not_eq_true', Bool.not_eq_false', Bool.and_eq_true, Bool.or_eq_true, Bool.and_eq_false_iff, Bool.or_eq_false_iff, Bool.not_eq_eq_eq_not, Bool.not_true, Bool.not_false, Int.not_le, Int.not_lt, beq_iff_eq] at hc2)
    refine awp_exit ?_
    refine aThen_exit ?_
    refine aThen_exit ?_
    refine aBlock_hit ?_
    refine awp_seq ?_
    refine awp_region (by kernel_rfl) ?_
    iterate 4 (refine aL_S rfl rfl (by simp (disch := omega) only [go_sem, wrap_i64, ↓reduceIte, Nat.reduceEqDiff, Nat.reduceAdd, Nat.reduceSub, Nat.reduceMul, Nat.reduceLeDiff, reduceCtorEq, Int.reduceToNat, Int.reduceLE, Int.reduceLT]; rfl) ?_)
    refine aL_GT rfl rfl (by simp (disch := omega) only [go_sem, wrap_i64, ↓reduceIte, Nat.reduceEqDiff, Nat.reduceAdd, Nat.reduceSub, Nat.reduceMul, Nat.reduceLeDiff, reduceCtorEq, Int.reduceToNat, Int.reduceLE, Int.reduceLT]; rfl) rfl (by intro hb; have hb' := hb; (try simp only [decide_eq_true_eq, decide_eq_false_iff_not, Bool.not_eq_true', Bool.not_eq_false', Bool.and_eq_true, Bool.or_eq_true, Bool.and_eq_false_iff, Bool.or_eq_false_iff, Bool.not_eq_eq_eq_not, Bool.not_true, Bool.not_false, Int.not_le, Int.not_lt, beq_iff_eq] at hb'); (try simp only [Bool.and_eq_true] at hb); first | (simp (disch := omega) only [go_sem, wrap_i64, ↓reduceIte, Nat.reduceEqDiff, Nat.reduceAdd, Nat.reduceSub, Nat.reduceMul, Nat.reduceLeDiff, reduceCtorEq, Int.reduceToNat, Int.reduceLE, Int.reduceLT]; rfl) | (simp (disch := omega) only [go_sem, wrap_i64, ↓reduceIte, Nat.reduceEqDiff, Nat.reduceAdd, Nat.reduceSub, Nat.reduceMul, Nat.reduceLeDiff, reduceCtorEq, Int.reduceToNat, Int.reduceLE, Int.reduceLT, hb]; rfl)) ?_
    refine aL_GT rfl rfl (by simp (disch := omega) only [go_sem, wrap_i64, ↓reduceIte, Nat.reduceEqDiff, Nat.reduceAdd, Nat.reduceSub, Nat.reduceMul, Nat.reduceLeDiff, reduceCtorEq, Int.reduceToNat, Int.reduceLE, Int.reduceLT]; rfl) rfl (by intro hb; have hb' := hb; (try simp only [decide_eq_true_eq, decide_eq_false_iff_not, Bool.not_eq_true', Bool.not_eq_false', Bool.and_eq_true, Bool.or_eq_true, Bool.and_eq_false_iff, Bool.or_eq_false_iff, Bool.not_eq_eq_eq_not, Bool.not_true, Bool.not_false, Int.not_le, Int.not_lt, beq_iff_eq] at hb'); (try simp only [Bool.and_eq_true] at hb); first | (simp (disch := omega) only [go_sem, wrap_i64, ↓reduceIte, Nat.reduceEqDiff, Nat.reduceAdd, Nat.reduceSub, Nat.reduceMul, Nat.reduceLeDiff, reduceCtorEq, Int.reduceToNat, Int.reduceLE, Int.reduceLT]; rfl) | (simp (disch := omega) only [go_sem, wrap_i64, ↓reduceIte, Nat.reduceEqDiff, Nat.reduceAdd, Nat.reduceSub, Nat.reduceMul, Nat.reduceLeDiff, reduceCtorEq, Int.reduceToNat, Int.reduceLE, Int.reduceLT, hb]; rfl)) ?_
    refine aL_GT rfl rfl (by simp (disch := omega) only [go_sem, wrap_i64, ↓reduceIte, Nat.reduceEqDiff, Nat.reduceAdd, Nat.reduceSub, Nat.reduceMul, Nat.reduceLeDiff, reduceCtorEq, Int.reduceToNat, Int.reduceLE, Int.reduceLT]; rfl) rfl (by intro hb; have hb' := hb; (try simp only [decide_eq_true_eq, decide_eq_false_iff_not, Bool.not_eq_true', Bool.not_eq_false', Bool.and_eq_true, Bool.or_eq_true, Bool.and_eq_false_iff, Bool.or_eq_false_iff, Bool.not_eq_eq_eq_not, Bool.not_true, Bool.not_false, Int.not_le, Int.not_lt, beq_iff_eq] at hb'); (try simp only [Bool.and_eq_true] at hb); first | (simp (disch := omega) only [go_sem, wrap_i64, ↓reduceIte, Nat.reduceEqDiff, Nat.reduceAdd, Nat.reduceSub, Nat.reduceMul, Nat.reduceLeDiff, reduceCtorEq, Int.reduceToNat, Int.reduceLE, Int.reduceLT]; rfl) | (simp (disch := omega) only [go_sem, wrap_i64, ↓reduceIte, Nat.reduceEqDiff, Nat.reduceAdd, Nat.reduceSub, Nat.reduceMul, Nat.reduceLeDiff, reduceCtorEq, Int.reduceToNat, Int.reduceLE, Int.reduceLT, hb]; rfl)) ?_
    iterate 2 (refine aL_S rfl rfl (by simp (disch := omega) only [go_sem, wrap_i64, ↓reduceIte, Nat.reduceEqDiff, Nat.reduceAdd, Nat.reduceSub, Nat.reduceMul, Nat.reduceLeDiff, reduceCtorEq, Int.reduceToNat, Int.reduceLE, Int.reduceLT]; rfl) ?_)
    refine aL_nil ?_
    refine awp_ret ?_
    refine aEnd_ret (σ' := σ) (by simp (disch := omega) only [go_sem, wrap_i64, ↓reduceIte, Nat.reduceEqDiff, Nat.reduceAdd, Nat.reduceSub, Nat.reduceMul, Nat.reduceLeDiff, reduceCtorEq, Int.reduceToNat, Int.reduceLE, Int.reduceLT]; rfl) (by first | exact Store.Wk.refl _ | exact Store.Sub.refl _ | ((try dsimp only); (try simp (disch := assumption) only [Store.newTok_set, Store.newTok_step]); (first | refine subx_start ?_ | refine subx_startS ?_); (repeat (first | refine subx_skip (.head _) ?_ | refine subx_skip (.tail _ (.head _)) ?_ | refine subx_skip (.tail _ (.tail _ (.head _))) ?_ | refine subx_skip (.tail _ (.tail _ (.tail _ (.head _)))) ?_ | refine subx_left (by first | (simp (disch := omega) only [go_sem, ↓reduceIte, Nat.reduceEqDiff, Nat.reduceAdd, Nat.reduceSub, Nat.reduceMul, Nat.reduceLeDiff, reduceCtorEq, Int.reduceToNat, Int.reduceLE, Int.reduceLT]; rfl) | simp (disch := omega) only [go_sem, ↓reduceIte, Nat.reduceEqDiff, Nat.reduceAdd, Nat.reduceSub, Nat.reduceMul, Nat.reduceLeDiff, reduceCtorEq, Int.reduceToNat, Int.reduceLE, Int.reduceLT]) ?_)); (repeat (first | exact subx_refl | refine subx_in (.head _) ?_ | refine subx_in (.tail _ (.head _)) ?_ | refine subx_in (.tail _ (.tail _ (.head _))) ?_ | refine subx_in (.tail _ (.tail _ (.tail _ (.head _)))) ?_ | refine subx_new (by first | assumption | (simp only [Store.newTok_heap]; assumption)) ?_ | refine subx_tok ?_ | refine subx_newTok (by assumption) ?_)))) ?_
    refine ⟨?_, rfl⟩
    obtain rfl : p = s.size := by omega
    rw [List.take_of_length_le (by rw [Lb_length]; exact Nat.le_refl _)] at ha
    simp only [nameOk]
    rw [ha, Bool.and_true]
    congr 2
    rw [Bool.eq_iff_iff]; simp; omega
end Go.Proofs.YtkcmbjodladflaaGreatDoor
end

section
set_option linter.all false
set_option maxRecDepth 100000
namespace Go.Proofs.YtkcmbjodladflaaGreatDoor
open Go.Ab
def fewMb (l : List Mbr) (n : Nat) : Bool := decide (l.length ≤ n) && l.all fun x => decide (x.name.size ≤ 100) && (decide (x.rack.size ≤ 100) && decide (x.zone.size ≤ 100))
theorem rFew13_c {l : List Mbr} {n : Nat} {t : Bool} {σ : Store} (hn : n ≤ 1000000) : ACalls Tryz.prog 14 [.sl 4 (l.map sMbr) t, vInt n] σ fun v σ' => v = vB (fewMb l n) ∧ σ = σ' := by
  refine ACalls_of Tryz.func14 rfl Tryz.ntmps14 (congrArg Array.toList Tryz.results14) (by simp only [List.length_cons, List.length_nil]; decide) ?_; simp only [envOf_cons, envOf_nil, Nat.reduceAdd]
  refine awp_seq ?_
  refine awp_region (by kernel_rfl) ?_
  (refine aL_S rfl rfl v_ ?_)
  refine aL_nil ?_
  refine awp_seq ?_
  refine awp_seq ?_
  refine awp_region (by kernel_rfl) ?_
  (refine aL_S rfl rfl v_ ?_)
  refine aL_nil ?_
  refine awp_block ?_
  refine awp_loop_env (ι := Nat) (fun k => l.length - k) (fun k => k ≤ l.length ∧ k ≤ n ∧ (l.take k).all (fun x => decide (x.name.size ≤ 100) && (decide (x.rack.size ≤ 100) && decide (x.zone.size ≤ 100))) = true) (fun k => [(0, .sl 4 (l.map sMbr) t), (1, vInt n), (5, vInt k)]) (fun k => σ) 0 ?_ ?_ ?_ ?_
  · exact ⟨Nat.zero_le _, Nat.zero_le _, rfl⟩
  · exact cv_
  · exact sub_
  rintro k ⟨hk, hk2, ha⟩
  simp only [envL_cons, envL_nil]
  refine awp_seq ?_
  refine awp_seq ?_
  refine awp_region (by kernel_rfl) ?_
  iterate 5 (refine aL_S rfl rfl v_ ?_)
  refine aL_GT rfl rfl v_ rfl vg_ ?_
  refine aL_GT rfl rfl v_ rfl vg_ ?_
  refine aL_GT rfl rfl v_ rfl vg_ ?_
  (refine aL_S rfl rfl v_ ?_)
  refine aL_nil ?_
  refine awp_cond v_ (fun hc2 => ?_) (fun hc2 => ?_)
  · replace hc2 := nm_ hc2
    refine awp_skip ?_
    refine awp_seq ?_
    refine awp_block ?_
    refine awp_seq ?_
    obtain ⟨x, hx⟩ := get_some (l := l) (k := k) (by omega)
    have R := hx
    refine awp_region (by kernel_rfl) ?_
    iterate 8 (refine aL_S rfl rfl v_ ?_)
    refine aL_GF rfl rfl v_ rfl vg_ ?_
    refine aL_GF rfl rfl v_ rfl vg_ ?_
    refine aL_GF rfl rfl v_ rfl vg_ ?_
    refine aL_GF rfl rfl v_ rfl vg_ ?_
    refine aL_GF rfl rfl v_ rfl vg_ ?_
    refine aL_GF rfl rfl v_ rfl vg_ ?_
    refine aL_GF rfl rfl v_ rfl vg_ ?_
    iterate 2 (refine aL_S rfl rfl v_ ?_)
    refine aL_GF rfl rfl v_ rfl vg_ ?_
    refine aL_GF rfl rfl v_ rfl vg_ ?_
    refine aL_GF rfl rfl v_ rfl vg_ ?_
    refine aL_GF rfl rfl v_ rfl vg_ ?_
    refine aL_GF rfl rfl v_ rfl vg_ ?_
    refine aL_GF rfl rfl v_ rfl vg_ ?_
    refine aL_GF rfl rfl v_ rfl vg_ ?_
    (refine aL_S rfl rfl v_ ?_)
    refine aL_nil ?_
    refine awp_cond v_ (fun hc4 => ?_) (fun hc4 => ?_)
    · replace hc4 := nm_ hc4
      refine awp_seq ?_
      refine awp_region (by kernel_rfl) ?_
      (refine aL_S rfl rfl v_ ?_)
      refine aL_nil ?_
      refine awp_ret ?_
      refine aEnd_ret (σ' := σ) v_ sub_ ?_
      exact ⟨by rw [fewMb, few_no hx (by rcases hc4 with (h | h) | h <;> simp <;> omega)], rfl⟩
    · replace hc4 := nm_ hc4
      refine awp_skip ?_
      refine awp_region (by kernel_rfl) ?_
      iterate 3 (refine aL_S rfl rfl v_ ?_)
      refine aL_nil ?_
      refine aNext (ι := Nat) (i := k) (k + 1) ?_ ?_ ?_ ?_
      · omega
      · exact ⟨by omega, by omega, all_next hx (by simp only [Bool.and_eq_true, decide_eq_true_eq]; omega) ha⟩
      · exact cv_
      · exact sub_
  · replace hc2 := nm_ hc2
    refine awp_exit ?_
    refine aThen_exit ?_
    refine aThen_exit ?_
    refine aBlock_hit ?_
    refine awp_seq ?_
    refine awp_region (by kernel_rfl) ?_
    iterate 5 (refine aL_S rfl rfl v_ ?_)
    refine aL_nil ?_
    refine awp_ret ?_
    refine aEnd_ret (σ' := σ) v_ sub_ ?_
    exact ⟨by rw [fewMb, ← few_yes ha hk (by omega)], rfl⟩
def fewAd (a : Adm) : Bool := decide (a.ten.size ≤ 100) && decide (a.bkt.size ≤ 100) && decide (a.fld.size ≤ 100) && decide (a.txt.size ≤ 300) && fewMb [a.m] 1
theorem few41_c {a : Adm} {σ : Store} : ACalls Tryz.prog 9 [sAdm a] σ fun v σ' => v = vB (fewAd a) ∧ σ = σ' := by
  refine ACalls_of Tryz.func9 rfl Tryz.ntmps9 (congrArg Array.toList Tryz.results9) (by simp only [List.length_cons, List.length_nil]; decide) ?_; simp only [envOf_cons, envOf_nil, Nat.reduceAdd]
  refine awp_seq ?_
  refine awp_region (by kernel_rfl) ?_
  refine aL_box rfl rfl rfl v_ rfl g_ fun o1 ho1 => ?_
  repeat (rw [none_set_iff] at ho1; obtain ⟨_, ho1⟩ := ho1)
  (refine aL_S rfl rfl v_ ?_)
  refine aL_nil ?_
  refine awp_seq ?_
  refine awp_region (by kernel_rfl) ?_
  iterate 5 (refine aL_S rfl rfl v_ ?_)
  refine aL_GT rfl rfl v_ rfl vg_ ?_
  refine aL_GT rfl rfl v_ rfl vg_ ?_
  refine aL_GT rfl rfl v_ rfl vg_ ?_
  refine aL_GT rfl rfl v_ rfl vg_ ?_
  iterate 2 (refine aL_S rfl rfl v_ ?_)
  refine aL_GT rfl rfl v_ rfl vg_ ?_
  refine aL_GT rfl rfl v_ rfl vg_ ?_
  refine aL_GT rfl rfl v_ rfl vg_ ?_
  refine aL_GT rfl rfl v_ rfl vg_ ?_
  iterate 2 (refine aL_S rfl rfl v_ ?_)
  refine aL_GT rfl rfl v_ rfl vg_ ?_
  refine aL_GT rfl rfl v_ rfl vg_ ?_
  refine aL_GT rfl rfl v_ rfl vg_ ?_
  refine aL_GT rfl rfl v_ rfl vg_ ?_
  iterate 2 (refine aL_S rfl rfl v_ ?_)
  refine aL_GT rfl rfl v_ rfl vg_ ?_
  refine aL_GT rfl rfl v_ rfl vg_ ?_
  refine aL_GTX (b := (decide ((a.ten.size : Int) ≤ 100) && decide ((a.bkt.size : Int) ≤ 100) && decide ((a.fld.size : Int) ≤ 100) && decide ((a.txt.size : Int) ≤ 300))) rfl rfl va_ rfl (a := .sl 4 [sMbr a.m] true) (fun hb => AOp_buildSlice' (l := [sMbr a.m]) (by rfl) g_ g_ (by rfl) (by rfl) vh_ (by simp [go_sem, hb, gval, AVal.one, AVal.cells, AVal.solid]) (by decide) ⟨rfl, rfl⟩) ?_
  refine aL_GTX rfl rfl v_ rfl (fun hb => AOp_useV (by rfl) (by rfl) (.inr ⟨by rfl, by rfl, by rfl⟩) g_ cg_ (rFew13_c (l := [a.m]) (n := 1) (by decide))) ?_
  iterate 2 (refine aL_S rfl rfl v_ ?_)
  refine aL_nil ?_
  refine awp_ret ?_
  refine aEnd_ret (σ' := σ) v_ sub_ ?_
  refine ⟨?_, rfl⟩
  unfold fewAd
  by_cases h1 : a.ten.size ≤ 100 <;> by_cases h2 : a.bkt.size ≤ 100 <;> by_cases h3 : a.fld.size ≤ 100 <;> by_cases h4 : a.txt.size ≤ 300 <;> simp [h1, h2, h3, h4] <;> omega
def newsS (a b : List Ent) : List Ent := a.filter fun x => newerS x (getS b x.key)
theorem news_yes {a b : List Ent} {i : Nat} {x : Ent} (hx : a[i]? = some x) (h : newerS x (getS b x.key) = true) : (newsS (a.take (i + 1)) b).map sEnt = (newsS (a.take i) b).map sEnt ++ [sEnt x] := by
  rw [take_snoc hx, newsS, List.filter_append, List.map_append]; simp [h, newsS]
theorem news_no {a b : List Ent} {i : Nat} {x : Ent} (hx : a[i]? = some x) (h : newerS x (getS b x.key) = false) : (newsS (a.take (i + 1)) b).map sEnt = (newsS (a.take i) b).map sEnt := by
  rw [take_snoc hx, newsS, List.filter_append, List.map_append]; simp [h, newsS]
theorem news_len (a b : List Ent) : (newsS a b).length ≤ a.length := List.length_filter_le ..
theorem rNews_c {a b : List Ent} {ta tb : Bool} {σ : Store} (la : a.length ≤ 100000) (lb : b.length ≤ 100000) : ACalls Tryz.prog 22 [.sl 4 (a.map sEnt) ta, .sl 4 (b.map sEnt) tb] σ fun v σ' => v = .sl 4 ((newsS a b).map sEnt) false ∧ σ = σ' := by
  have hol := fun i => news_len (a.take i) b
  have htl := fun i => List.length_take_le i a
  refine ACalls_of Tryz.func22 rfl Tryz.ntmps22 (congrArg Array.toList Tryz.results22) (by simp only [List.length_cons, List.length_nil]; decide) ?_; simp only [envOf_cons, envOf_nil, Nat.reduceAdd]
  refine awp_seq ?_
  refine awp_region (by kernel_rfl) ?_
  (refine aL_S rfl rfl v_ ?_)
  refine aL_nil ?_
  refine awp_seq ?_
  refine awp_region (by kernel_rfl) ?_
  refine aL_nilOwn 45 4 rfl rfl rfl (by rfl) fun k5 hk5 => ?_
  refine aL_nil ?_
  refine awp_seq ?_
  refine awp_seq ?_
  refine awp_region (by kernel_rfl) ?_
  (refine aL_S rfl rfl v_ ?_)
  refine aL_nil ?_
  refine awp_block ?_
  refine awp_loop_env (ι := Nat × Nat) (fun ⟨tk, i⟩ => a.length - i) (fun ⟨tk, i⟩ => i ≤ a.length ∧ σ.tok tk = none) (fun ⟨tk, i⟩ => [(0, .sl 4 (a.map sEnt) ta), (1, .sl 4 (b.map sEnt) tb), (5, .own tk 4 ((newsS (a.take i) b).map sEnt)), (6, vInt i)]) (fun ⟨tk, i⟩ => (σ.newTok none tk (45, 4))) (k5, 0) ?_ ?_ ?_ ?_
  · exact ⟨Nat.zero_le _, hk5⟩
  · exact cv_
  · exact Store.Wk.refl _
  rintro ⟨tk, i⟩ ⟨hi, htk⟩
  simp only [envL_cons, envL_nil]
  refine awp_seq ?_
  refine awp_seq ?_
  refine awp_region (by kernel_rfl) ?_
  iterate 4 (refine aL_S rfl rfl v_ ?_)
  refine aL_nil ?_
  refine awp_cond v_ (fun hc3 => ?_) (fun hc3 => ?_)
  · replace hc3 := nm_ hc3
    refine awp_skip ?_
    refine awp_seq ?_
    refine awp_block ?_
    refine awp_seq ?_
    obtain ⟨x, hx⟩ := get_some (l := a) (k := i) (by omega)
    have h1 := hol i
    have h2 := htl i
    have R := hx
    refine awp_draw (.op 0 0 (.op 1 0 (.op 2 0 (.op 3 0 (.op 4 0 (.op 5 0 (.op 6 0 (.op 7 0 (.op 8 0 (.op 9 0 (.op 10 0 (.op 11 1 (.op 12 2 .nil))))))))))))) Tryz.mixed (by kernel_rfl) ?_
    iterate 11 (refine dR_S o_ (by rfl) (by rfl) v_ ?_)
    refine dR_X o_ (by rfl) (by rfl) (AOp_use (by rfl) (by rfl) (.inr ⟨by rfl, by rfl, by rfl⟩) g_ va_ (rGet_c (by omega)) ?_); rintro _ _ ⟨rfl, rfl⟩; refine ⟨sub_, ?_⟩
    refine dR_T o_ (by rfl) (by rfl) (AOp_use (by rfl) (by rfl) (.inr ⟨by rfl, by rfl, by rfl⟩) g_ va_ (rNewer_c) ?_); rintro _ _ ⟨rfl, rfl⟩
    refine dR_nil ?_
    refine awp_cond v_ (fun hc5 => ?_) (fun hc5 => ?_)
    · replace hc5 := nm_ hc5
      have hcv := news_yes hx hc5
      have R := hx
      refine awp_region (by kernel_rfl) ?_
      iterate 5 (refine aL_S rfl rfl v_ ?_)
      refine aL_buildSlice rfl rfl rfl g_ g_ rfl rfl h_ c2_ (by decide) ?_
      refine aL_append rfl rfl rfl g_ g_ v_ h_ v_ c_ (by simp; omega) fun k32 hk32 => ?_
      (refine aL_S rfl rfl v_ ?_)
      refine aL_nil ?_
      refine awp_region (by kernel_rfl) ?_
      iterate 3 (refine aL_S rfl rfl v_ ?_)
      refine aL_nil ?_
      refine aNext (ι := Nat × Nat) (i := ⟨tk, i⟩) (k32, i + 1) ?_ ?_ ?_ ?_
      · show a.length - (i + 1) < a.length - i; omega
      · exact ⟨by show i + 1 ≤ a.length; omega, (newTok_none hk32).2⟩
      · have R := hcv; exact cv_
      · exact sub_
    · replace hc5 := nm_ hc5
      have hcv := news_no hx (by simpa using hc5)
      refine awp_skip ?_
      refine awp_region (by kernel_rfl) ?_
      iterate 3 (refine aL_S rfl rfl v_ ?_)
      refine aL_nil ?_
      refine aNext (ι := Nat × Nat) (i := ⟨tk, i⟩) (tk, i + 1) ?_ ?_ ?_ ?_
      · show a.length - (i + 1) < a.length - i; omega
      · exact ⟨by show i + 1 ≤ a.length; omega, htk⟩
      · have R := hcv; exact cv_
      · exact sub_
  · replace hc3 := nm_ hc3
    refine awp_exit ?_
    refine aThen_exit ?_
    refine aThen_exit ?_
    refine aBlock_hit ?_
    refine awp_seq ?_
    obtain rfl : i = a.length := by omega
    rw [List.take_length]
    refine awp_region (by kernel_rfl) ?_
    iterate 2 (refine aL_S rfl rfl v_ ?_)
    refine aL_nil ?_
    refine awp_ret ?_
    exact aEnd_retW (v := .sl 4 ((newsS a b).map sEnt) false) (v' := .own tk 4 ((newsS a b).map sEnt)) va_ (.own1 _ _ _) sub_ ⟨rfl, rfl⟩
end Go.Proofs.YtkcmbjodladflaaGreatDoor
end

section
set_option linter.all false
set_option maxRecDepth 100000
namespace Go.Proofs.YtkcmbjodladflaaGreatDoor
open Go.Ab
theorem ad_err {l : List Ent} {who : ByteArray} {a : Adm} (h : (adS l who a).2 ≠ 0) : (adS l who a).1 = [] := by
  unfold adS at h ⊢
  split
  · rename_i h1
    rw [if_pos h1] at h
    split
    · rename_i h2; rw [if_pos h2] at h; exact absurd rfl h
    · rfl
  · rfl
theorem fewAd_sm {a : Adm} (h : fewAd a = true) (h0 : -9223372036854775808 ≤ a.n) (h1 : a.n ≤ 9223372036854775807) : AdmSm a := by
  simp only [fewAd, fewMb, Bool.and_eq_true, decide_eq_true_eq, List.all_cons, List.all_nil, Bool.and_true] at h
  obtain ⟨⟨⟨⟨g1, g2⟩, g3⟩, g4⟩, _, g5, g6, g7⟩ := h
  exact ⟨by omega, by omega, by omega, by omega, h0, h1, by omega, by omega, by omega⟩
theorem nameOk_sz {s : ByteArray} (h : nameOk s = true) : s.size ≤ 16 := by
  simp only [nameOk, Bool.and_eq_true, decide_eq_true_eq] at h
  omega
theorem news_nil {xs L : List Ent} (h : ∀ x ∈ xs, getS L x.key = x) : newsS xs L = [] := by
  rw [newsS, List.filter_eq_nil_iff]
  intro x hx
  rw [h x hx, newer_irrefl]; simp
theorem ent_sm {x : Ent} (h : entOk x = true) : EntSm x := by
  unfold entOk regOk at h
  simp only [Bool.and_eq_true, Bool.or_eq_true, decide_eq_true_eq] at h
  obtain ⟨⟨h1, h2⟩, ⟨⟨h3, h4⟩, h5⟩, h6⟩ := h
  have hw : x.who.size ≤ 16 := by
    rcases h5 with h5 | h5
    · omega
    · exact nameOk_sz h5
  exact ⟨by omega, by omega, by omega⟩
theorem put_eq {L : List Ent} {x : Ent} (h : entsOk L = true) (hx : entOk x = true) (hn : L.length < 4096) : putE L x = (putS x L, 0) := by
  have := putS_len x L
  rw [putE, h, hx, if_neg (by simp), if_neg (by omega)]
set_option maxHeartbeats 4000000 in
theorem adminNewer_c {l : List Ent} {t : Bool} {who : ByteArray} {a : Adm} {σ : Store} (hw : who.size ≤ 9223372036854775807) (n0 : -9223372036854775808 ≤ a.n) (n1 : a.n ≤ 9223372036854775807) : ACalls Tryz.prog 5 [.sl 4 (l.map sEnt) t, vStr who, sAdm a] σ fun v σ' => v = vB true ∧ σ = σ' := by
  refine ACalls_of Tryz.func5 rfl Tryz.ntmps5 (congrArg Array.toList Tryz.results5) (by simp only [List.length_cons, List.length_nil]; decide) ?_; simp only [envOf_cons, envOf_nil, Nat.reduceAdd]
  refine awp_seq ?_
  refine awp_region (by kernel_rfl) ?_
  refine aL_box rfl rfl rfl v_ rfl g_ fun o5 ho5 => ?_
  repeat (rw [none_set_iff] at ho5; obtain ⟨_, ho5⟩ := ho5)
  (refine aL_S rfl rfl v_ ?_)
  refine aL_nil ?_
  refine awp_seq ?_
  refine awp_seq ?_
  refine awp_region (by kernel_rfl) ?_
  (refine aL_S rfl rfl v_ ?_)
  refine aL_X rfl rfl (AOp_use rfl rfl (.inr ⟨rfl, rfl, rfl⟩) g_ va_ (fewEn_c (n := 40) (by decide)) ?_); rintro _ _ ⟨rfl, rfl⟩
  iterate 2 (refine aL_S rfl rfl v_ ?_)
  refine aL_GF rfl rfl v_ rfl vg_ ?_
  refine aL_GFX rfl rfl v_ rfl (fun hb => AOp_useV (by rfl) (by rfl) (.inr ⟨by rfl, by rfl, by rfl⟩) g_ cg_ (rMay10_c (fewEn_sm (show fewEn l 40 = true from by simp_all)).2.1 (by have := (fewEn_sm (show fewEn l 40 = true from by simp_all)).1; omega))) ?_
  refine aL_GF rfl rfl v_ rfl vg_ ?_
  iterate 2 (refine aL_S rfl rfl v_ ?_)
  refine aL_GF rfl rfl v_ rfl vg_ ?_
  refine aL_GFX rfl rfl v_ rfl (fun hb => AOp_useV (by rfl) (by rfl) (.inr ⟨by rfl, by rfl, by rfl⟩) g_ cg_ (rIsL_c hw)) ?_
  refine aL_GF rfl rfl v_ rfl vg_ ?_
  iterate 2 (refine aL_S rfl rfl v_ ?_)
  refine aL_GF rfl rfl v_ rfl vg_ ?_
  refine aL_GFX rfl rfl v_ rfl (fun hb => AOp_useV (by rfl) (by rfl) (.inr ⟨by rfl, by rfl, by rfl⟩) g_ cg_ (few41_c)) ?_
  refine aL_GF rfl rfl v_ rfl vg_ ?_
  (refine aL_S rfl rfl v_ ?_)
  refine aL_nil ?_
  refine awp_cond v_ (fun hc1 => ?_) (fun hc1 => ?_)
  · replace hc1 := nm_ hc1
    refine awp_seq ?_
    refine awp_region (by kernel_rfl) ?_
    refine aL_X rfl rfl (AOp_use rfl rfl (.inr ⟨rfl, rfl, rfl⟩) g_ va_ (awake41_c) ?_); rintro _ _ ⟨rfl, rfl⟩
    (refine aL_S rfl rfl v_ ?_)
    refine aL_nil ?_
    refine awp_ret ?_
    refine aEnd_ret (σ' := σ) v_ sub_ ?_
    exact ⟨rfl, rfl⟩
  · replace hc1 := nm_ hc1
    have hfe : fewEn l 40 = true := by simp_all
    have hok : entsOk l = true := by simp_all
    have hwk : nameOk who = true := by simp_all
    have hfa : fewAd a = true := by simp_all
    obtain ⟨nl, hs, hk⟩ := fewEn_sm hfe
    have hws := nameOk_sz hwk
    refine awp_skip ?_
    refine awp_seq ?_
    refine awp_region (by kernel_rfl) ?_
    iterate 3 (refine aL_S rfl rfl v_ ?_)
    refine aL_X rfl rfl (AOp_use rfl rfl (.inr ⟨rfl, rfl, rfl⟩) g_ va_ (adEntries_c hs (fun x hx => by have := hk x hx; omega) (by omega) (by omega) (fewAd_sm hfa n0 n1)) ?_); rintro _ _ ⟨rfl, rfl⟩
    iterate 5 (refine aL_S rfl rfl v_ ?_)
    refine aL_nil ?_
    obtain ⟨R, hR⟩ : ∃ R, adS l who a = R := ⟨_, rfl⟩
    have hE := ad_err (l := l) (who := who) (a := a)
    have hP := ad_puts (l := l) (who := who) (a := a)
    rw [hR] at hE hP ⊢
    obtain ⟨X, n⟩ := R
    dsimp only at hE hP ⊢
    refine awp_seq ?_
    refine awp_seq ?_
    refine awp_region (by kernel_rfl) ?_
    iterate 2 (refine aL_S rfl rfl v_ ?_)
    refine aL_nil ?_
    refine awp_cond v_ (fun hc4 => ?_) (fun hc4 => ?_)
    · replace hc4 := nm_ hc4
      obtain rfl := hE hc4
      refine awp_seq ?_
      refine awp_region (by kernel_rfl) ?_
      iterate 4 (refine aL_S rfl rfl v_ ?_)
      refine aL_GTX rfl rfl v_ rfl (fun hb => AOp_useV (by rfl) (by rfl) (.inr ⟨by rfl, by rfl, by rfl⟩) g_ cg_ (awake41_c)) ?_
      iterate 2 (refine aL_S rfl rfl v_ ?_)
      refine aL_nil ?_
      refine awp_ret ?_
      refine aEnd_ret (σ' := σ) v_ sub_ ?_
      exact ⟨rfl, rfl⟩
    · replace hc4 := nm_ hc4
      obtain rfl : n = 0 := by omega
      obtain ⟨hp, hall, hfew⟩ := hP rfl
      refine awp_skip ?_
      refine awp_seq ?_
      refine awp_region (by kernel_rfl) ?_
      iterate 3 (refine aL_S rfl rfl v_ ?_)
      refine aL_nil ?_
      refine awp_seq ?_
      refine awp_seq ?_
      refine awp_region (by kernel_rfl) ?_
      (refine aL_S rfl rfl v_ ?_)
      refine aL_nil ?_
      refine awp_block ?_
      refine awp_loop_env (ι := Nat × Bool) (fun ⟨i, u⟩ => X.length - i) (fun ⟨i, u⟩ => i ≤ X.length) (fun ⟨i, u⟩ => [(0, .sl 4 (l.map sEnt) t), (1, vStr who), (5, .ref o5 0), (7, .sl 4 (X.map sEnt) false), (8, vInt 0), (9, .sl 4 ((jnS l (X.take i)).map sEnt) u), (10, vInt 0), (11, vInt i)]) (fun ⟨i, u⟩ => (σ.set o5 (.cells (sAdm a).cells))) (0, t) ?_ ?_ ?_ ?_
      · exact Nat.zero_le _
      · exact cv_
      · exact Store.Wk.refl _
      rintro ⟨i, u⟩ hi
      simp only [envL_cons, envL_nil]
      refine awp_seq ?_
      refine awp_seq ?_
      refine awp_region (by kernel_rfl) ?_
      iterate 4 (refine aL_S rfl rfl v_ ?_)
      refine aL_nil ?_
      refine awp_cond v_ (fun hc8 => ?_) (fun hc8 => ?_)
      · replace hc8 := nm_ hc8
        refine awp_skip ?_
        refine awp_seq ?_
        refine awp_block ?_
        refine awp_seq ?_
        refine awp_seq ?_
        obtain ⟨x, hx⟩ := get_some (l := X) (k := i) (by omega)
        have hst := jn_snoc (a := l) hx
        have hle := jn_len (X.take i) l
        rw [List.length_take] at hle
        have hnw := (hp.ok x (List.mem_of_getElem? hx)).2
        have hxo := (hp.ok x (List.mem_of_getElem? hx)).1
        have hxw := hall x (List.mem_of_getElem? hx)
        have hjo := jn_ok (hp.take i) hok (by rw [List.length_take]; omega)
        have hpe := put_eq hjo hxo (by omega)
        have R := hx
        refine awp_draw (.op 0 0 (.op 1 0 (.op 2 0 (.op 3 0 (.op 4 0 (.op 5 0 (.op 6 0 (.op 7 0 (.op 8 0 (.op 9 0 (.op 10 0 (.op 11 1 (.op 12 1 (.op 13 0 (.op 14 0 (.op 15 0 (.op 16 0 (.op 17 0 (.op 18 0 (.op 19 0 (.op 20 0 (.op 21 0 (.op 22 0 (.op 23 0 .nil)))))))))))))))))))))))) Tryz.mixed (by kernel_rfl) ?_
        iterate 11 (refine dR_S o_ (by rfl) (by rfl) v_ ?_)
        refine dR_X o_ (by rfl) (by rfl) (AOp_use (by rfl) (by rfl) (.inr ⟨by rfl, by rfl, by rfl⟩) g_ va_ (rGet_c (by omega)) ?_); rintro _ _ ⟨rfl, rfl⟩; refine ⟨sub_, ?_⟩
        refine dR_X o_ (by rfl) (by rfl) (AOp_use (by rfl) (by rfl) (.inr ⟨by rfl, by rfl, by rfl⟩) g_ va_ (rNewer_c) ?_); rintro _ _ ⟨rfl, rfl⟩; refine ⟨sub_, ?_⟩
        iterate 2 (refine dR_S o_ (by rfl) (by rfl) v_ ?_)
        refine dR_GF o_ (by rfl) (by rfl) v_ (by rfl) vg_ ?_
        refine dR_GF o_ (by rfl) (by rfl) v_ (by rfl) vg_ ?_
        refine dR_GF o_ (by rfl) (by rfl) v_ (by rfl) vg_ ?_
        refine dR_GF o_ (by rfl) (by rfl) v_ (by rfl) vg_ ?_
        refine dR_GF o_ (by rfl) (by rfl) v_ (by rfl) vg_ ?_
        refine dR_GF o_ (by rfl) (by rfl) v_ (by rfl) vg_ ?_
        refine dR_GF o_ (by rfl) (by rfl) v_ (by rfl) vg_ ?_
        refine dR_GF o_ (by rfl) (by rfl) v_ (by rfl) vg_ ?_
        (refine dR_S o_ (by rfl) (by rfl) v_ ?_)
        refine dR_nil ?_
        refine awp_cond v_ (fun hc10 => ?_) (fun hc10 => ?_)
        · replace hc10 := nm_ hc10
          simp [hnw, hxw] at hc10
        · replace hc10 := nm_ hc10
          refine awp_skip ?_
          refine awp_seq ?_
          have R := hx
          refine awp_region (by kernel_rfl) ?_
          iterate 5 (refine aL_S rfl rfl v_ ?_)
          refine aL_X rfl rfl (AOp_use rfl rfl (.inr ⟨rfl, rfl, rfl⟩) g_ va_ (rPut_c (y := x) (by omega) (fun z hz => (ents_sm hjo z hz).1) (ent_sm hxo)) ?_); rintro _ _ ⟨rfl, rfl⟩
          iterate 5 (refine aL_S rfl rfl v_ ?_)
          refine aL_nil ?_
          rw [hpe]
          refine awp_seq ?_
          refine awp_region (by kernel_rfl) ?_
          iterate 2 (refine aL_S rfl rfl v_ ?_)
          refine aL_nil ?_
          refine awp_cond v_ (fun hc13 => ?_) (fun hc13 => ?_)
          · replace hc13 := nm_ hc13
            exact absurd hc13 (by decide)
          · replace hc13 := nm_ hc13
            refine awp_skip ?_
            refine awp_region (by kernel_rfl) ?_
            iterate 3 (refine aL_S rfl rfl v_ ?_)
            refine aL_nil ?_
            refine aNext (ι := Nat × Bool) (i := ⟨i, u⟩) (i + 1, false) ?_ ?_ ?_ ?_
            · show X.length - (i + 1) < X.length - i; omega
            · (show i + 1 ≤ X.length; omega)
            · have R := hst; exact cv_
            · exact sub_
      · replace hc8 := nm_ hc8
        refine awp_exit ?_
        refine aThen_exit ?_
        refine aThen_exit ?_
        refine aBlock_hit ?_
        refine awp_seq ?_
        obtain rfl : i = X.length := by omega
        have hle := jn_len X l
        have hjo := jn_ok hp hok (by omega)
        have hnn := news_nil (jn_get hp)
        rw [List.take_length]
        refine awp_region (by kernel_rfl) ?_
        iterate 2 (refine aL_S rfl rfl v_ ?_)
        refine aL_X rfl rfl (AOp_use rfl rfl (.inr ⟨rfl, rfl, rfl⟩) g_ va_ (rNews_c (by omega) (by omega)) ?_); rintro _ _ ⟨rfl, rfl⟩
        rw [hnn]
        iterate 3 (refine aL_S rfl rfl v_ ?_)
        refine aL_GT rfl rfl v_ rfl vg_ ?_
        refine aL_GTX rfl rfl v_ rfl (fun hb => AOp_useV (by rfl) (by rfl) (.inr ⟨by rfl, by rfl, by rfl⟩) g_ cg_ (rMay10_c (fun z hz => (ents_sm hjo z hz).1) (by omega))) ?_
        iterate 2 (refine aL_S rfl rfl v_ ?_)
        refine aL_GTX rfl rfl v_ rfl (fun hb => AOp_useV (by rfl) (by rfl) (.inr ⟨by rfl, by rfl, by rfl⟩) g_ cg_ (awake41_c)) ?_
        iterate 2 (refine aL_S rfl rfl v_ ?_)
        refine aL_nil ?_
        refine awp_ret ?_
        refine aEnd_ret (σ' := σ) v_ sub_ ?_
        exact ⟨by rw [hjo]; rfl, rfl⟩
end Go.Proofs.YtkcmbjodladflaaGreatDoor
end

section
set_option linter.all false
set_option maxRecDepth 100000
namespace Go.Proofs.YtkcmbjodladflaaGreatDoor
open Go.Ab
abbrev shAdm : Go.Ab.Sh := .pair (.int .i64) (.pair .str (.pair .str (.pair .str (.pair .str (.pair (.int .i64) (.pair (.pair .str (.pair .str (.pair .str (.pair .bool .unit)))) .unit))))))
theorem rv_strZ {a : AVal} (h : Sh.okv .str false a) : ∃ s : ByteArray, a = vStr s ∧ s.size ≤ 9223372036854775807 := by
  obtain ⟨c, ⟨s, rfl, hs⟩, e⟩ := h
  simp only [Bool.false_eq_true, if_false, List.cons.injEq, and_true] at e
  exact ⟨s, e.symm, Nat.le_trans hs (by decide)⟩
theorem rv_adm {a : AVal} (h : Sh.okv shAdm true a) : ∃ x : Adm, a = sAdm x ∧ -9223372036854775808 ≤ x.n ∧ x.n ≤ 9223372036854775807 := by
  obtain ⟨c, ⟨_, _, rfl, ⟨k, rfl, _⟩, _, _, rfl, ⟨s0, rfl, _⟩, _, _, rfl, ⟨s1, rfl, _⟩, _, _, rfl, ⟨s2, rfl, _⟩, _, _, rfl, ⟨s3, rfl, _⟩, _, _, rfl, ⟨n, rfl, hn⟩, _, _, rfl, ⟨_, _, rfl, ⟨m0, rfl, _⟩, _, _, rfl, ⟨m1, rfl, _⟩, _, _, rfl, ⟨m2, rfl, _⟩, _, _, rfl, ⟨b, rfl⟩, rfl⟩, rfl⟩, e⟩ := h
  simp only [if_true] at e
  simp only [Lit.wf, Bool.and_eq_true, decide_eq_true_eq] at hn
  exact ⟨⟨k, s0, s1, s2, s3, n, ⟨m0, m1, m2, b⟩⟩, by rw [e]; rfl, Int.le_trans (by decide) hn.1, Int.le_trans hn.2 (by decide)⟩
end Go.Proofs.YtkcmbjodladflaaGreatDoor
end
