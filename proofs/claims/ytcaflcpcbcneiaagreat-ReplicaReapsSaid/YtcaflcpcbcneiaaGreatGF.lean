/-
  Whether an object may be; The reference's May, Same and Few; Books and registries: whether they may be, on both sides; WHAT IS KNOWN OF WRITES, plainly: rows that rise, each node's dots as a set, contexts joined; OBJECTS MERGED, plainly: per dot nothing is known, a value, or that it is replaced; merging is the greater of these; Objects held against one another, as functions; ITEMS MERGED, plainly: two rows that rise, gone through side by side; and the document's way, each put in its place; GUARDED OPERATIONS BEHIND ONE THAT WRITES, in a drawn region; slices.Concat of items; Registries: whether they may be, on both sides. Messages: whether they may be; Messages: whether they may be, on both sides. Own work (an AI agent).
-/
import Derived.Test.YtcaflcpcbcneiaaGreatGE
import Derived.Test.YtcaflcpcbcneiaaGreatGD

section
set_option linter.all false
set_option maxRecDepth 100000
namespace Go.Proofs.YtcaflcpcbcneiaaGreat
open Go.Ab
def oneS (s : ByteArray) (n : Int) : Seen := if n = 1 then ⟨s, 1, []⟩ else ⟨s, 0, [n]⟩
def eB_ (s : ByteArray) (n : Int) : Bool := bS_ s && decide (1 ≤ n) && decide (n ≤ 9007199254740992)
def addS (c : List Seen) (s : ByteArray) (n : Int) : List Seen × Int := if eB_ s n then bB_ c [oneS s n] else ([], 1)
theorem f2_ (s : ByteArray) (n : Int) : (oneS s n).node = s := by unfold oneS; split <;> rfl
theorem oS_ {s : ByteArray} {n : Int} (h : (bS_ s = true ∧ 1 ≤ n) ∧ n ≤ 9007199254740992) : eB_ s n = true := by simp [eB_, h.1.1, h.1.2, h.2]
theorem qZ_ {s : ByteArray} {n : Int} (h : (bS_ s = false ∨ n < 1) ∨ 9007199254740992 < n) : eB_ s n = false := by
 unfold eB_
 rcases h with (h | h) | h
 ·rw [h]; rfl
 ·rw [decide_eq_false (show ¬ 1 ≤ n by omega)]; simp
 ·rw [decide_eq_false (show ¬ n ≤ 9007199254740992 by omega)]; simp
theorem fQ_ {s : ByteArray} {n : Int} : eB_ s n = true ↔ (bS_ s = true ∧ 1 ≤ n) ∧ n ≤ 9007199254740992 := by simp [eB_]
theorem ei_ {s : ByteArray} (h : bS_ s = true) : s.size ≤ 16 := by
 simp only [bS_, Bool.and_eq_true, decide_eq_true_eq] at h
 exact h.1.2
theorem wR_ {c : List Seen} {s : ByteArray} {n : Int} {t : Bool} {σ : Store} (hA : ∀ x ∈ c, SeenSm x) (hn : c.length ≤ 100000) (hs : s.size ≤ 1000000) :
  ai_ Tryz.prog 179 [.sl 3 (c.map az_) t, sDot s n] σ fun v σ' => v = .tup [.sl 3 ((addS c s n).1.map az_) false, vInt (addS c s n).2] ∧ σ = σ' := by
 have hon := f2_ s n
 have hsm : ∀ x ∈ [oneS s n], SeenSm x := fun x hx => by
  obtain rfl := List.mem_singleton.1 hx
  refine ⟨by rw [hon]; exact hs, ?_⟩
  unfold oneS; split <;> simp
 refine en_ Tryz.func179 Tryz.ntmps179 Tryz.results179 ?_
 refine rr_ ?_
 refine bx_ fun o3 ho3 => ?_
 repeat (rw [ac_] at ho3; obtain ⟨_, ho3⟩ := ho3)
 iterate 2 refine s_ ?_
 refine aa_ ?_
 refine ab_ ?_
 refine rr_ ?_
 iterate 2 refine s_ ?_
 refine x_ g_ va_ (jo_ (by omega)) ?_; rintro _ _ ⟨rfl, rfl⟩
 iterate 2 refine s_ ?_
 refine gf_ ?_
 refine gf_ ?_
 refine gf_ ?_
 iterate 2 refine s_ ?_
 refine gf_ ?_
 refine gf_ ?_
 refine gf_ ?_
 refine s_ ?_
 refine aa_ ?_
 refine cd_ (fun hc1 => ?_) (fun hc1 => ?_)
 ·refine rr_ ?_
  iterate 2 refine s_ ?_
  refine aa_ ?_
  refine af_ ?_
  rw [show addS c s n = ([], 1) from by rw [addS, qZ_ hc1]; rfl]
  exact aw_ (v := .tup [.sl 3 [] false, vInt 1]) (v' := .tup [vNil, vInt 1]) va_ (.tup _ _ rfl (fun i hi hi' => by match i, hi with | 0, _ => exact .nil _ _ | 1, _ => exact .refl _)) sub_ ⟨rfl, rfl⟩
 ·have hd := oS_ hc1
  have haj : addS c s n = bB_ c [oneS s n] := by rw [addS, hd]; rfl
  refine ae_ ?_
  refine rr_ ?_
  iterate 3 refine s_ ?_
  refine lc_ fun o6 ho6 => ?_
  repeat (rw [ac_] at ho6; obtain ⟨_, ho6⟩ := ho6)
  refine st_ ?_
  refine aa_ ?_
  refine ab_ ?_
  refine rr_ ?_
  iterate 3 refine s_ ?_
  refine aa_ ?_
  refine cd_ (fun hc4 => ?_) (fun hc4 => ?_)
  ·refine r_ ?_
   refine s_ ?_
   refine st_ ?_
   refine aa_ ?_
   refine cI_ o6 [.lit (.string (oneS s n).node), vInt (oneS s n).base, .sl 1 ((oneS s n).more.map vInt) false] h_ (by rw [show oneS s n = ⟨s, 1, []⟩ from if_pos hc4]; exact ⟨.refl _, .refl _, .nil _ _, trivial⟩) ?_
   refine rr_ ?_
   iterate 2 refine s_ ?_
   refine ao_ rfl rfl rfl g_ g_ rfl rfl h_ c2_ (by decide) ?_
   refine x_ g_ va_ (pc_ (b := [oneS s n]) hA hsm hn (by simp)) ?_; rintro _ _ ⟨rfl, rfl⟩
   iterate 4 refine s_ ?_
   refine aa_ ?_
   refine af_ ?_
   refine er_ σ ?_
   exact ⟨by rw [haj], rfl⟩
  ·refine r_ ?_
   iterate 2 refine s_ ?_
   refine ao_ rfl rfl rfl g_ g_ rfl rfl h_ c2_ (by decide) ?_
   refine s_ ?_
   refine st_ ?_
   refine aa_ ?_
   refine cI_ o6 [.lit (.string (oneS s n).node), vInt (oneS s n).base, .sl 1 ((oneS s n).more.map vInt) false] h_ (by rw [show oneS s n = ⟨s, 0, [n]⟩ from if_neg hc4]; exact ⟨.refl _, .refl _, .sl1 _ _ _, trivial⟩) ?_
   refine rr_ ?_
   iterate 2 refine s_ ?_
   refine ao_ rfl rfl rfl g_ g_ rfl rfl h_ c2_ (by decide) ?_
   refine x_ g_ va_ (pc_ (b := [oneS s n]) hA hsm hn (by simp)) ?_; rintro _ _ ⟨rfl, rfl⟩
   iterate 4 refine s_ ?_
   refine aa_ ?_
   refine af_ ?_
   refine er_ σ ?_
   exact ⟨by rw [haj], rfl⟩
theorem fq_ {α : Type} [DecidableEq α] [Inhabited α] (x : α) : Lib.compact [x] = [x] := by
 simp [Lib.compact, Lib.compactUpTo, List.range_succ, Lib.keeps]
theorem kc_ {s : ByteArray} {n : Int} (h : eB_ s n = true) : b5_ [oneS s n] = true := by
 obtain ⟨⟨h1, h2⟩, h3⟩ := fQ_.1 h
 unfold b5_ eb_ eb_
 unfold oneS
 split
 ·simp [cF_, du_, h1, cl_, b3_]
 ·simp [cF_, du_, h1, cl_, b3_, h3]; omega
theorem qP_ {s : ByteArray} {n : Int} (h : eB_ s n = true) : cJ_ (gY_ s) (oneS s n) = oneS s n := by
 obtain ⟨⟨h1, h2⟩, h3⟩ := fQ_.1 h
 have e : ∀ l : List Int, l.length ≤ 1 → ej_ l = l := fun l hl => by
  match l, hl with
  |[], _ => simp [ej_, d2_, Lib.compact, Lib.compactUpTo]
  |[x], _ => simp [ej_, d2_, fq_]
 unfold cJ_ la_
 rw [e _ (by unfold oneS gY_; split <;> simp)]
 unfold oneS gY_
 split
 ·rename_i h; simp; omega
 ·rename_i h
  have h0 : 0 < n := by omega
  simp [ch_, h, h0]
theorem hM_ {s : ByteArray} {n : Int} (h : eB_ s n = true) : a1_ [] [oneS s n] = [oneS s n] := by
 have e : c9_ [] [oneS s n] = [s] := by simp [c9_, cG_, bZ_, fq_, f2_, B_Lb]
 unfold a1_
 rw [e]
 have e2 : ofS [oneS s n] s = oneS s n := by simp [ofS, f2_]
 have e1 : ofS [] s = gY_ s := rfl
 rw [List.map_cons, List.map_nil, e1, e2, qP_ h]
theorem sg_ (s : ByteArray) (n : Int) : (addS [] s n).2 = if eB_ s n then 0 else 1 := by
 unfold addS
 cases h : eB_ s n with
 |false => rfl
 |true => simp [bB_, hM_ h, kc_ h, show b5_ [] = true from rfl]
theorem td_ (b : Bool) : decide ((if b = true then (0 : Int) else 1) = 0) = b := by cases b <;> rfl
theorem te_ (m k : Nat) : decide ((m : Int) ≤ (k : Int)) = decide (m ≤ k) := by
 by_cases h : m ≤ k
 ·rw [decide_eq_true h, decide_eq_true (by omega)]
 ·rw [decide_eq_false h, decide_eq_false (by omega)]
theorem sx_ (m : Nat) : decide ((m : Int) ≤ 256) = decide (m ≤ 256) := te_ m 256
def gH_ (x : Sib) : Bool := eB_ x.node x.n && decide (x.value.size ≤ 256) && (!x.gone || decide (x.value = ⟨#[]⟩)) && decide (0 ≤ x.time) && decide (x.time ≤ 9007199254740992)
theorem tt_ {x : Sib} {σ : Store} (hx : SibSm x) : ai_ Tryz.prog 129 [sSib x] σ fun v σ' => v = vB (gH_ x) ∧ σ = σ' := by
 have h1 := hx.node; have h2 := hx.value
 have hsz : (if eB_ x.node x.n = true then (0 : Int) else 1) = 0 ↔ eB_ x.node x.n = true := chk0
 refine en_ Tryz.func129 Tryz.ntmps129 Tryz.results129 ?_
 refine rr_ ?_
 refine bx_ fun o1 ho1 => ?_
 repeat (rw [ac_] at ho1; obtain ⟨_, ho1⟩ := ho1)
 refine s_ ?_
 refine aa_ ?_
 refine rr_ ?_
 iterate 2 refine s_ ?_
 refine x_ g_ va_ (ai_.wkA (args := [vNil, sDot x.node x.n]) (wR_ (c := []) (t := false) (s := x.node) (n := x.n) (fun _ h => by cases h) (by simp) (by omega)) rfl (fun j hj hj' => by match j, hj with | 0, _ => exact .nil _ _ | 1, _ => exact .refl _)) ?_; rintro _ _ ⟨rfl, rfl⟩
 rw [sg_]
 iterate 5 refine s_ ?_
 refine aa_ ?_
 refine rr_ ?_
 iterate 3 refine s_ ?_
 refine gt_ ?_
 refine gt_ ?_
 refine gt_ ?_
 refine gt_ ?_
 iterate 2 refine s_ ?_
 refine gt_ ?_
 refine gt_ ?_
 refine gt_ ?_
 refine gt_ ?_
 refine dB_ rfl rfl v_ rfl vg_ ?_
 refine dB_ rfl rfl v_ rfl vg_ ?_
 refine dB_ rfl rfl v_ rfl vg_ ?_
 refine gt_ ?_
 iterate 2 refine s_ ?_
 refine gt_ ?_
 refine gt_ ?_
 refine gt_ ?_
 iterate 2 refine s_ ?_
 refine gt_ ?_
 refine gt_ ?_
 refine gt_ ?_
 iterate 2 refine s_ ?_
 refine aa_ ?_
 refine af_ ?_
 refine er_ σ ?_
 refine ⟨?_, rfl⟩
 rw [td_, sx_]; rfl
def jV_ (pv : Option Sib) (x : Sib) : Bool := match pv with | none => true | some p => dW_ p.node p.n x.node x.n
def cb_ (c : List Seen) : Option Sib → List Sib → Bool
 |_, [] => true
 |pv, x :: l => gH_ x && hasS c x.node x.n && jV_ pv x && cb_ c (some x) l
def be_ (o : Obj') : Bool := b5_ o.ctx && cb_ o.ctx none o.sibs
def gW_ (c : List Sib) (k : Nat) : Option Sib := if k = 0 then none else c[k - 1]?
theorem iR_ {c : List Sib} {k : Nat} {x : Sib} (h : c[k]? = some x) : gW_ c (k + 1) = some x := by simp [gW_, h]
theorem iS_ (c : List Sib) (k : Nat) (hk : k < c.length) : ∃ y : Sib, (0 < k → c[((k : Int) - 1).toNat]? = some y) ∧ ∀ x, jV_ (gW_ c k) x = (decide (k = 0) || dW_ y.node y.n x.node x.n) := by
 by_cases h0 : k = 0
 ·subst h0
  exact ⟨⟨.empty, 0, .empty, false, 0⟩, fun h => by omega, fun s => rfl⟩
 ·obtain ⟨y, hy⟩ := aq_ (l := c) (k := k - 1) (by omega)
  have e : ((k : Int) - 1).toNat = k - 1 := by omega
  exact ⟨y, fun _ => by rw [e]; exact hy, fun s => by simp [gW_, h0, hy, jV_]⟩
theorem pX_ {a h b r s : Bool} {k : Nat} (hb : b = (decide (k = 0) || s)) (hh : (a = false ∨ h = false) ∨ 0 < (k : Int) ∧ s = false) : (a && h && b && r) = false := by
 rcases hh with (hh | hh) | ⟨h1, h2⟩
 ·rw [hh]; rfl
 ·rw [hh]; simp
 ·rw [hb, h2, decide_eq_false (show ¬ k = 0 by omega)]; simp
theorem nb_ {a h b r s : Bool} {k : Nat} (hb : b = (decide (k = 0) || s)) (hh : (a = true ∧ h = true) ∧ ((k : Int) ≤ 0 ∨ s = true)) : (a && h && b && r) = r := by
 obtain ⟨⟨h1, h2⟩, h3⟩ := hh
 have : b = true := by
  rw [hb]
  rcases h3 with h | h
  ·rw [decide_eq_true (show k = 0 by omega)]; rfl
  ·rw [h]; simp
 rw [h1, h2, this]; rfl
theorem mg_ {s : ByteArray} {n : Int} {s' : ByteArray} {n' : Int} : (0 ≤ cmpD s n s' n') ↔ dW_ s n s' n' = false := by
 rw [← Bool.not_eq_true, ← hv_]; omega
theorem j5_ {s : ByteArray} {n : Int} {s' : ByteArray} {n' : Int} : (cmpD s n s' n' < 0) ↔ dW_ s n s' n' = true := hv_ s n s' n'
theorem he_ {o : Obj'} {σ : Store} (ho : ObjSm o) : ai_ Tryz.prog 76 [sObj o] σ fun v σ' => v = vInt (if be_ o then 0 else 1) ∧ σ = σ' := by
 have hnc := ho.nc; have hns := ho.ns
 refine en_ Tryz.func76 Tryz.ntmps76 Tryz.results76 ?_
 refine rr_ ?_
 refine bx_ fun o1 ho1 => ?_
 repeat (rw [ac_] at ho1; obtain ⟨_, ho1⟩ := ho1)
 refine s_ ?_
 refine aa_ ?_
 refine ab_ ?_
 refine rr_ ?_
 iterate 2 refine s_ ?_
 refine x_ g_ va_ (ja_ ho.ctx (by omega)) ?_; rintro _ _ ⟨rfl, rfl⟩
 refine s_ ?_
 refine aa_ ?_
 refine cd_ (fun hc1 => ?_) (fun hc1 => ?_)
 ·skip
  have hf : be_ o = false := by
   rw [chk0] at hc1
   simp [be_, hc1]
  refine rr_ ?_
  refine s_ ?_
  refine aa_ ?_
  refine af_ ?_
  refine er_ σ ?_
  exact ⟨by rw [hf]; rfl, rfl⟩
 ·rw [chk0] at hc1
  have hob : be_ o = cb_ o.ctx none o.sibs := by simp [be_, hc1]
  refine ae_ ?_
  refine ab_ ?_
  refine rr_ ?_
  iterate 4 refine s_ ?_
  refine aa_ ?_
  refine ag_ ?_
  refine ah_ (ι := Nat) (fun k => o.sibs.length - k) (fun k => k ≤ o.sibs.length ∧ cb_ o.ctx (gW_ o.sibs k) (o.sibs.drop k) = cb_ o.ctx none o.sibs) (fun k => [(1, .ref o1 0), (10, .sl 5 (o.sibs.map sSib) false), (11, vInt o.sibs.length), (12, vInt k)]) (fun k => (σ.set o1 (.cells (sObj o).cells))) 0 ?_ ?_ ?_ ?_
  ·exact ⟨Nat.zero_le _, rfl⟩
  ·exact cv_
  ·exact Store.Wk.refl _
  rintro k ⟨hk, hr⟩
  simp only [ak_, am_]
  refine rr_ ?_
  refine s_ ?_
  refine aa_ ?_
  refine ab_ ?_
  refine cd_ (fun hc4 => ?_) (fun hc4 => ?_)
  ·refine ae_ ?_
   refine ab_ ?_
   refine ag_ ?_
   refine ab_ ?_
   obtain ⟨x, hxk⟩ := aq_ (l := o.sibs) (k := k) (by omega)
   have hsx := ho.sibs x (List.mem_of_getElem? hxk)
   obtain ⟨y, hy, hah⟩ := iS_ o.sibs k (by omega)
   have hst : cb_ o.ctx (gW_ o.sibs k) (o.sibs.drop k) = (gH_ x && hasS o.ctx x.node x.n && jV_ (gW_ o.sibs k) x && cb_ o.ctx (some x) (o.sibs.drop (k + 1))) := by rw [bh_ hxk]; rfl
   have R := hxk
   refine r_ ?_
   iterate 3 refine s_ ?_
   refine lc_ fun o4 ho4 => ?_
   repeat (rw [ac_] at ho4; obtain ⟨_, ho4⟩ := ho4)
   refine s_ ?_
   refine st_ ?_
   refine aa_ ?_
   refine ab_ ?_
   have R := hy
   refine ap_ (.op 0 0 (.op 1 1 (.op 2 0 (.op 3 0 (.op 4 0 (.op 5 0 (.op 6 0 (.op 7 0 (.op 8 1 (.op 9 0 (.op 10 0 (.op 11 0 (.op 12 0 (.op 13 0 (.op 14 0 (.op 15 0 (.op 16 0 (.op 17 0 (.op 18 0 (.op 19 0 (.op 20 0 (.op 21 0 (.op 22 1 (.op 23 0 (.op 24 0 (.op 25 0 .nil)))))))))))))))))))))))))) Tryz.mixed kr_ ?_
   refine ds_ ?_
   refine dx_ o_ g_ va_ (tt_ hsx) ?_; rintro _ _ ⟨rfl, rfl⟩; refine ⟨sub_, ?_⟩
   iterate 2 refine ds_ ?_
   refine dgf_ ?_
   refine dgf_ ?_
   refine dgf_ ?_
   refine dgf_ ?_
   refine hE_ o_ (by rfl) (by rfl) v_ (by rfl) sub_ (fun hb => av_ (by rfl) (by rfl) (.inr ⟨by rfl, by rfl, by rfl⟩) g_ cg_ (vo_ ho.ctx (by omega))) ?_
   refine dgf_ ?_
   iterate 2 refine ds_ ?_
   refine dgf_ ?_
   refine dgf_ ?_
   refine dgf_ ?_
   refine aK_ ?_
   refine aK_ ?_
   refine aK_ ?_
   refine aK_ ?_
   refine aK_ ?_
   refine aK_ ?_
   refine aK_ ?_
   refine eF_ o_ (by rfl) (by rfl) v_ (by rfl) sub_ (fun hb => av_ (by rfl) (by rfl) (.inr ⟨by rfl, by rfl, by rfl⟩) g_ cg_ (js_)) ?_
   refine aK_ ?_
   refine dgf_ ?_
   refine ds_ ?_
   refine aB_ ?_
   refine cd_ (fun hc6 => ?_) (fun hc6 => ?_)
   ·refine rr_ ?_
    refine s_ ?_
    refine aa_ ?_
    refine af_ ?_
    refine er_ σ ?_
    refine ⟨?_, rfl⟩
    rw [mg_] at hc6
    rw [hob, ← hr, hst, pX_ (hah _) hc6]; rfl
   ·rw [j5_] at hc6
    have hnx : cb_ o.ctx (gW_ o.sibs (k + 1)) (o.sibs.drop (k + 1)) = cb_ o.ctx none o.sibs := by rw [iR_ hxk, ← hr, hst, nb_ (hah _) hc6]
    refine ae_ ?_
    refine r_ ?_
    iterate 2 refine s_ ?_
    refine aa_ ?_
    refine aC_ (ι := Nat) (i := k) (k + 1) ?_ ?_ ?_ ?_
    ·omega
    ·exact ⟨by omega, hnx⟩
    ·exact cv_
    ·exact sub_
  ·refine an_ ?_
   refine ad_ ?_
   refine ad_ ?_
   refine aj_ ?_
   refine rr_ ?_
   refine s_ ?_
   refine aa_ ?_
   refine af_ ?_
   refine er_ σ ?_
   refine ⟨?_, rfl⟩
   rw [hob, ← hr, List.drop_eq_nil_of_le (by omega)]; rfl
theorem mV_ {s : ByteArray} {n : Int} {σ : Store} (hs : s.size ≤ 1000000) : ai_ Tryz.prog 122 [sDot s n] σ fun v σ' => v = vB (eB_ s n) ∧ σ = σ' := by
 refine en_ Tryz.func122 Tryz.ntmps122 Tryz.results122 ?_
 refine rr_ ?_
 refine bx_ fun o1 ho1 => ?_
 repeat (rw [ac_] at ho1; obtain ⟨_, ho1⟩ := ho1)
 refine s_ ?_
 refine aa_ ?_
 refine rr_ ?_
 iterate 2 refine s_ ?_
 refine x_ g_ va_ (tM_ (by omega)) ?_; rintro _ _ ⟨rfl, rfl⟩
 refine s_ ?_
 refine gt_ ?_
 refine gt_ ?_
 refine gt_ ?_
 iterate 2 refine s_ ?_
 refine gt_ ?_
 refine gt_ ?_
 refine gt_ ?_
 iterate 2 refine s_ ?_
 refine aa_ ?_
 refine af_ ?_
 refine er_ σ ?_
 exact ⟨rfl, rfl⟩
theorem mW_ {x : Sib} {σ : Store} (hx : SibSm x) : ai_ Tryz.prog 59 [sSib x] σ fun v σ' => v = vB (gH_ x) ∧ σ = σ' := by
 have h1 := hx.node; have h2 := hx.value
 refine en_ Tryz.func59 Tryz.ntmps59 Tryz.results59 ?_
 refine rr_ ?_
 refine bx_ fun o1 ho1 => ?_
 repeat (rw [ac_] at ho1; obtain ⟨_, ho1⟩ := ho1)
 refine s_ ?_
 refine aa_ ?_
 refine rr_ ?_
 iterate 2 refine s_ ?_
 refine x_ g_ va_ (mV_ (by omega)) ?_; rintro _ _ ⟨rfl, rfl⟩
 refine s_ ?_
 refine gt_ ?_
 refine gt_ ?_
 refine gt_ ?_
 refine gt_ ?_
 iterate 2 refine s_ ?_
 refine gt_ ?_
 refine gt_ ?_
 refine gt_ ?_
 refine gt_ ?_
 refine dB_ rfl rfl v_ rfl vg_ ?_
 refine dB_ rfl rfl v_ rfl vg_ ?_
 refine dB_ rfl rfl v_ rfl vg_ ?_
 refine gt_ ?_
 iterate 2 refine s_ ?_
 refine gt_ ?_
 refine gt_ ?_
 refine gt_ ?_
 iterate 2 refine s_ ?_
 refine gt_ ?_
 refine gt_ ?_
 refine gt_ ?_
 iterate 2 refine s_ ?_
 refine aa_ ?_
 refine af_ ?_
 refine er_ σ ?_
 refine ⟨?_, rfl⟩
 rw [sx_]; rfl
theorem n6_ {a b : List Int} {ta tb : Bool} {σ : Store} (ha : a.length ≤ 1000000) (hb : b.length ≤ 1000000) : ai_ Tryz.prog 72 [.sl 1 (a.map vInt) ta, .sl 1 (b.map vInt) tb] σ fun v σ' => v = vB (decide (a = b)) ∧ σ = σ' := by
 refine en_ Tryz.func72 Tryz.ntmps72 Tryz.results72 ?_
 refine rr_ ?_
 refine s_ ?_
 refine aa_ ?_
 refine ab_ ?_
 refine rr_ ?_
 iterate 5 refine s_ ?_
 refine aa_ ?_
 refine cd_ (fun hc1 => ?_) (fun hc1 => ?_)
 ·refine rr_ ?_
  refine s_ ?_
  refine aa_ ?_
  refine af_ ?_
  refine er_ σ ?_
  exact ⟨by rw [decide_eq_false]; intro h; rw [h] at hc1; omega, rfl⟩
 ·refine ae_ ?_
  refine ab_ ?_
  refine rr_ ?_
  refine s_ ?_
  refine aa_ ?_
  refine ag_ ?_
  refine ah_ (ι := Nat) (fun k => a.length - k) (fun k => k ≤ a.length ∧ a.take k = b.take k) (fun k => [(0, .sl 1 (a.map vInt) ta), (1, .sl 1 (b.map vInt) tb), (5, vInt k)]) (fun k => σ) 0 ?_ ?_ ?_ ?_
  ·exact ⟨Nat.zero_le _, rfl⟩
  ·exact cv_
  ·exact sub_
  rintro k ⟨hk, he⟩
  simp only [ak_, am_]
  refine ab_ ?_
  refine rr_ ?_
  iterate 5 refine s_ ?_
  refine gt_ ?_
  refine gt_ ?_
  refine gt_ ?_
  refine gt_ ?_
  refine s_ ?_
  refine aa_ ?_
  refine cd_ (fun hc4 => ?_) (fun hc4 => ?_)
  ·refine ae_ ?_
   refine ab_ ?_
   refine ag_ ?_
   refine ab_ ?_
   obtain ⟨x, hx⟩ := aq_ (l := a) (k := k) (by omega)
   obtain ⟨y, hy⟩ := aq_ (l := b) (k := k) (by omega)
   have R := And.intro hx hy
   refine ap_ (.op 0 0 (.op 1 0 (.op 2 0 (.op 3 0 (.op 4 0 (.op 5 0 (.op 6 0 (.op 7 0 (.op 8 0 .nil))))))))) Tryz.mixed kr_ ?_
   iterate 9 refine ds_ ?_
   refine aB_ ?_
   refine cd_ (fun hc6 => ?_) (fun hc6 => ?_)
   ·refine rr_ ?_
    refine s_ ?_
    refine aa_ ?_
    refine af_ ?_
    refine er_ σ ?_
    exact ⟨by rw [decide_eq_false]; intro h; rw [h, hy] at hx; exact hc6 (Option.some.inj hx).symm, rfl⟩
   ·refine ae_ ?_
    refine r_ ?_
    iterate 3 refine s_ ?_
    refine aa_ ?_
    refine aC_ (ι := Nat) (i := k) (k + 1) ?_ ?_ ?_ ?_
    ·omega
    ·exact ⟨by omega, by rw [ax_ hx, ax_ hy, he, hc6]⟩
    ·exact cv_
    ·exact sub_
  ·refine an_ ?_
   refine ad_ ?_
   refine ad_ ?_
   refine aj_ ?_
   refine rr_ ?_
   refine s_ ?_
   refine aa_ ?_
   refine af_ ?_
   refine er_ σ ?_
   exact ⟨by rw [decide_eq_true]; rwa [List.take_of_length_le (by omega), List.take_of_length_le (by omega)] at he, rfl⟩
theorem dF_ {o : Obj'} {σ : Store} (ho : ObjSm o) : ai_ Tryz.prog 23 [sObj o] σ fun v σ' => v = vB (be_ o) ∧ σ = σ' := by
 have hnc := ho.nc; have hns := ho.ns
 refine en_ Tryz.func23 Tryz.ntmps23 Tryz.results23 ?_
 refine rr_ ?_
 refine bx_ fun o1 ho1 => ?_
 repeat (rw [ac_] at ho1; obtain ⟨_, ho1⟩ := ho1)
 refine s_ ?_
 refine aa_ ?_
 refine ab_ ?_
 refine rr_ ?_
 iterate 2 refine s_ ?_
 refine x_ g_ va_ (fa_ ho.ctx (by omega)) ?_; rintro _ _ ⟨rfl, rfl⟩
 refine s_ ?_
 refine aa_ ?_
 refine cd_ (fun hc1 => ?_) (fun hc1 => ?_)
 ·skip
  have hf : be_ o = false := by simp [be_, hc1]
  refine rr_ ?_
  refine s_ ?_
  refine aa_ ?_
  refine af_ ?_
  refine er_ σ ?_
  exact ⟨by rw [hf], rfl⟩
 ·have hob : be_ o = cb_ o.ctx none o.sibs := by simp [be_, hc1]
  refine ae_ ?_
  refine ab_ ?_
  refine rr_ ?_
  refine s_ ?_
  refine aa_ ?_
  refine ag_ ?_
  refine ah_ (ι := Nat) (fun k => o.sibs.length - k) (fun k => k ≤ o.sibs.length ∧ cb_ o.ctx (gW_ o.sibs k) (o.sibs.drop k) = cb_ o.ctx none o.sibs) (fun k => [(1, .ref o1 0), (3, vInt k)]) (fun k => (σ.set o1 (.cells (sObj o).cells))) 0 ?_ ?_ ?_ ?_
  ·exact ⟨Nat.zero_le _, rfl⟩
  ·exact cv_
  ·exact Store.Wk.refl _
  rintro k ⟨hk, hr⟩
  simp only [ak_, am_]
  refine ab_ ?_
  refine rr_ ?_
  iterate 5 refine s_ ?_
  refine aa_ ?_
  refine cd_ (fun hc4 => ?_) (fun hc4 => ?_)
  ·refine ae_ ?_
   refine ab_ ?_
   refine ag_ ?_
   refine ab_ ?_
   obtain ⟨x, hxk⟩ := aq_ (l := o.sibs) (k := k) (by omega)
   have hsx := ho.sibs x (List.mem_of_getElem? hxk)
   obtain ⟨y, hy, hah⟩ := iS_ o.sibs k (by omega)
   have hst : cb_ o.ctx (gW_ o.sibs k) (o.sibs.drop k) = (gH_ x && hasS o.ctx x.node x.n && jV_ (gW_ o.sibs k) x && cb_ o.ctx (some x) (o.sibs.drop (k + 1))) := by rw [bh_ hxk]; rfl
   have R := hxk
   refine r_ ?_
   iterate 5 refine s_ ?_
   refine lc_ fun o4 ho4 => ?_
   repeat (rw [ac_] at ho4; obtain ⟨_, ho4⟩ := ho4)
   refine st_ ?_
   refine aa_ ?_
   refine ab_ ?_
   have R := hy
   refine ap_ (.op 0 0 (.op 1 1 (.op 2 0 (.op 3 0 (.op 4 0 (.op 5 0 (.op 6 0 (.op 7 0 (.op 8 1 (.op 9 0 (.op 10 0 (.op 11 0 (.op 12 0 (.op 13 0 (.op 14 0 (.op 15 0 (.op 16 0 (.op 17 0 (.op 18 0 (.op 19 0 (.op 20 0 (.op 21 0 (.op 22 0 (.op 23 0 (.op 24 1 (.op 25 0 (.op 26 0 (.op 27 0 .nil)))))))))))))))))))))))))))) Tryz.mixed kr_ ?_
   refine ds_ ?_
   refine dx_ o_ g_ va_ (mW_ hsx) ?_; rintro _ _ ⟨rfl, rfl⟩; refine ⟨sub_, ?_⟩
   iterate 2 refine ds_ ?_
   refine dgf_ ?_
   refine dgf_ ?_
   refine dgf_ ?_
   refine dgf_ ?_
   refine hE_ o_ (by rfl) (by rfl) v_ (by rfl) sub_ (fun hb => av_ (by rfl) (by rfl) (.inr ⟨by rfl, by rfl, by rfl⟩) g_ cg_ (mU_ ho.ctx (by omega))) ?_
   refine dgf_ ?_
   iterate 2 refine ds_ ?_
   refine dgf_ ?_
   refine dgf_ ?_
   refine dgf_ ?_
   refine aK_ ?_
   refine aK_ ?_
   refine aK_ ?_
   refine aK_ ?_
   refine aK_ ?_
   refine aK_ ?_
   refine aK_ ?_
   refine aK_ ?_
   refine aK_ ?_
   refine eF_ o_ (by rfl) (by rfl) v_ (by rfl) sub_ (fun hb => av_ (by rfl) (by rfl) (.inr ⟨by rfl, by rfl, by rfl⟩) g_ cg_ (pD_)) ?_
   refine aK_ ?_
   refine dgf_ ?_
   refine ds_ ?_
   refine aB_ ?_
   refine cd_ (fun hc7 => ?_) (fun hc7 => ?_)
   ·refine rr_ ?_
    refine s_ ?_
    refine aa_ ?_
    refine af_ ?_
    refine er_ σ ?_
    refine ⟨?_, rfl⟩
    rw [hob, ← hr, hst, pX_ (hah _) hc7]
   ·have hnx : cb_ o.ctx (gW_ o.sibs (k + 1)) (o.sibs.drop (k + 1)) = cb_ o.ctx none o.sibs := by rw [iR_ hxk, ← hr, hst, nb_ (hah _) hc7]
    refine ae_ ?_
    refine r_ ?_
    iterate 3 refine s_ ?_
    refine aa_ ?_
    refine aC_ (ι := Nat) (i := k) (k + 1) ?_ ?_ ?_ ?_
    ·omega
    ·exact ⟨by omega, hnx⟩
    ·exact cv_
    ·exact sub_
  ·refine an_ ?_
   refine ad_ ?_
   refine ad_ ?_
   refine aj_ ?_
   refine rr_ ?_
   refine s_ ?_
   refine aa_ ?_
   refine af_ ?_
   refine er_ σ ?_
   refine ⟨?_, rfl⟩
   rw [hob, ← hr, List.drop_eq_nil_of_le (by omega)]; rfl
theorem n7_ {a b : List Sib} {ta tb : Bool} {σ : Store} (hla : a.length ≤ 1000000) (hlb : b.length ≤ 1000000) : ai_ Tryz.prog 71 [.sl 5 (a.map sSib) ta, .sl 5 (b.map sSib) tb] σ fun v σ' => (∃ r, v = vB r ∧ (r = true ↔ a = b)) ∧ σ = σ' := by
 refine en_ Tryz.func71 Tryz.ntmps71 Tryz.results71 ?_
 refine rr_ ?_
 refine s_ ?_
 refine aa_ ?_
 refine ab_ ?_
 refine rr_ ?_
 iterate 5 refine s_ ?_
 refine aa_ ?_
 refine cd_ (fun hc1 => ?_) (fun hc1 => ?_)
 ·refine rr_ ?_
  refine s_ ?_
  refine aa_ ?_
  refine af_ ?_
  refine er_ σ ?_
  exact ⟨⟨false, rfl, by simp; intro h; rw [h] at hc1; omega⟩, rfl⟩
 ·refine ae_ ?_
  refine ab_ ?_
  refine rr_ ?_
  refine s_ ?_
  refine aa_ ?_
  refine ag_ ?_
  refine ah_ (ι := Nat) (fun k => a.length - k) (fun k => k ≤ a.length ∧ a.take k = b.take k) (fun k => [(0, .sl 5 (a.map sSib) ta), (1, .sl 5 (b.map sSib) tb), (5, vInt k)]) (fun k => σ) 0 ?_ ?_ ?_ ?_
  ·exact ⟨Nat.zero_le _, rfl⟩
  ·exact cv_
  ·exact sub_
  rintro k ⟨hk, he⟩
  simp only [ak_, am_]
  refine ab_ ?_
  refine rr_ ?_
  iterate 5 refine s_ ?_
  refine gt_ ?_
  refine gt_ ?_
  refine gt_ ?_
  refine gt_ ?_
  refine s_ ?_
  refine aa_ ?_
  refine cd_ (fun hc4 => ?_) (fun hc4 => ?_)
  ·refine ae_ ?_
   refine ab_ ?_
   refine ag_ ?_
   refine ab_ ?_
   obtain ⟨x, hx⟩ := aq_ (l := a) (k := k) (by omega)
   obtain ⟨y, hy⟩ := aq_ (l := b) (k := k) (by omega)
   have R := And.intro hx hy
   refine ap_ (.op 0 0 (.op 1 0 (.op 2 0 (.op 3 0 (.op 4 0 (.op 5 0 (.op 6 0 (.op 7 0 (.op 8 0 .nil))))))))) Tryz.mixed kr_ ?_
   iterate 9 refine ds_ ?_
   refine aB_ ?_
   refine cd_ (fun hc6 => ?_) (fun hc6 => ?_)
   ·refine rr_ ?_
    refine s_ ?_
    refine aa_ ?_
    refine af_ ?_
    refine er_ σ ?_
    exact ⟨⟨false, rfl, by simp; intro h; rw [h, hy] at hx; obtain rfl := Option.some.inj hx; simp at hc6⟩, rfl⟩
   ·have hxy : x = y := by cases x; cases y; simp at hc6 ⊢; exact ⟨hc6.1.1, hc6.1.2, hc6.2.1, hc6.2.2.1, hc6.2.2.2⟩
    refine ae_ ?_
    refine r_ ?_
    iterate 3 refine s_ ?_
    refine aa_ ?_
    refine aC_ (ι := Nat) (i := k) (k + 1) ?_ ?_ ?_ ?_
    ·omega
    ·exact ⟨by omega, by rw [ax_ hx, ax_ hy, he, hxy]⟩
    ·exact cv_
    ·exact sub_
  ·refine an_ ?_
   refine ad_ ?_
   refine ad_ ?_
   refine aj_ ?_
   refine rr_ ?_
   refine s_ ?_
   refine aa_ ?_
   refine af_ ?_
   refine er_ σ ?_
   exact ⟨⟨true, rfl, by simp; rwa [List.take_of_length_le (by omega), List.take_of_length_le (by omega)] at he⟩, rfl⟩
theorem m9_ {a b : List Seen} {ta tb : Bool} {σ : Store} (hA : ∀ x ∈ a, SeenSm x) (hB : ∀ x ∈ b, SeenSm x) (hla : a.length ≤ 1000000) (hlb : b.length ≤ 1000000) : ai_ Tryz.prog 29 [.sl 3 (a.map az_) ta, .sl 3 (b.map az_) tb] σ fun v σ' => (∃ r, v = vB r ∧ (r = true ↔ a = b)) ∧ σ = σ' := by
 refine en_ Tryz.func29 Tryz.ntmps29 Tryz.results29 ?_
 refine rr_ ?_
 refine s_ ?_
 refine aa_ ?_
 refine ab_ ?_
 refine rr_ ?_
 iterate 5 refine s_ ?_
 refine aa_ ?_
 refine cd_ (fun hc1 => ?_) (fun hc1 => ?_)
 ·refine rr_ ?_
  refine s_ ?_
  refine aa_ ?_
  refine af_ ?_
  refine er_ σ ?_
  exact ⟨⟨false, rfl, by simp; intro h; rw [h] at hc1; omega⟩, rfl⟩
 ·refine ae_ ?_
  refine ab_ ?_
  refine rr_ ?_
  refine s_ ?_
  refine aa_ ?_
  refine ag_ ?_
  refine ah_ (ι := Nat) (fun k => a.length - k) (fun k => k ≤ a.length ∧ a.take k = b.take k) (fun k => [(0, .sl 3 (a.map az_) ta), (1, .sl 3 (b.map az_) tb), (5, vInt k)]) (fun k => σ) 0 ?_ ?_ ?_ ?_
  ·exact ⟨Nat.zero_le _, rfl⟩
  ·exact cv_
  ·exact sub_
  rintro k ⟨hk, he⟩
  simp only [ak_, am_]
  refine ab_ ?_
  refine rr_ ?_
  iterate 5 refine s_ ?_
  refine gt_ ?_
  refine gt_ ?_
  refine gt_ ?_
  refine gt_ ?_
  refine s_ ?_
  refine aa_ ?_
  refine cd_ (fun hc4 => ?_) (fun hc4 => ?_)
  ·refine ae_ ?_
   refine ab_ ?_
   refine ag_ ?_
   refine ab_ ?_
   obtain ⟨x, hx⟩ := aq_ (l := a) (k := k) (by omega)
   obtain ⟨y, hy⟩ := aq_ (l := b) (k := k) (by omega)
   have hsx := (hA x (List.mem_of_getElem? hx)).more
   have hsy := (hB y (List.mem_of_getElem? hy)).more
   have R := And.intro hx hy
   refine ap_ (.op 0 0 (.op 1 0 (.op 2 0 (.op 3 0 (.op 4 0 (.op 5 0 (.op 6 0 (.op 7 0 (.op 8 0 (.op 9 0 (.op 10 0 (.op 11 0 (.op 12 0 (.op 13 0 (.op 14 0 (.op 15 0 (.op 16 0 (.op 17 0 (.op 18 0 (.op 19 0 (.op 20 0 (.op 21 0 (.op 22 0 (.op 23 0 (.op 24 0 (.op 25 0 (.op 26 0 (.op 27 0 (.op 28 0 (.op 29 0 (.op 30 0 (.op 31 0 (.op 32 0 (.op 33 0 (.op 34 0 (.op 35 1 (.op 36 0 (.op 37 0 .nil)))))))))))))))))))))))))))))))))))))) Tryz.mixed kr_ ?_
   iterate 12 refine ds_ ?_
   refine dgf_ ?_
   refine dgf_ ?_
   refine dgf_ ?_
   refine dgf_ ?_
   refine dgf_ ?_
   refine dgf_ ?_
   refine dgf_ ?_
   refine dgf_ ?_
   refine dgf_ ?_
   refine dgf_ ?_
   refine dgf_ ?_
   iterate 2 refine ds_ ?_
   refine dgf_ ?_
   refine dgf_ ?_
   refine dgf_ ?_
   refine dgf_ ?_
   refine dgf_ ?_
   refine dgf_ ?_
   refine dgf_ ?_
   refine dgf_ ?_
   refine dgf_ ?_
   refine dgf_ ?_
   refine hE_ o_ (by rfl) (by rfl) v_ (by rfl) sub_ (fun hb => av_ (by rfl) (by rfl) (.inr ⟨by rfl, by rfl, by rfl⟩) g_ cg_ (n6_ hsx hsy)) ?_
   refine dgf_ ?_
   refine ds_ ?_
   refine aB_ ?_
   refine cd_ (fun hc6 => ?_) (fun hc6 => ?_)
   ·refine rr_ ?_
    refine s_ ?_
    refine aa_ ?_
    refine af_ ?_
    refine er_ σ ?_
    exact ⟨⟨false, rfl, by simp; intro h; rw [h, hy] at hx; obtain rfl := Option.some.inj hx; simp at hc6⟩, rfl⟩
   ·have hxy : x = y := by cases x; cases y; simp at hc6 ⊢; exact ⟨hc6.1.1, hc6.1.2, hc6.2⟩
    refine ae_ ?_
    refine r_ ?_
    iterate 3 refine s_ ?_
    refine aa_ ?_
    refine aC_ (ι := Nat) (i := k) (k + 1) ?_ ?_ ?_ ?_
    ·omega
    ·exact ⟨by omega, by rw [ax_ hx, ax_ hy, he, hxy]⟩
    ·exact cv_
    ·exact sub_
  ·refine an_ ?_
   refine ad_ ?_
   refine ad_ ?_
   refine aj_ ?_
   refine rr_ ?_
   refine s_ ?_
   refine aa_ ?_
   refine af_ ?_
   refine er_ σ ?_
   exact ⟨⟨true, rfl, by simp; rwa [List.take_of_length_le (by omega), List.take_of_length_le (by omega)] at he⟩, rfl⟩
theorem sD_ {a b : Obj'} : a = b ↔ a.ctx = b.ctx ∧ a.sibs = b.sibs := by cases a; cases b; simp
def gR_ : List Sib → List Sib → Bool
 |[], [] => true
 |x :: a, y :: b => decide (x.node = y.node) && decide (x.n = y.n) && decide (x.value = y.value) && decide (x.gone = y.gone) && decide (x.time = y.time) && gR_ a b
 |_, _ => false
theorem gI_ : ∀ {a b : List Sib}, gR_ a b = true ↔ a = b
 |[], [] => by simp [gR_]
 |[], _ :: _ => by simp [gR_]
 |_ :: _, [] => by simp [gR_]
 |x :: a, y :: b => by
  cases x; cases y
  simp [gR_, gI_ (a := a) (b := b), and_assoc]
theorem n8_ {a b : List Sib} {ta tb : Bool} {σ : Store} (hla : a.length ≤ 1000000) (hlb : b.length ≤ 1000000) : ai_ Tryz.prog 71 [.sl 5 (a.map sSib) ta, .sl 5 (b.map sSib) tb] σ fun v σ' => v = vB (gR_ a b) ∧ σ = σ' :=
 (n7_ hla hlb).wkS fun v σ' ⟨⟨r, hv, hr⟩, hs⟩ => ⟨v, σ', .refl _, .refl _, by rw [hv, show r = gR_ a b from by rw [Bool.eq_iff_iff, hr, gI_]], hs⟩
theorem rQ_ {a b : Obj'} {σ : Store} (hA : ObjSm a) (hB : ObjSm b) : ai_ Tryz.prog 28 [sObj a, sObj b] σ fun v σ' => (∃ r, v = vB r ∧ (r = true ↔ a = b)) ∧ σ = σ' := by
 have n1 := hA.nc; have n2 := hA.ns; have n3 := hB.nc; have n4 := hB.ns
 refine en_ Tryz.func28 Tryz.ntmps28 Tryz.results28 ?_
 refine rr_ ?_
 refine bx_ fun o2 ho2 => ?_
 repeat (rw [ac_] at ho2; obtain ⟨_, ho2⟩ := ho2)
 refine bx_ fun o3 ho3 => ?_
 repeat (rw [ac_] at ho3; obtain ⟨_, ho3⟩ := ho3)
 refine s_ ?_
 refine aa_ ?_
 refine rr_ ?_
 iterate 4 refine s_ ?_
 refine x_ g_ va_ (m9_ hA.ctx hB.ctx (by omega) (by omega)) ?_; rintro _ _ ⟨⟨r, rfl, h1⟩, rfl⟩
 refine s_ ?_
 refine gt_ ?_
 refine gt_ ?_
 refine gt_ ?_
 refine gt_ ?_
 refine cE_ rfl rfl v_ rfl (fun hb => av_ (by rfl) (by rfl) (.inr ⟨by rfl, by rfl, by rfl⟩) g_ cg_ (n8_ (by omega) (by omega))) ?_
 iterate 2 refine s_ ?_
 refine aa_ ?_
 refine af_ ?_
 refine er_ σ ?_
 refine ⟨⟨_, rfl, ?_⟩, rfl⟩
 rw [Bool.and_eq_true, h1, gI_, sD_]
def FewC (c : List Seen) : Prop := c.length ≤ 12 ∧ ∀ x ∈ c, x.node.size ≤ 100 ∧ x.more.length ≤ 40
def FewO (o : Obj') : Prop := FewC o.ctx ∧ o.sibs.length ≤ 12 ∧ ∀ x ∈ o.sibs, x.value.size ≤ 300 ∧ x.node.size ≤ 100
theorem tf_ {c : List Seen} {t : Bool} {σ : Store} : ai_ Tryz.prog 30 [.sl 3 (c.map az_) t] σ fun v σ' => (∃ r, v = vB r ∧ (r = true ↔ FewC c)) ∧ σ = σ' := by
 refine en_ Tryz.func30 Tryz.ntmps30 Tryz.results30 ?_
 refine rr_ ?_
 refine s_ ?_
 refine aa_ ?_
 refine ab_ ?_
 refine rr_ ?_
 refine s_ ?_
 refine aa_ ?_
 refine ag_ ?_
 refine ah_ (ι := Nat) (fun k => c.length - k) (fun k => k ≤ c.length ∧ k ≤ 12 ∧ ∀ j x, j < k → c[j]? = some x → x.node.size ≤ 100 ∧ x.more.length ≤ 40) (fun k => [(0, .sl 3 (c.map az_) t), (3, vInt k)]) (fun k => σ) 0 ?_ ?_ ?_ ?_
 ·exact ⟨Nat.zero_le _, by decide, fun j x h => by omega⟩
 ·exact cv_
 ·exact sub_
 rintro k ⟨hk, hk2, ha⟩
 simp only [ak_, am_]
 refine ab_ ?_
 refine rr_ ?_
 iterate 5 refine s_ ?_
 refine gt_ ?_
 refine gt_ ?_
 refine s_ ?_
 refine aa_ ?_
 refine cd_ (fun hc2 => ?_) (fun hc2 => ?_)
 ·refine ae_ ?_
  refine ab_ ?_
  refine ag_ ?_
  refine ab_ ?_
  obtain ⟨x, hx⟩ := aq_ (l := c) (k := k) (by omega)
  have R := hx
  refine r_ ?_
  iterate 8 refine s_ ?_
  refine gf_ ?_
  refine gf_ ?_
  refine gf_ ?_
  refine gf_ ?_
  refine gf_ ?_
  refine gf_ ?_
  refine gf_ ?_
  refine s_ ?_
  refine aa_ ?_
  refine cd_ (fun hc4 => ?_) (fun hc4 => ?_)
  ·refine rr_ ?_
   refine s_ ?_
   refine aa_ ?_
   refine af_ ?_
   refine er_ σ ?_
   exact ⟨⟨false, rfl, (fun h => by cases h), fun h => by have := h.2 x (List.mem_of_getElem? hx); omega⟩, rfl⟩
  ·refine ae_ ?_
   refine r_ ?_
   iterate 3 refine s_ ?_
   refine aa_ ?_
   refine aC_ (ι := Nat) (i := k) (k + 1) ?_ ?_ ?_ ?_
   ·omega
   ·exact ⟨by omega, by omega, fun j y hj hy => by rcases Nat.lt_or_eq_of_le (Nat.le_of_lt_succ hj) with h | h; exact ha j y h hy; rw [h, hx] at hy; obtain rfl := Option.some.inj hy; omega⟩
   ·exact cv_
   ·exact sub_
 ·refine an_ ?_
  refine ad_ ?_
  refine ad_ ?_
  refine aj_ ?_
  refine rr_ ?_
  iterate 4 refine s_ ?_
  refine aa_ ?_
  refine af_ ?_
  refine er_ σ ?_
  exact ⟨⟨_, rfl, (fun h => by
   have h12 : c.length ≤ 12 := by rw [decide_eq_true_eq] at h; omega
   exact ⟨h12, fun x hx => by
    obtain ⟨j, hj⟩ := List.mem_iff_getElem?.1 hx
    have := (List.getElem?_eq_some_iff.1 hj).1
    exact ha j x (by omega) hj⟩), fun h => by have := h.1; rw [decide_eq_true_eq]; omega⟩, rfl⟩
theorem tg_ {o : Obj'} {σ : Store} : ai_ Tryz.prog 8 [sObj o] σ fun v σ' => (∃ r, v = vB r ∧ (r = true ↔ FewO o)) ∧ σ = σ' := by
 refine en_ Tryz.func8 Tryz.ntmps8 Tryz.results8 ?_
 refine rr_ ?_
 refine bx_ fun o1 ho1 => ?_
 repeat (rw [ac_] at ho1; obtain ⟨_, ho1⟩ := ho1)
 refine s_ ?_
 refine aa_ ?_
 refine ab_ ?_
 refine rr_ ?_
 refine s_ ?_
 refine aa_ ?_
 refine ag_ ?_
 refine ah_ (ι := Nat) (fun k => o.sibs.length - k) (fun k => k ≤ o.sibs.length ∧ k ≤ 12 ∧ ∀ j x, j < k → o.sibs[j]? = some x → x.value.size ≤ 300 ∧ x.node.size ≤ 100) (fun k => [(1, .ref o1 0), (3, vInt k)]) (fun k => (σ.set o1 (.cells (sObj o).cells))) 0 ?_ ?_ ?_ ?_
 ·exact ⟨Nat.zero_le _, by decide, fun j x h => by omega⟩
 ·exact cv_
 ·exact Store.Wk.refl _
 rintro k ⟨hk, hk2, ha⟩
 simp only [ak_, am_]
 refine ab_ ?_
 refine rr_ ?_
 iterate 6 refine s_ ?_
 refine gt_ ?_
 refine gt_ ?_
 refine s_ ?_
 refine aa_ ?_
 refine cd_ (fun hc2 => ?_) (fun hc2 => ?_)
 ·refine ae_ ?_
  refine ab_ ?_
  refine ag_ ?_
  refine ab_ ?_
  obtain ⟨x, hx⟩ := aq_ (l := o.sibs) (k := k) (by omega)
  have R := hx
  refine r_ ?_
  iterate 9 refine s_ ?_
  refine gf_ ?_
  refine gf_ ?_
  refine gf_ ?_
  refine gf_ ?_
  refine gf_ ?_
  refine gf_ ?_
  refine gf_ ?_
  refine gf_ ?_
  refine gf_ ?_
  refine s_ ?_
  refine aa_ ?_
  refine cd_ (fun hc4 => ?_) (fun hc4 => ?_)
  ·refine rr_ ?_
   refine s_ ?_
   refine aa_ ?_
   refine af_ ?_
   refine er_ σ ?_
   exact ⟨⟨false, rfl, (fun h => by cases h), fun h => by have := h.2.2 x (List.mem_of_getElem? hx); omega⟩, rfl⟩
  ·refine ae_ ?_
   refine r_ ?_
   iterate 3 refine s_ ?_
   refine aa_ ?_
   refine aC_ (ι := Nat) (i := k) (k + 1) ?_ ?_ ?_ ?_
   ·omega
   ·exact ⟨by omega, by omega, fun j y hj hy => by rcases Nat.lt_or_eq_of_le (Nat.le_of_lt_succ hj) with h | h; exact ha j y h hy; rw [h, hx] at hy; obtain rfl := Option.some.inj hy; omega⟩
   ·exact cv_
   ·exact sub_
 ·refine an_ ?_
  refine ad_ ?_
  refine ad_ ?_
  refine aj_ ?_
  refine rr_ ?_
  iterate 2 refine s_ ?_
  refine x_ g_ va_ (tf_) ?_; rintro _ _ ⟨⟨r, rfl, hr⟩, rfl⟩
  refine s_ ?_
  refine gt_ ?_
  refine gt_ ?_
  refine gt_ ?_
  refine gt_ ?_
  iterate 2 refine s_ ?_
  refine aa_ ?_
  refine af_ ?_
  refine er_ σ ?_
  refine ⟨⟨_, rfl, (fun h => ?_), fun h => ?_⟩, rfl⟩
  rotate_left
  ·rw [Bool.and_eq_true, decide_eq_true_eq]; exact ⟨hr.2 h.1, by have := h.2.1; omega⟩
  rw [Bool.and_eq_true, decide_eq_true_eq] at h
  have h12 : o.sibs.length ≤ 12 := by omega
  refine ⟨hr.1 h.1, h12, fun x hx => ?_⟩
  obtain ⟨j, hj⟩ := List.mem_iff_getElem?.1 hx
  have := (List.getElem?_eq_some_iff.1 hj).1
  exact ha j x (by omega) hj
def upGo {α : Type} (ok : α → Bool) (key : α → ByteArray) : Option ByteArray → List α → Bool
 |_, [] => true
 |pv, x :: l => ok x && b3_ pv (key x) && upGo ok key (some (key x)) l
theorem jJ_ {α : Type} {f g : α → Bool} {key : α → ByteArray} : ∀ {pv : Option ByteArray} {l : List α}, upGo (fun x => f x && g x) key pv l = (upGo f key pv l && l.all g)
 |_, [] => rfl
 |pv, x :: l => by
  simp only [upGo, List.all_cons, jJ_ (l := l)]
  cases f x <;> cases g x <;> cases b3_ pv (key x) <;> simp
def pvK {α : Type} (key : α → ByteArray) (c : List α) (k : Nat) : Option ByteArray := if k = 0 then none else (c[k - 1]?).map key
theorem hg_ {α : Type} {key : α → ByteArray} {c : List α} {k : Nat} {x : α} (h : c[k]? = some x) : pvK key c (k + 1) = some (key x) := by simp [pvK, h]
theorem hh_ {α : Type} (key : α → ByteArray) (c : List α) (k : Nat) (hk : k < c.length) : ∃ y : α, (0 < k → c[((k : Int) - 1).toNat]? = some y) ∧ ∀ s, b3_ (pvK key c k) s = (decide (k = 0) || sLt (key y) s) := by
 by_cases h0 : k = 0
 ·subst h0
  obtain ⟨y, hy⟩ := aq_ hk
  exact ⟨y, fun h => by omega, fun s => rfl⟩
 ·obtain ⟨y, hy⟩ := aq_ (l := c) (k := k - 1) (by omega)
  have e : ((k : Int) - 1).toNat = k - 1 := by omega
  exact ⟨y, fun _ => by rw [e]; exact hy, fun s => by simp [pvK, h0, hy, b3_]⟩
theorem r9_ {a b r s : Bool} {k : Nat} (hb : b = (decide (k = 0) || s)) (h : a = false ∨ 0 < (k : Int) ∧ s = false) : (a && b && r) = false := by
 rcases h with h | ⟨h, h'⟩
 ·rw [h]; rfl
 ·rw [hb, h', decide_eq_false (show ¬ k = 0 by omega)]; simp
theorem nh_ {a b r s : Bool} {k : Nat} (hb : b = (decide (k = 0) || s)) (h : a = true ∧ ((k : Int) ≤ 0 ∨ s = true)) : (a && b && r) = r := by
 obtain ⟨h1, h2⟩ := h
 have : b = true := by
  rw [hb]
  rcases h2 with h | h
  ·rw [decide_eq_true (show k = 0 by omega)]; rfl
  ·rw [h]; simp
 rw [h1, this]; rfl
def hK_ (l : List Itm) : Bool := upGo (fun x => aH_ x.place && be_ x.obj) Itm.place none l
theorem cK_ {x : Itm} {σ : Store} : ai_ Tryz.prog 100 [aD_ x] σ fun v σ' => v = vStr x.place ∧ σ = σ' := by
 refine en_ Tryz.func100 Tryz.ntmps100 Tryz.results100 ?_
 refine rr_ ?_
 refine bx_ fun o1 ho1 => ?_
 repeat (rw [ac_] at ho1; obtain ⟨_, ho1⟩ := ho1)
 refine s_ ?_
 refine aa_ ?_
 refine rr_ ?_
 iterate 3 refine s_ ?_
 refine aa_ ?_
 refine af_ ?_
 refine er_ σ ?_
 exact ⟨rfl, rfl⟩
theorem t0_ {l : List Itm} {t : Bool} {σ : Store} (hx : ∀ x ∈ l, x.place.size ≤ 1000000) (hn : l.length ≤ 1000000) : ai_ Tryz.prog 99 [.sl 3 (l.map aD_) t, .lit (.func (.func 100) #[] #[])] σ fun v σ' => v = vB (upGo (fun x => aH_ x.place) Itm.place none l) ∧ σ = σ' := by
 refine en_ Tryz.func99 Tryz.ntmps99 Tryz.results99 ?_
 refine rr_ ?_
 refine s_ ?_
 refine aa_ ?_
 refine ab_ ?_
 refine rr_ ?_
 iterate 3 refine s_ ?_
 refine aa_ ?_
 refine ag_ ?_
 refine ah_ (ι := Nat) (fun k => l.length - k) (fun k => k ≤ l.length ∧ upGo (fun x => aH_ x.place) Itm.place (pvK Itm.place l k) (l.drop k) = upGo (fun x => aH_ x.place) Itm.place none l) (fun k => [(0, .sl 3 (l.map aD_) t), (1, .lit (.func (.func 100) #[] #[])), (7, .sl 3 (l.map aD_) t), (8, vInt l.length), (9, vInt k)]) (fun k => σ) 0 ?_ ?_ ?_ ?_
 ·exact ⟨Nat.zero_le _, rfl⟩
 ·exact cv_
 ·exact sub_
 rintro k ⟨hk, hr⟩
 simp only [ak_, am_]
 refine rr_ ?_
 refine s_ ?_
 refine aa_ ?_
 refine ab_ ?_
 refine cd_ (fun hc2 => ?_) (fun hc2 => ?_)
 ·refine ae_ ?_
  refine ab_ ?_
  refine ag_ ?_
  refine ab_ ?_
  obtain ⟨x, hxk⟩ := aq_ (l := l) (k := k) (by omega)
  have hsx := hx x (List.mem_of_getElem? hxk)
  obtain ⟨y, hy, hah⟩ := hh_ Itm.place l k (by omega)
  have hst : upGo (fun x => aH_ x.place) Itm.place (pvK Itm.place l k) (l.drop k) = (aH_ x.place && b3_ (pvK Itm.place l k) x.place && upGo (fun x => aH_ x.place) Itm.place (some x.place) (l.drop (k + 1))) := by rw [bh_ hxk]; rfl
  have R := hxk
  refine r_ ?_
  iterate 3 refine s_ ?_
  refine lc_ fun o6 ho6 => ?_
  repeat (rw [ac_] at ho6; obtain ⟨_, ho6⟩ := ho6)
  refine s_ ?_
  refine st_ ?_
  refine aa_ ?_
  refine ab_ ?_
  have R := hy
  refine ap_ (.op 0 0 (.op 1 0 (.op 2 1 (.op 3 1 (.op 4 0 (.op 5 0 (.op 6 0 (.op 7 0 (.op 8 0 (.op 9 0 (.op 10 0 (.op 11 0 (.op 12 0 (.op 13 0 (.op 14 0 (.op 16 0 (.op 17 0 (.op 15 1 (.op 18 1 (.op 19 0 (.op 20 0 (.op 21 0 .nil)))))))))))))))))))))) Tryz.mixed kr_ ?_
  iterate 2 refine ds_ ?_
  refine dR_X o_ (by rfl) (by rfl) (aU_ (by rfl) (by rfl) (.inr ⟨va_, by rfl, by rfl⟩) g_ va_ (cK_) ?_); rintro _ _ ⟨rfl, rfl⟩; refine ⟨sub_, ?_⟩
  refine dx_ o_ g_ va_ (eP_ (by omega)) ?_; rintro _ _ ⟨rfl, rfl⟩; refine ⟨sub_, ?_⟩
  iterate 2 refine ds_ ?_
  refine dgf_ ?_
  refine dgf_ ?_
  refine dgf_ ?_
  refine aK_ ?_
  refine aK_ ?_
  refine aK_ ?_
  refine aK_ ?_
  refine aK_ ?_
  refine aK_ ?_
  refine aK_ ?_
  refine aK_ ?_
  refine eF_ o_ (by rfl) (by rfl) v_ (by rfl) sub_ (fun hb => av_ (by rfl) (by rfl) (.inr ⟨vh_, by rfl, by rfl⟩) g_ cg_ (cK_)) ?_
  refine eF_ o_ (by rfl) (by rfl) v_ (by rfl) sub_ (fun hb => av_ (by rfl) (by rfl) (.inr ⟨vh_, by rfl, by rfl⟩) g_ cg_ (cK_)) ?_
  refine aK_ ?_
  refine dgf_ ?_
  refine ds_ ?_
  refine aB_ ?_
  refine cd_ (fun hc4 => ?_) (fun hc4 => ?_)
  ·refine rr_ ?_
   refine s_ ?_
   refine aa_ ?_
   refine af_ ?_
   refine er_ σ ?_
   refine ⟨?_, rfl⟩
   rw [← hr, hst, r9_ (hah _) hc4]
  ·have hnx : upGo (fun x => aH_ x.place) Itm.place (pvK Itm.place l (k + 1)) (l.drop (k + 1)) = upGo (fun x => aH_ x.place) Itm.place none l := by rw [hg_ hxk, ← hr, hst, nh_ (hah _) hc4]
   refine ae_ ?_
   refine r_ ?_
   iterate 2 refine s_ ?_
   refine aa_ ?_
   refine aC_ (ι := Nat) (i := k) (k + 1) ?_ ?_ ?_ ?_
   ·omega
   ·exact ⟨by omega, hnx⟩
   ·exact cv_
   ·exact sub_
 ·refine an_ ?_
  refine ad_ ?_
  refine ad_ ?_
  refine aj_ ?_
  refine rr_ ?_
  refine s_ ?_
  refine aa_ ?_
  refine af_ ?_
  refine er_ σ ?_
  refine ⟨?_, rfl⟩
  rw [← hr, List.drop_eq_nil_of_le (by omega)]; rfl
theorem oE_ {x : Itm} {σ : Store} (hx : ObjSm x.obj) : ai_ Tryz.prog 104 [aD_ x] σ fun v σ' => v = vB (!be_ x.obj) ∧ σ = σ' := by
 refine en_ Tryz.func104 Tryz.ntmps104 Tryz.results104 ?_
 refine rr_ ?_
 refine bx_ fun o1 ho1 => ?_
 repeat (rw [ac_] at ho1; obtain ⟨_, ho1⟩ := ho1)
 refine s_ ?_
 refine aa_ ?_
 refine rr_ ?_
 iterate 2 refine s_ ?_
 refine x_ g_ va_ (he_ hx) ?_; rintro _ _ ⟨rfl, rfl⟩
 iterate 2 refine s_ ?_
 refine aa_ ?_
 refine af_ ?_
 refine er_ σ ?_
 refine ⟨?_, rfl⟩
 cases be_ x.obj <;> rfl
theorem ra_ {l : List Itm} {t : Bool} {σ : Store} (hx : ∀ x ∈ l, ObjSm x.obj) (hn : l.length ≤ 1000000) : ai_ Tryz.prog 74 [.sl 3 (l.map aD_) t, .lit (.func (.func 104) #[] #[])] σ fun v σ' => (∃ r, v = vInt r ∧ decide (0 ≤ r) = l.any (fun x => !be_ x.obj)) ∧ σ = σ' := by
 refine en_ Tryz.func74 Tryz.ntmps74 Tryz.results74 ?_
 refine rr_ ?_
 refine s_ ?_
 refine aa_ ?_
 refine ab_ ?_
 refine rr_ ?_
 iterate 3 refine s_ ?_
 refine aa_ ?_
 refine ag_ ?_
 refine ah_ (ι := Nat) (fun k => l.length - k) (fun k => k ≤ l.length ∧ (l.take k).any (fun x => !be_ x.obj) = false) (fun k => [(0, .sl 3 (l.map aD_) t), (1, .lit (.func (.func 104) #[] #[])), (7, vInt l.length), (8, vInt k)]) (fun k => σ) 0 ?_ ?_ ?_ ?_
 ·exact ⟨Nat.zero_le _, rfl⟩
 ·exact cv_
 ·exact sub_
 rintro k ⟨hk, ha⟩
 simp only [ak_, am_]
 refine rr_ ?_
 refine s_ ?_
 refine aa_ ?_
 refine ab_ ?_
 refine cd_ (fun hc2 => ?_) (fun hc2 => ?_)
 ·refine ae_ ?_
  refine ab_ ?_
  refine ag_ ?_
  refine ab_ ?_
  obtain ⟨x, hxk⟩ := aq_ (l := l) (k := k) (by omega)
  have hsx := hx x (List.mem_of_getElem? hxk)
  refine r_ ?_
  iterate 2 refine s_ ?_
  refine aa_ ?_
  refine ab_ ?_
  have R := hxk
  refine r_ ?_
  iterate 5 refine s_ ?_
  refine aL_X rfl rfl (aU_ rfl rfl (.inr ⟨va_, rfl, rfl⟩) g_ va_ (oE_ hsx) ?_); rintro _ _ ⟨rfl, rfl⟩
  refine aa_ ?_
  refine cd_ (fun hc4 => ?_) (fun hc4 => ?_)
  ·refine rr_ ?_
   iterate 2 refine s_ ?_
   refine aa_ ?_
   refine af_ ?_
   refine er_ σ ?_
   exact ⟨⟨(k : Int), rfl, by rw [decide_eq_true (by omega)]; exact (gq_ hxk (by simpa using hc4)).symm⟩, rfl⟩
  ·refine ae_ ?_
   refine r_ ?_
   iterate 2 refine s_ ?_
   refine aa_ ?_
   refine aC_ (ι := Nat) (i := k) (k + 1) ?_ ?_ ?_ ?_
   ·omega
   ·exact ⟨by omega, e1_ hxk (by simpa using hc4) ha⟩
   ·exact cv_
   ·exact sub_
 ·refine an_ ?_
  refine ad_ ?_
  refine ad_ ?_
  refine aj_ ?_
  refine rr_ ?_
  refine s_ ?_
  refine aa_ ?_
  refine af_ ?_
  refine er_ σ ?_
  exact ⟨⟨-1, rfl, (gp_ (by omega) ha).symm⟩, rfl⟩
theorem lj_ {l : List Itm} {t : Bool} {σ : Store} (hx : ∀ x ∈ l, ObjSm x.obj) (hn : l.length ≤ 1000000) : ai_ Tryz.prog 103 [.sl 3 (l.map aD_) t, .lit (.func (.func 104) #[] #[])] σ fun v σ' => v = vB (l.any fun x => !be_ x.obj) ∧ σ = σ' := by
 refine en_ Tryz.func103 Tryz.ntmps103 Tryz.results103 ?_
 refine rr_ ?_
 refine s_ ?_
 refine aa_ ?_
 refine rr_ ?_
 iterate 2 refine s_ ?_
 refine x_ g_ va_ (ra_ hx hn) ?_; rintro _ _ ⟨⟨r, rfl, hr⟩, rfl⟩
 iterate 2 refine s_ ?_
 refine aa_ ?_
 refine af_ ?_
 refine er_ σ ?_
 exact ⟨by rw [← hr], rfl⟩
theorem cQ_ {α : Type} {r : α → α → Prop} (irr : ∀ a, ¬ r a a) (tr : ∀ a b c, r a b → r b c → r a c) : ∀ {l m : List α}, l.Pairwise r → m.Pairwise r → (∀ x, x ∈ l ↔ x ∈ m) → l = m
 |[], [], _, _, _ => rfl
 |[], y :: m, _, _, h => absurd ((h y).2 (.head _)) (by simp)
 |x :: l, [], _, _, h => absurd ((h x).1 (.head _)) (by simp)
 |x :: l, y :: m, hl, hm, h => by
  rw [List.pairwise_cons] at hl hm
  have hxy : x = y := by
   rcases List.mem_cons.1 ((h x).1 (.head _)) with e | e
   ·exact e
   ·rcases List.mem_cons.1 ((h y).2 (.head _)) with e' | e'
    ·exact e'.symm
    ·exact absurd (tr _ _ _ (hm.1 x e) (hl.1 y e')) (irr _)
  subst hxy
  rw [cQ_ irr tr hl.2 hm.2 fun z => ?_]
  constructor
  ·intro hz
   rcases List.mem_cons.1 ((h z).1 (.tail _ hz)) with e | e
   ·subst e; exact absurd (hl.1 _ hz) (irr _)
   ·exact e
  ·intro hz
   rcases List.mem_cons.1 ((h z).2 (.tail _ hz)) with e | e
   ·subst e; exact absurd (hm.1 _ hz) (irr _)
   ·exact e
theorem ex_ {α : Type} [Inhabited α] [DecidableEq α] {r : α → α → Prop} (tr : ∀ a b c, r a b → r b c → r a c) (zs : List α) (hs : zs.Pairwise fun x y => x = y ∨ r x y) :
  ∀ m, m ≤ zs.length → (Lib.compactUpTo zs.toArray m).Pairwise r ∧ (∀ x, x ∈ Lib.compactUpTo zs.toArray m ↔ x ∈ zs.take m) ∧ (∀ x ∈ Lib.compactUpTo zs.toArray m, ∀ y, zs[m - 1]? = some y → x = y ∨ r x y)
 |0, _ => by simp [Lib.compactUpTo]
 |m + 1, hm => by
  obtain ⟨h1, h2, h3⟩ := ex_ tr zs hs m (by omega)
  have hz : zs[m]? = some zs[m] := List.getElem?_eq_getElem (by omega)
  have hz' : zs.toArray[m]! = zs[m] := by simp [show m < zs.length by omega]
  rw [Lib.compactUpTo_succ, hz']
  have ht : zs.take (m + 1) = zs.take m ++ [zs[m]] := by rw [List.take_succ_eq_append_getElem (by omega)]
  have e1 : ∀ y, zs[m + 1 - 1]? = some y → y = zs[m] := fun y hy => by rw [Nat.add_sub_cancel, hz] at hy; exact (Option.some.inj hy).symm
  by_cases hk : m = 0
  ·subst hk
   have : Lib.keeps zs.toArray 0 = true := by simp [Lib.keeps]
   rw [this, ht]
   have hn : Lib.compactUpTo zs.toArray 0 = [] := by simp [Lib.compactUpTo]
   rw [hn]
   refine ⟨by simp, by simp, fun x hx y hy => ?_⟩
   have := e1 y hy
   simp at hx; subst hx; left; exact this.symm
  ·have hp : zs[m - 1]? = some zs[m - 1] := List.getElem?_eq_getElem (by omega)
   have hp' : zs.toArray[m - 1]! = zs[m - 1] := by simp [show m - 1 < zs.length by omega]
   have hord := List.pairwise_iff_getElem.1 hs (m - 1) m (by omega) (by omega) (by omega)
   by_cases he : zs[m] = zs[m - 1]
   ·have : Lib.keeps zs.toArray m = false := by simp only [Lib.keeps, hz', hp']; simp [hk, he]
    rw [this]
    simp only [Bool.false_eq_true, if_false, List.append_nil]
    refine ⟨h1, fun x => ?_, fun x hx y hy => ?_⟩
    ·rw [h2 x, ht, List.mem_append, List.mem_singleton]
     constructor
     ·exact .inl
     ·rintro (h | h)
      ·exact h
      ·rw [h, he]; exact List.mem_take_iff_getElem.2 ⟨m - 1, by omega, rfl⟩
    ·rw [e1 y hy, he]; exact h3 x hx _ hp
   ·have : Lib.keeps zs.toArray m = true := by simp only [Lib.keeps, hz', hp']; simp [he]
    rw [this]
    simp only [if_true]
    have hlt : r zs[m - 1] zs[m] := by
     rcases hord with h | h
     ·exact absurd h.symm he
     ·exact h
    have hall : ∀ x ∈ Lib.compactUpTo zs.toArray m, r x zs[m] := fun x hx => by
     rcases h3 x hx _ hp with h | h
     ·rw [h]; exact hlt
     ·exact tr _ _ _ h hlt
    refine ⟨?_, fun x => ?_, fun x hx y hy => ?_⟩
    ·rw [List.pairwise_append]
     exact ⟨h1, List.pairwise_singleton _ _, fun x hx y hy => by rw [List.mem_singleton.1 hy]; exact hall x hx⟩
    ·rw [List.mem_append, h2 x, ht, List.mem_append]
    ·rw [e1 y hy]
     rcases List.mem_append.1 hx with h | h
     ·exact .inr (hall x h)
     ·exact .inl (List.mem_singleton.1 h)
theorem eE_ {α : Type} [Inhabited α] [DecidableEq α] {r : α → α → Prop} (tr : ∀ a b c, r a b → r b c → r a c) (zs : List α) (hs : zs.Pairwise fun x y => x = y ∨ r x y) :
  (Lib.compact zs).Pairwise r ∧ ∀ x, x ∈ Lib.compact zs ↔ x ∈ zs := by
 obtain ⟨h1, h2, _⟩ := ex_ tr zs hs zs.length (Nat.le_refl _)
 rw [List.take_length] at h2
 exact ⟨h1, h2⟩
theorem gz_ (l : List Int) : (ej_ l).Pairwise (·< ·) ∧ ∀ x, x ∈ ej_ l ↔ x ∈ l := by
 have hs : (d2_ l).Pairwise fun x y : Int => x = y ∨ x < y := by
  have := List.pairwise_mergeSort (le := fun x y : Int => decide (x ≤ y)) (fun a b c h1 h2 => by simp at *; omega) (fun a b => by simp; omega) l
  exact this.imp fun h => by simp at h; omega
 obtain ⟨h1, h2⟩ := eE_ (r := fun x y : Int => x < y) (fun a b c h1 h2 => Int.lt_trans h1 h2) (d2_ l) hs
 exact ⟨h1, fun x => by rw [ej_, h2]; unfold d2_; exact List.mem_mergeSort⟩
theorem kt_ {l m : List Int} (hm : m.Pairwise (·< ·)) (h : ∀ x, x ∈ m ↔ x ∈ l) : ej_ l = m :=
 cQ_ (r := fun x y : Int => x < y) (fun a => Int.lt_irrefl a) (fun a b c h1 h2 => Int.lt_trans h1 h2) (gz_ l).1 hm fun x => by rw [(gz_ l).2, h]
def jR_ (l : List ByteArray) : Prop := l.Pairwise fun x y => sLt x y = true
theorem nQ_ (ss : List ByteArray) : jR_ (bZ_ (cG_ ss)) ∧ ∀ s, s ∈ bZ_ (cG_ ss) ↔ s ∈ ss := by
 have e : (cG_ ss).map Lb = (ss.map Lb).mergeSort fun x y => decide (x ≤ y) := by
  unfold cG_
  rw [List.map_map]
  conv => rhs; rw [← List.map_id ((ss.map Lb).mergeSort fun x y => decide (x ≤ y))]
  apply List.map_congr_left; intro x _; exact Lb_B x
 have hs : ((cG_ ss).map Lb).Pairwise fun x y : List UInt8 => x = y ∨ x < y := by
  rw [e]
  have := List.pairwise_mergeSort (le := fun x y : List UInt8 => decide (x ≤ y)) (fun a b c h1 h2 => by simp only [decide_eq_true_eq] at *; exact List.le_trans h1 h2) (fun a b => by simp only [Bool.or_eq_true, decide_eq_true_eq]; exact List.le_total a b) (ss.map Lb)
  exact this.imp fun {a b} h => by
   simp only [decide_eq_true_eq] at h
   by_cases hlt : a < b
   ·exact .inr hlt
   ·exact .inl (List.le_antisymm h (List.not_lt.1 hlt))
 obtain ⟨h1, h2⟩ := eE_ (r := fun x y : List UInt8 => x < y) (fun a b c h1 h2 => List.lt_trans h1 h2) _ hs
 refine ⟨?_, fun s => ?_⟩
 ·unfold jR_ bZ_
  rw [List.pairwise_map]
  exact h1.imp fun h => by rw [ie_, Lb_B, Lb_B]; exact decide_eq_true h
 ·unfold bZ_
  rw [List.mem_map]
  constructor
  ·rintro ⟨l, hl, rfl⟩
   have := (h2 l).1 hl
   rw [e, List.mem_mergeSort] at this
   obtain ⟨t, ht, rfl⟩ := List.mem_map.1 this
   rw [B_Lb]; exact ht
  ·intro hs'
   exact ⟨Lb s, (h2 _).2 (by rw [e, List.mem_mergeSort]; exact List.mem_map.2 ⟨s, hs', rfl⟩), B_Lb s⟩
theorem kK_ {l m : List ByteArray} (hl : jR_ l) (hm : jR_ m) (h : ∀ x, x ∈ l ↔ x ∈ m) : l = m :=
 cQ_ (r := fun x y : ByteArray => sLt x y = true) (fun a => by rw [bk_]; simp) (fun a b c h1 h2 => bs_ h1 h2) hl hm h
def Kn (x : Seen) (n : Int) : Prop := (0 < n ∧ n ≤ x.base) ∨ n ∈ x.more
theorem tq_ {l : List Int} {n : Int} : inS l n = true ↔ n ∈ l := by simp [inS]
theorem q7_ {x : Seen} {s : ByteArray} {n : Int} : hasX x s n = true ↔ x.node = s ∧ Kn x n := by
 simp [hasX, Kn, tq_]
theorem cz_ {c : List Seen} {s : ByteArray} {n : Int} : hasS c s n = true ↔ ∃ x ∈ c, x.node = s ∧ Kn x n := by
 simp [hasS, q7_]
theorem i0_ : ∀ {l : List Int} {z : Int}, cl_ z l = true ↔ l.Pairwise (·< ·) ∧ ∀ n ∈ l, z < n ∧ n ≤ 9007199254740992
 |[], z => by simp [cl_]
 |m :: l, z => by
  simp only [cl_, Bool.and_eq_true, decide_eq_true_eq, i0_ (l := l), List.pairwise_cons, List.mem_cons]
  constructor
  ·rintro ⟨⟨h1, h2⟩, h3, h4⟩
   exact ⟨⟨fun n hn => (h4 n hn).1, h3⟩, fun n hn => by rcases hn with rfl | hn; exact ⟨h1, h2⟩; have := h4 n hn; omega⟩
  ·rintro ⟨⟨h1, h2⟩, h3⟩
   exact ⟨h3 m (.inl rfl), h2, fun n hn => ⟨h1 n hn, (h3 n (.inr hn)).2⟩⟩
structure SeenCn (x : Seen) : Prop where
 lo : 0 ≤ x.base
 hi : x.base ≤ 9007199254740992
 rise : x.more.Pairwise (·< ·)
 ab : ∀ n ∈ x.more, x.base + 1 < n ∧ n ≤ 9007199254740992
theorem cS_ {x : Seen} : cF_ x = true ↔ bS_ x.node = true ∧ SeenCn x ∧ ∃ n, Kn x n := by
 simp only [cF_, du_, Bool.and_eq_true, decide_eq_true_eq, i0_, Bool.not_eq_true', Bool.and_eq_false_iff, decide_eq_false_iff_not]
 constructor
 ·rintro ⟨⟨⟨⟨h1, h2⟩, h3⟩, h4⟩, h5, h6⟩
  refine ⟨h1, ⟨h2, h3, h5, h6⟩, ?_⟩
  by_cases h0 : x.base = 0
  ·rcases h4 with h | h
   ·exact absurd h0 h
   ·cases hm : x.more with
    |nil => rw [hm] at h; exact absurd rfl h
    |cons a l => exact ⟨a, .inr (by rw [hm]; exact .head _)⟩
  ·exact ⟨1, .inl ⟨by omega, by omega⟩⟩
 ·rintro ⟨h1, ⟨h2, h3, h4, h5⟩, n, hn⟩
  refine ⟨⟨⟨⟨h1, h2⟩, h3⟩, ?_⟩, h4, h5⟩
  by_cases h0 : x.base = 0
  ·right
   rcases hn with h | h
   ·omega
   ·exact fun hh => by rw [List.length_eq_zero_iff.1 hh] at h; cases h
  ·exact .inl h0
theorem oM_ {x : Seen} (h : SeenCn x) {n : Int} (hn : Kn x n) : 0 < n ∧ n ≤ 9007199254740992 := by
 rcases hn with hn | hn
 ·have := h.hi; omega
 ·have := h.ab n hn; have := h.lo; omega
theorem oL_ {x y : Seen} (hx : SeenCn x) (hy : SeenCn y) (h : ∀ n, Kn x n → Kn y n) : x.base ≤ y.base := by
 by_cases hb : x.base ≤ y.base
 ·exact hb
 ·have h1 : Kn x (y.base + 1) := .inl ⟨by have := hy.lo; omega, by omega⟩
  rcases h _ h1 with h2 | h2
  ·omega
  ·have := (hy.ab _ h2).1; omega
theorem oN_ {x y : Seen} (hx : SeenCn x) (hy : SeenCn y) (hn : x.node = y.node) (h : ∀ n, Kn x n ↔ Kn y n) : x = y := by
 have hb : x.base = y.base := Int.le_antisymm (oL_ hx hy fun n => (h n).1) (oL_ hy hx fun n => (h n).2)
 have hm : x.more = y.more := cQ_ (r := fun x y : Int => x < y) (fun a => Int.lt_irrefl a) (fun a b c h1 h2 => Int.lt_trans h1 h2) hx.rise hy.rise fun n => by
  constructor
  ·intro hn
   have h1 := (hx.ab n hn).1
   rcases (h n).1 (.inr hn) with h2 | h2
   ·omega
   ·exact h2
  ·intro hn
   have h1 := (hy.ab n hn).1
   rcases (h n).2 (.inr hn) with h2 | h2
   ·omega
   ·exact h2
 cases x; cases y; simp at hn hb hm ⊢; exact ⟨hn, hb, hm⟩
theorem e2_ : ∀ (L : List Int) (b : Int) (rest : List Int), L.Pairwise (·< ·) → (∀ n ∈ L, 0 < n ∧ n ≤ 9007199254740992) → 0 ≤ b → b ≤ 9007199254740992 → rest.Pairwise (·< ·) → (∀ m ∈ rest, b + 1 < m ∧ m ≤ 9007199254740992) → (∀ m ∈ rest, ∀ n ∈ L, m < n) →
  0 ≤ (L.foldl ch_ (b, rest)).1 ∧ (L.foldl ch_ (b, rest)).1 ≤ 9007199254740992 ∧ (L.foldl ch_ (b, rest)).2.Pairwise (·< ·) ∧ (∀ m ∈ (L.foldl ch_ (b, rest)).2, (L.foldl ch_ (b, rest)).1 + 1 < m ∧ m ≤ 9007199254740992) ∧
  ∀ n, ((0 < n ∧ n ≤ (L.foldl ch_ (b, rest)).1) ∨ n ∈ (L.foldl ch_ (b, rest)).2) ↔ ((0 < n ∧ n ≤ b) ∨ n ∈ rest ∨ n ∈ L)
 |[], b, rest, _, _, h3, h4, h5, h6, _ => ⟨h3, h4, h5, h6, fun n => by simp⟩
 |k :: L, b, rest, h1, h2, h3, h4, h5, h6, h7 => by
  rw [List.pairwise_cons] at h1
  have hk := h2 k (.head _)
  rw [List.foldl_cons]
  by_cases c1 : k = b + 1
  ·have hr : rest = [] := by
    cases rest with
    |nil => rfl
    |cons m r => have := (h6 m (.head _)).1; have := h7 m (.head _) k (.head _); omega
   subst hr
   have e : ch_ (b, []) k = (k, []) := by simp [ch_, c1]
   rw [e]
   obtain ⟨g1, g2, g3, g4, g5⟩ := e2_ L k [] h1.2 (fun n hn => h2 n (.tail _ hn)) (by omega) hk.2 .nil (fun m hm => by cases hm) (fun m hm => by cases hm)
   refine ⟨g1, g2, g3, g4, fun n => ?_⟩
   rw [g5 n]
   simp only [List.not_mem_nil, false_or, List.mem_cons]
   constructor
   ·rintro (h | h)
    ·by_cases hn : n = k
     ·exact .inr (.inl hn)
     ·left; omega
    ·exact .inr (.inr h)
   ·rintro (h | h | h)
    ·left; omega
    ·left; omega
    ·exact .inr h
  ·by_cases c2 : b < k
   ·have e : ch_ (b, rest) k = (b, rest ++ [k]) := by simp [ch_, c1, c2]
    rw [e]
    obtain ⟨g1, g2, g3, g4, g5⟩ := e2_ L b (rest ++ [k]) h1.2 (fun n hn => h2 n (.tail _ hn)) h3 h4 (by
      rw [List.pairwise_append]
      exact ⟨h5, List.pairwise_singleton _ _, fun x hx y hy => by rw [List.mem_singleton.1 hy]; exact h7 x hx k (.head _)⟩) (fun m hm => by
      rcases List.mem_append.1 hm with h | h
      ·exact h6 m h
      ·rw [List.mem_singleton.1 h]; omega) (fun m hm n hn => by
      rcases List.mem_append.1 hm with h | h
      ·exact h7 m h n (.tail _ hn)
      ·rw [List.mem_singleton.1 h]; exact h1.1 n hn)
    refine ⟨g1, g2, g3, g4, fun n => ?_⟩
    rw [g5 n]
    simp only [List.mem_append, List.mem_singleton, List.mem_cons, or_assoc, List.not_mem_nil, false_or]
   ·have e : ch_ (b, rest) k = (b, rest) := by simp [ch_, c1, c2]
    rw [e]
    obtain ⟨g1, g2, g3, g4, g5⟩ := e2_ L b rest h1.2 (fun n hn => h2 n (.tail _ hn)) h3 h4 h5 h6 (fun m hm n hn => h7 m hm n (.tail _ hn))
    refine ⟨g1, g2, g3, g4, fun n => ?_⟩
    rw [g5 n, List.mem_cons]
    constructor
    ·rintro (h | h | h)
     ·exact .inl h
     ·exact .inr (.inl h)
     ·exact .inr (.inr (.inr h))
    ·rintro (h | h | h | h)
     ·exact .inl h
     ·exact .inr (.inl h)
     ·left; omega
     ·exact .inr (.inr h)
theorem oA_ {a b : Seen} (ha : SeenCn a) (hb : SeenCn b) : (cJ_ a b).node = a.node ∧ SeenCn (cJ_ a b) ∧ ∀ n, Kn (cJ_ a b) n ↔ Kn a n ∨ Kn b n := by
 obtain ⟨o1, o2⟩ := gz_ (a.more ++ b.more)
 have hpos : ∀ n ∈ ej_ (a.more ++ b.more), 0 < n ∧ n ≤ 9007199254740992 := fun n hn => by
  rw [o2, List.mem_append] at hn
  rcases hn with h | h
  ·exact oM_ ha (.inr h)
  ·exact oM_ hb (.inr h)
 have l1 := ha.lo; have l2 := hb.lo; have u1 := ha.hi; have u2 := hb.hi
 obtain ⟨g1, g2, g3, g4, g5⟩ := e2_ (ej_ (a.more ++ b.more)) (max a.base b.base) [] o1 hpos (by omega) (by omega) .nil (fun m hm => by cases hm) (fun m hm => by cases hm)
 refine ⟨rfl, ⟨g1, g2, g3, g4⟩, fun n => ?_⟩
 have := g5 n
 unfold Kn cJ_ la_
 rw [this, o2, List.mem_append]
 simp only [List.not_mem_nil, false_or]
 constructor
 ·rintro (h | h | h)
  ·by_cases hh : n ≤ a.base
   ·exact .inl (.inl ⟨h.1, hh⟩)
   ·exact .inr (.inl ⟨h.1, by omega⟩)
  ·exact .inl (.inr h)
  ·exact .inr (.inr h)
 ·rintro ((h | h) | (h | h))
  ·left; omega
  ·exact .inr (.inl h)
  ·left; omega
  ·exact .inr (.inr h)
def gU_ (c : List Seen) : Prop := c.Pairwise fun x y => sLt x.node y.node = true
def room (c : List Seen) : Nat := (c.map fun x => x.more.length).sum
structure CtxG (c : List Seen) : Prop where
 rise : gU_ c
 ok : ∀ x ∈ c, cF_ x = true
theorem hD_ : ∀ {l : List Seen} {pv : Option ByteArray} {rm : Int}, 0 ≤ rm → (eb_ pv rm l = true ↔ (∀ p, pv = some p → ∀ x ∈ l, sLt p x.node = true) ∧ CtxG l ∧ (room l : Int) ≤ rm)
 |[], pv, rm, h => by simp [eb_, room, CtxG.mk, h]; exact ⟨.nil, fun x hx => by cases hx⟩
 |x :: l, pv, rm, h => by
  simp only [eb_, Bool.and_eq_true, decide_eq_true_eq]
  have e : (room (x :: l) : Int) = x.more.length + room l := by simp [room]
  constructor
  ·rintro ⟨⟨⟨h1, h2⟩, h3⟩, h4⟩
   obtain ⟨g1, g2, g3⟩ := (hD_ (l := l) (pv := some x.node) (rm := rm - x.more.length) (by omega)).1 h4
   refine ⟨fun p hp y hy => ?_, ⟨List.pairwise_cons.2 ⟨fun y hy => g1 _ rfl y hy, g2.rise⟩, fun y hy => ?_⟩, by omega⟩
   ·subst hp
    have h5 : sLt p x.node = true := h2
    rcases List.mem_cons.1 hy with rfl | hy
    ·exact h5
    ·exact bs_ h5 (g1 _ rfl y hy)
   ·rcases List.mem_cons.1 hy with rfl | hy
    ·exact h1
    ·exact g2.ok y hy
  ·rintro ⟨h1, ⟨h2, h3⟩, h4⟩
   have hp := List.pairwise_cons.1 h2
   refine ⟨⟨⟨h3 x (.head _), ?_⟩, by omega⟩, (hD_ (l := l) (pv := some x.node) (rm := rm - x.more.length) (by omega)).2 ⟨fun p hp' y hy => by cases hp'; exact hp.1 y hy, ⟨hp.2, fun y hy => h3 y (.tail _ hy)⟩, by omega⟩⟩
   cases pv with
   |none => rfl
   |some p => exact h1 p rfl x (.head _)
theorem bK_ {c : List Seen} : b5_ c = true ↔ CtxG c ∧ room c ≤ 4096 := by
 unfold b5_
 rw [hD_ (by decide)]
 constructor
 ·rintro ⟨_, h1, h2⟩; exact ⟨h1, by omega⟩
 ·rintro ⟨h1, h2⟩; exact ⟨(fun p hp => by cases hp), h1, by omega⟩
theorem rS_ (s : ByteArray) : SeenCn (gY_ s) := ⟨Int.le_refl 0, by show (0 : Int) ≤ _; decide, .nil, fun n hn => by cases hn⟩
theorem rT_ (s : ByteArray) (n : Int) : ¬ Kn (gY_ s) n := by rintro (⟨h1, h2⟩ | h); exact absurd h2 (by show ¬ n ≤ 0; omega); cases h
theorem kL_ {c : List Seen} (h : gU_ c) {x y : Seen} (hx : x ∈ c) (hy : y ∈ c) (e : x.node = y.node) : x = y := by
 induction c with
 |nil => cases hx
 |cons z c ih =>
  have hp := List.pairwise_cons.1 h
  rcases List.mem_cons.1 hx with h1 | h1 <;> rcases List.mem_cons.1 hy with h2 | h2
  ·rw [h1, h2]
  ·exact absurd (h1 ▸ e) (fn_ (hp.1 y h2))
  ·exact absurd (h2 ▸ e.symm) (fn_ (hp.1 x h1))
  ·exact ih hp.2 h1 h2
theorem lH_ {c : List Seen} (h : gU_ c) {x : Seen} (hx : x ∈ c) : ofS c x.node = x := by
 unfold ofS
 split
 ·rename_i y hy
  exact kL_ h (List.mem_of_find?_eq_some hy) hx (by simpa using List.find?_some hy)
 ·rename_i hy
  have := List.find?_eq_none.1 hy x hx
  simp at this
theorem ps_ {c : List Seen} {s : ByteArray} (h : ∀ x ∈ c, x.node ≠ s) : ofS c s = gY_ s := by
 unfold ofS
 rw [List.find?_eq_none.2 fun x hx => by simpa using h x hx]
theorem e8_ {c : List Seen} (h : CtxG c) (s : ByteArray) : SeenCn (ofS c s) ∧ ∀ n, Kn (ofS c s) n ↔ hasS c s n = true := by
 by_cases hx : ∃ x ∈ c, x.node = s
 ·obtain ⟨x, hx, rfl⟩ := hx
  rw [lH_ h.rise hx]
  refine ⟨(cS_.1 (h.ok x hx)).2.1, fun n => ?_⟩
  rw [cz_]
  exact ⟨fun hn => ⟨x, hx, rfl, hn⟩, fun ⟨y, hy, e, hn⟩ => by rw [← kL_ h.rise hy hx e]; exact hn⟩
 ·have hx' : ∀ x ∈ c, x.node ≠ s := fun x hxc e => hx ⟨x, hxc, e⟩
  rw [ps_ hx']
  refine ⟨rS_ s, fun n => ⟨fun hn => absurd hn (rT_ s n), fun hn => ?_⟩⟩
  obtain ⟨y, hy, e, _⟩ := cz_.1 hn
  exact absurd e (hx' y hy)
theorem iF_ {a b : List Seen} (ha : CtxG a) (hb : CtxG b) (h : ∀ s n, hasS a s n = hasS b s n) : a = b := by
 have key : ∀ {a b : List Seen}, CtxG a → CtxG b → (∀ s n, hasS a s n = hasS b s n) → ∀ x ∈ a, x ∈ b := fun {a b} ha hb h x hx => by
  obtain ⟨_, hcx, n, hn⟩ := cS_.1 (ha.ok x hx)
  have h1 : hasS a x.node n = true := cz_.2 ⟨x, hx, rfl, hn⟩
  rw [h] at h1
  obtain ⟨y, hy, e, _⟩ := cz_.1 h1
  have hcy := (cS_.1 (hb.ok y hy)).2.1
  have : x = y := oN_ hcx hcy e.symm fun m => by
   have e1 := (e8_ ha x.node).2 m
   have e2 := (e8_ hb x.node).2 m
   rw [lH_ ha.rise hx] at e1
   rw [← e, lH_ hb.rise hy, e] at e2
   rw [e1, e2, h]
  rw [this]; exact hy
 exact cQ_ (r := fun x y : Seen => sLt x.node y.node = true) (fun x => by rw [bk_]; simp) (fun x y z h1 h2 => bs_ h1 h2) ha.rise hb.rise fun x => ⟨key ha hb h x, key hb ha (fun s n => (h s n).symm) x⟩
theorem fv_ (a b : List Seen) : jR_ (c9_ a b) ∧ ∀ s, s ∈ c9_ a b ↔ ∃ x ∈ a ++ b, x.node = s := by
 obtain ⟨h1, h2⟩ := nQ_ ((a ++ b).map (·.node))
 exact ⟨h1, fun s => by rw [c9_, h2, List.mem_map]⟩
theorem eQ_ {a b : List Seen} (s : ByteArray) : (cJ_ (ofS a s) (ofS b s)).node = s := mK_ a s
theorem ki_ {c : List Seen} {s : ByteArray} {n : Int} (hc : CtxG c) (h : hasS c s n = true) : bS_ s = true ∧ 0 < n ∧ n ≤ 9007199254740992 := by
 obtain ⟨x, hx, rfl, hn⟩ := cz_.1 h
 obtain ⟨h1, h2, _⟩ := cS_.1 (hc.ok x hx)
 exact ⟨h1, oM_ h2 hn⟩
theorem eR_ {a b : List Seen} (ha : CtxG a) (hb : CtxG b) : CtxG (a1_ a b) ∧ ∀ s n, hasS (a1_ a b) s n = (hasS a s n || hasS b s n) := by
 obtain ⟨h1, h2⟩ := fv_ a b
 have sp := fun s => oA_ (e8_ ha s).1 (e8_ hb s).1
 have hk : ∀ s n, Kn (cJ_ (ofS a s) (ofS b s)) n ↔ hasS a s n = true ∨ hasS b s n = true := fun s n => by
  rw [(sp s).2.2 n, (e8_ ha s).2, (e8_ hb s).2]
 refine ⟨⟨?_, fun x hx => ?_⟩, fun s n => ?_⟩
 ·unfold gU_ a1_
  rw [List.pairwise_map]
  exact h1.imp fun h => by rw [eQ_, eQ_]; exact h
 ·obtain ⟨s, hs, rfl⟩ := List.mem_map.1 hx
  obtain ⟨y, hy, rfl⟩ := (h2 s).1 hs
  have hyn : ∃ n, hasS a y.node n = true ∨ hasS b y.node n = true := by
   rcases List.mem_append.1 hy with h | h
   ·obtain ⟨_, _, n, hn⟩ := cS_.1 (ha.ok y h); exact ⟨n, .inl (cz_.2 ⟨y, h, rfl, hn⟩)⟩
   ·obtain ⟨_, _, n, hn⟩ := cS_.1 (hb.ok y h); exact ⟨n, .inr (cz_.2 ⟨y, h, rfl, hn⟩)⟩
  obtain ⟨n, hn⟩ := hyn
  refine cS_.2 ⟨?_, (sp _).2.1, n, (hk _ n).2 hn⟩
  rw [eQ_]
  rcases hn with h | h
  ·exact (ki_ ha h).1
  ·exact (ki_ hb h).1
 ·rw [Bool.eq_iff_iff, Bool.or_eq_true]
  constructor
  ·intro h
   obtain ⟨x, hx, e, hn⟩ := cz_.1 h
   obtain ⟨t, ht, rfl⟩ := List.mem_map.1 hx
   rw [eQ_] at e
   subst e
   exact (hk _ n).1 hn
  ·intro h
   have hs : s ∈ c9_ a b := by
    rw [h2]
    rcases h with h | h
    ·obtain ⟨x, hx, e, _⟩ := cz_.1 h; exact ⟨x, List.mem_append.2 (.inl hx), e⟩
    ·obtain ⟨x, hx, e, _⟩ := cz_.1 h; exact ⟨x, List.mem_append.2 (.inr hx), e⟩
   exact cz_.2 ⟨_, List.mem_map.2 ⟨s, hs, rfl⟩, eQ_ s, (hk s n).2 h⟩
theorem sR_ {s : ByteArray} {L : Nat} : ∀ {N : List ByteArray}, jR_ N → (N.map fun t => if s = t then L else 0).sum ≤ L
 |[], _ => by simp
 |t :: N, h => by
  have hp := List.pairwise_cons.1 h
  by_cases e : s = t
  ·subst e
   have : (N.map fun t => if s = t then L else 0).sum = 0 := by
    rw [List.map_congr_left (g := fun _ => 0) fun x hx => if_neg (fn_ (hp.1 x hx))]
    clear hp h
    induction N with
    |nil => rfl
    |cons _ _ ih => simpa using ih
   simp [this]
  ·have := sR_ (s := s) (L := L) hp.2
   simp only [List.map_cons, List.sum_cons, if_neg e]; omega
theorem qe_ {α : Type} {f g : α → Nat} : ∀ {l : List α}, (∀ x ∈ l, f x ≤ g x) → (l.map f).sum ≤ (l.map g).sum
 |[], _ => by simp
 |x :: l, h => by
  have := qe_ (l := l) fun y hy => h y (.tail _ hy)
  have := h x (.head _)
  simp only [List.map_cons, List.sum_cons]; omega
theorem lR_ {α : Type} (f g : α → Nat) : ∀ (l : List α), (l.map fun x => f x + g x).sum = (l.map f).sum + (l.map g).sum
 |[] => rfl
 |x :: l => by have := lR_ f g l; simp only [List.map_cons, List.sum_cons]; omega
theorem qf_ {N : List ByteArray} (hN : jR_ N) : ∀ (c : List Seen), (N.map fun s => (ofS c s).more.length).sum ≤ room c
 |[] => by
  have : (N.map fun s => (ofS [] s).more.length) = N.map fun _ => 0 := List.map_congr_left fun s _ => rfl
  rw [this]
  clear this hN
  induction N with
  |nil => simp [room]
  |cons _ _ ih => simpa using ih
 |x :: c => by
  have h1 := qf_ hN c
  have h2 : (N.map fun s => (ofS (x :: c) s).more.length).sum ≤ (N.map fun s => (if x.node = s then x.more.length else 0) + (ofS c s).more.length).sum := by
   refine qe_ fun s _ => ?_
   by_cases e : x.node = s
   ·have : ofS (x :: c) s = x := by unfold ofS; rw [List.find?_cons_of_pos (by simpa using e)]
    rw [this, if_pos e]; omega
   ·have : ofS (x :: c) s = ofS c s := by unfold ofS; rw [List.find?_cons_of_neg (by simpa using e)]
    rw [this]; omega
  rw [lR_] at h2
  have h3 := sR_ (s := x.node) (L := x.more.length) hN
  have e : room (x :: c) = x.more.length + room c := by simp [room]
  omega
theorem hN_ (a b : List Seen) : room (a1_ a b) ≤ room a + room b := by
 obtain ⟨h1, _⟩ := fv_ a b
 have h2 : room (a1_ a b) ≤ ((c9_ a b).map fun s => (ofS a s).more.length + (ofS b s).more.length).sum := by
  unfold room a1_
  rw [List.map_map]
  exact qe_ fun s _ => j2_ _ _
 rw [lR_] at h2
 have := qf_ h1 a
 have := qf_ h1 b
 omega
theorem tu_ {a b : List Seen} (ha : b5_ a = true) (hb : b5_ b = true) (h : room a + room b ≤ 4096) : bB_ a b = (a1_ a b, 0) := by
 have h1 := bK_.1 ha; have h2 := bK_.1 hb
 have : b5_ (a1_ a b) = true := bK_.2 ⟨(eR_ h1.1 h2.1).1, Nat.le_trans (hN_ a b) h⟩
 simp [bB_, ha, hb, this]
theorem eS_ (s : ByteArray) (n : Int) : dW_ s n s n = false := by simp [dW_, bk_]
theorem cL_ {s t u : ByteArray} {k m n : Int} (h1 : dW_ s k t m = true) (h2 : dW_ t m u n = true) : dW_ s k u n = true := by
 simp only [dW_, Bool.or_eq_true, Bool.and_eq_true, decide_eq_true_eq] at *
 rcases h1 with h1 | ⟨rfl, h1⟩ <;> rcases h2 with h2 | ⟨rfl, h2⟩
 ·exact .inl (bs_ h1 h2)
 ·exact .inl h1
 ·exact .inl h2
 ·exact .inr ⟨rfl, by omega⟩
theorem hP_ {s t : ByteArray} {k m : Int} (h : dW_ s k t m = false) (hn : ¬ (s = t ∧ k = m)) : dW_ t m s k = true := by
 simp only [dW_, Bool.or_eq_true, Bool.and_eq_true, decide_eq_true_eq, Bool.or_eq_false_iff, Bool.and_eq_false_iff, decide_eq_false_iff_not] at *
 obtain ⟨h1, h2⟩ := h
 by_cases e : s = t
 ·subst e
  right; refine ⟨rfl, ?_⟩
  rcases h2 with h2 | h2
  ·exact absurd rfl h2
  ·have : k ≠ m := fun hh => hn ⟨rfl, hh⟩
   omega
 ·exact .inl (fD_ h1 e)
theorem e7_ {s t : ByteArray} {k m : Int} (h : dW_ s k t m = true) : ¬ (s = t ∧ k = m) := by
 rintro ⟨rfl, rfl⟩; rw [eS_] at h; cases h
def b4_ (x y : Sib) : Bool := dW_ x.node x.n y.node y.n
def Dot (x y : Sib) : Prop := x.node = y.node ∧ x.n = y.n
theorem Dot.symm {x y : Sib} (h : Dot x y) : Dot y x := ⟨h.1.symm, h.2.symm⟩
def cm_ (l : List Sib) : Prop := l.Pairwise fun x y => b4_ x y = true
def Uq (l : List Sib) : Prop := ∀ x ∈ l, ∀ y ∈ l, Dot x y → x = y
theorem cm_.uq : ∀ {l : List Sib}, cm_ l → Uq l
 |[], _ => fun x hx => by cases hx
 |z :: l, h => fun x hx y hy e => by
  have hp := List.pairwise_cons.1 h
  rcases List.mem_cons.1 hx with h1 | h1 <;> rcases List.mem_cons.1 hy with h2 | h2
  ·rw [h1, h2]
  ·exact absurd (h1 ▸ e) (e7_ (hp.1 y h2))
  ·exact absurd (h2 ▸ e.symm) (e7_ (hp.1 x h1))
  ·exact cm_.uq hp.2 x h1 y h2 e
theorem gO_ {l m : List Sib} (hl : cm_ l) (hm : cm_ m) (h : ∀ x, x ∈ l ↔ x ∈ m) : l = m :=
 cQ_ (r := fun x y : Sib => b4_ x y = true) (fun x => by unfold b4_; rw [eS_]; simp) (fun x y z h1 h2 => cL_ h1 h2) hl hm h
def ltV (x y : Sib) : Bool := decide (x.time < y.time) || (decide (x.time = y.time) && (sLt x.value y.value || (decide (x.value = y.value) && (!x.gone && y.gone))))
def grS (x y : Sib) : Sib := if ltV x y then y else x
theorem c4_ {x y : Sib} : ltV x y = true ↔ x.time < y.time ∨ (x.time = y.time ∧ (sLt x.value y.value = true ∨ (x.value = y.value ∧ x.gone = false ∧ y.gone = true))) := by simp [ltV]
theorem nM_ (x : Sib) : ltV x x = false := by
 rw [← Bool.not_eq_true, c4_, bk_]
 rintro (h | ⟨_, h | ⟨_, h1, h2⟩⟩)
 ·omega
 ·cases h
 ·rw [h1] at h2; cases h2
theorem hT_ {x y z : Sib} (h1 : ltV x y = true) (h2 : ltV y z = true) : ltV x z = true := by
 rw [c4_] at *
 rcases h1 with h1 | ⟨e1, h1⟩ <;> rcases h2 with h2 | ⟨e2, h2⟩
 ·left; omega
 ·left; omega
 ·left; omega
 ·right
  refine ⟨e1.trans e2, ?_⟩
  rcases h1 with h1 | ⟨v1, g1, k1⟩ <;> rcases h2 with h2 | ⟨v2, g2, k2⟩
  ·exact .inl (bs_ h1 h2)
  ·left; rw [← v2]; exact h1
  ·left; rw [v1]; exact h2
  ·rw [k1] at g2; cases g2
theorem lE_ {x y : Sib} (h1 : ltV x y = false) (h2 : ltV y x = false) (hd : Dot x y) : x = y := by
 rw [← Bool.not_eq_true, c4_, not_or, not_and, not_or] at h1 h2
 have ht : x.time = y.time := by omega
 have a1 := h1.2 ht; have a2 := h2.2 ht.symm
 have hv : x.value = y.value := by
  by_cases e : x.value = y.value
  ·exact e
  ·exact absurd (fD_ (by simpa using a1.1) e) a2.1
 have hg : x.gone = y.gone := by
  have b1 := a1.2; have b2 := a2.2
  cases h : x.gone <;> cases k : y.gone <;> simp [hv, h, k] at b1 b2 ⊢
 cases x; cases y; simp [Dot] at *; exact ⟨hd.1, hd.2, hv, hg, ht⟩
theorem mu_ (x : Sib) : grS x x = x := by simp [grS]
theorem mt_ {x y : Sib} (hd : Dot x y) : grS x y = grS y x := by
 unfold grS
 cases h : ltV x y <;> cases k : ltV y x
 ·simp; exact lE_ h k hd
 ·simp
 ·simp
 ·have := hT_ h k; rw [nM_] at this; cases this
theorem tm_ {x y : Sib} (hd : Dot x y) : Dot (grS x y) x := by unfold grS; split; exact hd.symm; exact ⟨rfl, rfl⟩
theorem vk_ (x y : Sib) : grS x y = x ∨ grS x y = y := by unfold grS; split <;> simp
theorem o6_ {x y z : Sib} (h1 : Dot x y) (h2 : Dot y z) : grS (grS x y) z = grS x (grS y z) := by
 have h3 : Dot x z := ⟨h1.1.trans h2.1, h1.2.trans h2.2⟩
 unfold grS
 cases a : ltV x y <;> cases b : ltV y z <;> simp only [Bool.false_eq_true, if_false, if_true, a, b]
 ·cases c : ltV x z
  ·simp
  ·cases d : ltV y x
   ·have := lE_ a d h1; subst this; rw [b] at c; cases c
   ·rw [hT_ d c] at b; cases b
 ·rw [hT_ a b]; simp
def lB_ (s : ByteArray) (n : Int) (x : Sib) : Bool := decide (x.node = s) && decide (x.n = n)
def fnd (l : List Sib) (s : ByteArray) (n : Int) : Option Sib := l.find? (lB_ s n)
theorem b8_ {s : ByteArray} {n : Int} {x : Sib} : lB_ s n x = true ↔ x.node = s ∧ x.n = n := by simp [lB_]
theorem do_ {l : List Sib} {s : ByteArray} {n : Int} {x : Sib} (h : fnd l s n = some x) : x ∈ l ∧ x.node = s ∧ x.n = n := ⟨List.mem_of_find?_eq_some h, b8_.1 (List.find?_some h)⟩
theorem eg_ {l : List Sib} {s : ByteArray} {n : Int} : fnd l s n = none ↔ ∀ x ∈ l, ¬ (x.node = s ∧ x.n = n) := by
 unfold fnd
 rw [List.find?_eq_none]
 exact ⟨fun h x hx hh => h x hx (b8_.2 hh), fun h x hx hh => h x hx (b8_.1 hh)⟩
theorem mr_ {l : List Sib} (hu : Uq l) {x : Sib} (hx : x ∈ l) : fnd l x.node x.n = some x := by
 cases h : fnd l x.node x.n with
 |none => exact absurd ⟨rfl, rfl⟩ (eg_.1 h x hx)
 |some y => obtain ⟨h1, h2⟩ := do_ h; rw [hu y h1 x hx h2]
theorem ve_ {l m : List Sib} (hl : Uq l) (hm : ∀ x, x ∈ l ↔ x ∈ m) (s : ByteArray) (n : Int) : fnd l s n = fnd m s n := by
 cases h : fnd l s n with
 |none => exact (eg_.2 fun x hx => eg_.1 h x ((hm x).2 hx)).symm
 |some x =>
  obtain ⟨h1, rfl, rfl⟩ := do_ h
  have hm' : Uq m := fun y hy z hz e => hl y ((hm y).2 hy) z ((hm z).2 hz) e
  exact (mr_ hm' ((hm x).1 h1)).symm
theorem lv_ {f : Sib → Option Sib} (hf : ∀ x y, f x = some y → Dot y x) {s : ByteArray} {n : Int} : ∀ {l : List Sib}, cm_ l → fnd (l.filterMap f) s n = (fnd l s n).bind f
 |[], _ => rfl
 |x :: l, h => by
  have hp := List.pairwise_cons.1 h
  have ih := lv_ hf (s := s) (n := n) (l := l) hp.2
  by_cases hd : lB_ s n x = true
  ·have e : fnd (x :: l) s n = some x := by unfold fnd; rw [List.find?_cons_of_pos hd]
   rw [e]
   cases hx : f x with
   |some y =>
    rw [List.filterMap_cons_some hx]
    have hy : lB_ s n y = true := by
     have h1 := hf x y hx; have h2 := b8_.1 hd
     exact b8_.2 ⟨h1.1.trans h2.1, h1.2.trans h2.2⟩
    unfold fnd; rw [List.find?_cons_of_pos hy]; exact hx.symm
   |none =>
    rw [List.filterMap_cons_none hx, ih]
    have : fnd l s n = none := eg_.2 fun y hy hh => by
     have h2 := b8_.1 hd
     exact e7_ (hp.1 y hy) ⟨h2.1.trans hh.1.symm, h2.2.trans hh.2.symm⟩
    rw [this]; exact hx.symm
  ·have e : fnd (x :: l) s n = fnd l s n := by unfold fnd; rw [List.find?_cons_of_neg hd]
   rw [e, ← ih]
   cases hx : f x with
   |some y =>
    rw [List.filterMap_cons_some hx]
    have hy : ¬ lB_ s n y = true := fun hh => hd (by
     have h1 := hf x y hx; have h2 := b8_.1 hh
     exact b8_.2 ⟨h1.1.symm.trans h2.1, h1.2.symm.trans h2.2⟩)
    unfold fnd; rw [List.find?_cons_of_neg hy]
   |none => rw [List.filterMap_cons_none hx]
theorem m6_ {f : Sib → Option Sib} (hf : ∀ x y, f x = some y → Dot y x) {l : List Sib} (h : cm_ l) : cm_ (l.filterMap f) := by
 unfold cm_
 rw [List.pairwise_filterMap]
 exact h.imp fun {x y} hxy u hu v hv => by
  have h1 := hf x u hu; have h2 := hf y v hv
  show dW_ u.node u.n v.node v.n = true
  rw [h1.1, h1.2, h2.1, h2.2]; exact hxy
def bH_ (b : Obj') (x : Sib) : Option Sib := match fnd b.sibs x.node x.n with
 |some y => some (grS x y)
 |none => if hasS b.ctx x.node x.n then none else some x
def dV_ (a : Obj') (x : Sib) : Option Sib := if (fnd a.sibs x.node x.n).isNone && !hasS a.ctx x.node x.n then some x else none
def c0_ (a b : Obj') : List Sib := a.sibs.filterMap (bH_ b)
def nH_ (a b : Obj') : List Sib := b.sibs.filterMap (dV_ a)
def putD : List Sib → Sib → List Sib
 |[], s => [s]
 |y :: l, s => if b4_ y s then y :: putD l s else s :: y :: l
def c3_ (a b : Obj') : List Sib := (c0_ a b ++ nH_ a b).foldl putD []
def b1_ (a b : Obj') : Obj' := ⟨a1_ a.ctx b.ctx, c3_ a b⟩
theorem fX_ {b : Obj'} (x y : Sib) (h : bH_ b x = some y) : Dot y x := by
 unfold bH_ at h
 split at h
 ·rename_i z hz
  obtain rfl := Option.some.inj h
  have := (do_ hz).2
  exact tm_ (x := x) (y := z) ⟨this.1.symm, this.2.symm⟩
 ·split at h
  ·cases h
  ·obtain rfl := Option.some.inj h; exact ⟨rfl, rfl⟩
theorem ha_ {a : Obj'} {x y : Sib} (h : dV_ a x = some y) : y = x ∧ fnd a.sibs x.node x.n = none ∧ hasS a.ctx x.node x.n = false := by
 unfold dV_ at h
 split at h
 ·rename_i hh
  simp only [Bool.and_eq_true, Option.isNone_iff_eq_none, Bool.not_eq_true'] at hh
  exact ⟨(Option.some.inj h).symm, hh⟩
 ·cases h
theorem kk_ {a : Obj'} (x y : Sib) (h : dV_ a x = some y) : Dot y x := by rw [(ha_ h).1]; exact ⟨rfl, rfl⟩
theorem hf_ {s x : Sib} : ∀ {l : List Sib}, x ∈ putD l s ↔ x = s ∨ x ∈ l
 |[] => by simp [putD]
 |y :: l => by
  unfold putD
  split
  ·rw [List.mem_cons, hf_ (l := l), List.mem_cons]
   constructor
   ·rintro (h | h | h)
    ·exact .inr (.inl h)
    ·exact .inl h
    ·exact .inr (.inr h)
   ·rintro (h | h | h)
    ·exact .inr (.inl h)
    ·exact .inl h
    ·exact .inr (.inr h)
  ·rw [List.mem_cons]
theorem kx_ {s : Sib} : ∀ {l : List Sib}, cm_ l → (∀ x ∈ l, ¬ Dot x s) → cm_ (putD l s)
 |[], _, _ => List.pairwise_singleton _ _
 |y :: l, h, hn => by
  have hp := List.pairwise_cons.1 h
  unfold putD
  split
  ·rename_i hy
   refine List.pairwise_cons.2 ⟨fun z hz => ?_, kx_ hp.2 fun x hx => hn x (.tail _ hx)⟩
   rcases hf_.1 hz with rfl | hz
   ·exact hy
   ·exact hp.1 z hz
  ·rename_i hy
   have hsy : b4_ s y = true := hP_ (by simpa [b4_] using hy) (hn y (.head _))
   refine List.pairwise_cons.2 ⟨fun z hz => ?_, h⟩
   rcases List.mem_cons.1 hz with rfl | hz
   ·exact hsy
   ·exact cL_ hsy (hp.1 z hz)
theorem kA_ : ∀ {M l : List Sib}, cm_ l → M.Pairwise (fun x y => ¬ Dot x y) → (∀ x ∈ l, ∀ y ∈ M, ¬ Dot x y) → cm_ (M.foldl putD l) ∧ ∀ x, x ∈ M.foldl putD l ↔ x ∈ l ∨ x ∈ M
 |[], l, h, _, _ => ⟨h, fun x => by simp⟩
 |s :: M, l, h, hM, hx => by
  have hp := List.pairwise_cons.1 hM
  obtain ⟨h1, h2⟩ := kA_ (M := M) (kx_ h fun x hxl => hx x hxl s (.head _)) hp.2 (fun x hxl y hy => by
   rcases hf_.1 hxl with rfl | hxl
   ·exact hp.1 y hy
   ·exact hx x hxl y (.tail _ hy))
  refine ⟨h1, fun x => ?_⟩
  rw [List.foldl_cons, h2, hf_, List.mem_cons]
  constructor
  ·rintro ((h | h) | h)
   ·exact .inr (.inl h)
   ·exact .inl h
   ·exact .inr (.inr h)
  ·rintro (h | h | h)
   ·exact .inl (.inr h)
   ·exact .inl (.inl h)
   ·exact .inr h
structure ObjG (o : Obj') : Prop where
 ctx : CtxG o.ctx
 rise : cm_ o.sibs
 ok : ∀ x ∈ o.sibs, gH_ x = true ∧ hasS o.ctx x.node x.n = true
theorem nI_ {a b : Obj'} (ha : cm_ a.sibs) (hb : cm_ b.sibs) : (c0_ a b ++ nH_ a b).Pairwise fun x y => ¬ Dot x y := by
 rw [List.pairwise_append]
 refine ⟨(m6_ fX_ ha).imp fun h => e7_ h, (m6_ kk_ hb).imp fun h => e7_ h, fun x hx y hy hd => ?_⟩
 obtain ⟨u, hu, hux⟩ := List.mem_filterMap.1 hx
 obtain ⟨v, hv, hvy⟩ := List.mem_filterMap.1 hy
 have h1 := fX_ u x hux
 obtain ⟨rfl, h2, _⟩ := ha_ hvy
 exact eg_.1 h2 u hu ⟨h1.1.symm.trans hd.1, h1.2.symm.trans hd.2⟩
theorem fu_ {a b : Obj'} (ha : cm_ a.sibs) (hb : cm_ b.sibs) : cm_ (c3_ a b) ∧ ∀ x, x ∈ c3_ a b ↔ x ∈ c0_ a b ++ nH_ a b := by
 obtain ⟨h1, h2⟩ := kA_ (M := c0_ a b ++ nH_ a b) (l := []) .nil (nI_ ha hb) (fun x hx => by cases hx)
 exact ⟨h1, fun x => by rw [c3_, h2]; simp⟩
theorem o4_ {a b : Obj'} (ha : cm_ a.sibs) (hb : cm_ b.sibs) (s : ByteArray) (n : Int) : fnd (c3_ a b) s n = ((fnd a.sibs s n).bind (bH_ b)).or ((fnd b.sibs s n).bind (dV_ a)) := by
 obtain ⟨h1, h2⟩ := fu_ ha hb
 rw [ve_ h1.uq h2, ← lv_ fX_ ha, ← lv_ kk_ hb]
 exact List.find?_append
inductive St where
 |un
 |rep
 |val (x : Sib)
def mg : St → St → St
 |.un, t => t
 |s, .un => s
 |.val x, .val y => .val (grS x y)
 |_, _ => .rep
def look (o : Obj') (s : ByteArray) (n : Int) : St := match fnd o.sibs s n with
 |some x => .val x
 |none => if hasS o.ctx s n then .rep else .un
theorem mB_ {o : Obj'} (ho : ObjG o) (s : ByteArray) (n : Int) : hasS o.ctx s n = true ↔ look o s n ≠ .un := by
 unfold look
 cases h : fnd o.sibs s n with
 |some x =>
  obtain ⟨h1, rfl, rfl⟩ := do_ h
  simp [(ho.ok x h1).2]
 |none => cases hh : hasS o.ctx s n <;> simp
theorem mC_ {o : Obj'} (ho : ObjG o) {s : ByteArray} {n : Int} {x : Sib} : look o s n = .val x ↔ x ∈ o.sibs ∧ x.node = s ∧ x.n = n := by
 unfold look
 constructor
 ·intro h
  split at h
  ·rename_i y hy
   obtain rfl := St.val.inj h
   exact do_ hy
  ·split at h <;> cases h
 ·rintro ⟨h1, rfl, rfl⟩
  rw [mr_ ho.rise.uq h1]
theorem bC_ {a b : Obj'} (ha : ObjG a) (hb : ObjG b) : ObjG (b1_ a b) := by
 obtain ⟨h1, h2⟩ := fu_ ha.rise hb.rise
 obtain ⟨j1, j2⟩ := eR_ ha.ctx hb.ctx
 refine ⟨j1, h1, fun x hx => ?_⟩
 show gH_ x = true ∧ hasS (a1_ a.ctx b.ctx) x.node x.n = true
 rw [j2]
 rcases List.mem_append.1 ((h2 x).1 hx) with h | h
 ·obtain ⟨u, hu, hux⟩ := List.mem_filterMap.1 h
  have hd := fX_ u x hux
  have hk := ha.ok u hu
  refine ⟨?_, by rw [hd.1, hd.2, hk.2]; rfl⟩
  unfold bH_ at hux
  split at hux
  ·rename_i z hz
   obtain rfl := Option.some.inj hux
   rcases vk_ u z with e | e
   ·rw [e]; exact hk.1
   ·rw [e]; exact (hb.ok z (do_ hz).1).1
  ·split at hux
   ·cases hux
   ·obtain rfl := Option.some.inj hux; exact hk.1
 ·obtain ⟨u, hu, hux⟩ := List.mem_filterMap.1 h
  obtain ⟨rfl, _, _⟩ := ha_ hux
  have hk := hb.ok x hu
  exact ⟨hk.1, by rw [hk.2, Bool.or_true]⟩
theorem cM_ {a b : Obj'} (ha : ObjG a) (hb : ObjG b) (s : ByteArray) (n : Int) : look (b1_ a b) s n = mg (look a s n) (look b s n) := by
 obtain ⟨_, j2⟩ := eR_ ha.ctx hb.ctx
 unfold look
 rw [show (b1_ a b).sibs = c3_ a b from rfl, show (b1_ a b).ctx = a1_ a.ctx b.ctx from rfl, o4_ ha.rise hb.rise, j2]
 cases h1 : fnd a.sibs s n with
 |some x =>
  obtain ⟨m1, rfl, rfl⟩ := do_ h1
  have ka := (ha.ok x m1).2
  cases h2 : fnd b.sibs x.node x.n with
  |some y => simp [bH_, h2, mg]
  |none => cases h3 : hasS b.ctx x.node x.n <;> simp [bH_, h2, h3, ka, mg]
 |none =>
  cases h2 : fnd b.sibs s n with
  |some y =>
   obtain ⟨m2, rfl, rfl⟩ := do_ h2
   have kb := (hb.ok y m2).2
   cases h3 : hasS a.ctx y.node y.n <;> simp [dV_, h1, h3, kb, mg]
  |none => cases h3 : hasS a.ctx s n <;> cases h4 : hasS b.ctx s n <;> simp [mg]
theorem gy_ {a b : Obj'} (ha : ObjG a) (hb : ObjG b) (h : ∀ s n, look a s n = look b s n) : a = b := by
 have hc : a.ctx = b.ctx := iF_ ha.ctx hb.ctx fun s n => by rw [Bool.eq_iff_iff, mB_ ha, mB_ hb, h]
 have hs : a.sibs = b.sibs := gO_ ha.rise hb.rise fun x => by
  have h1 := mC_ ha (s := x.node) (n := x.n) (x := x)
  have h2 := mC_ hb (s := x.node) (n := x.n) (x := x)
  rw [h] at h1
  simp only [and_true] at h1 h2
  rw [← h1, ← h2]
 rw [sD_]; exact ⟨hc, hs⟩
def Fits (s t : St) : Prop := ∀ x y, s = .val x → t = .val y → Dot x y
theorem hR_ {a b : Obj'} (s : ByteArray) (n : Int) : Fits (look a s n) (look b s n) := by
 have key : ∀ {o : Obj'} {x : Sib}, look o s n = .val x → x.node = s ∧ x.n = n := fun {o x} h => by
  unfold look at h
  split at h
  ·rename_i y hy
   obtain rfl := St.val.inj h
   exact (do_ hy).2
  ·split at h <;> cases h
 intro x y hx hy
 have h1 := key hx; have h2 := key hy
 exact ⟨h1.1.trans h2.1.symm, h1.2.trans h2.2.symm⟩
theorem tz_ {s t : St} (h : Fits s t) : mg s t = mg t s := by
 cases s <;> cases t <;> simp [mg]
 exact mt_ (h _ _ rfl rfl)
theorem tA_ (s : St) : mg s s = s := by cases s <;> simp [mg, mu_]
theorem rj_ {s t u : St} (h1 : Fits s t) (h2 : Fits t u) : mg (mg s t) u = mg s (mg t u) := by
 cases s <;> cases t <;> cases u <;> simp [mg]
 exact o6_ (h1 _ _ rfl rfl) (h2 _ _ rfl rfl)
theorem nN_ {a b : Obj'} (ha : ObjG a) (hb : ObjG b) : b1_ a b = b1_ b a :=
 gy_ (bC_ ha hb) (bC_ hb ha) fun s n => by rw [cM_ ha hb, cM_ hb ha, tz_ (hR_ s n)]
theorem dX_ {a : Obj'} (ha : ObjG a) : b1_ a a = a :=
 gy_ (bC_ ha ha) ha fun s n => by rw [cM_ ha ha, tA_]
theorem hU_ {a b c : Obj'} (ha : ObjG a) (hb : ObjG b) (hc : ObjG c) : b1_ (b1_ a b) c = b1_ a (b1_ b c) :=
 gy_ (bC_ (bC_ ha hb) hc) (bC_ ha (bC_ hb hc)) fun s n => by
  rw [cM_ (bC_ ha hb) hc, cM_ ha hb, cM_ ha (bC_ hb hc), cM_ hb hc, rj_ (hR_ s n) (hR_ s n)]
theorem i3_ {c : List Seen} : ∀ {l : List Sib} {pv : Option Sib}, cb_ c pv l = true ↔ (∀ p, pv = some p → ∀ x ∈ l, b4_ p x = true) ∧ cm_ l ∧ ∀ x ∈ l, gH_ x = true ∧ hasS c x.node x.n = true
 |[], pv => by simp [cb_]; exact .nil
 |x :: l, pv => by
  simp only [cb_, Bool.and_eq_true, i3_ (l := l) (pv := some x)]
  constructor
  ·rintro ⟨⟨⟨h1, h2⟩, h3⟩, h4, h5, h6⟩
   refine ⟨fun p hp y hy => ?_, List.pairwise_cons.2 ⟨fun y hy => h4 _ rfl y hy, h5⟩, fun y hy => ?_⟩
   ·subst hp
    have h7 : b4_ p x = true := h3
    rcases List.mem_cons.1 hy with rfl | hy
    ·exact h7
    ·exact cL_ h7 (h4 _ rfl y hy)
   ·rcases List.mem_cons.1 hy with rfl | hy
    ·exact ⟨h1, h2⟩
    ·exact h6 y hy
  ·rintro ⟨h1, h2, h3⟩
   have hp := List.pairwise_cons.1 h2
   refine ⟨⟨h3 x (.head _), ?_⟩, (fun p hp' y hy => by cases hp'; exact hp.1 y hy), hp.2, fun y hy => h3 y (.tail _ hy)⟩
   cases pv with
   |none => rfl
   |some p => exact h1 p rfl x (.head _)
theorem bL_ {o : Obj'} : be_ o = true ↔ ObjG o ∧ room o.ctx ≤ 4096 := by
 simp only [be_, Bool.and_eq_true, bK_, i3_]
 constructor
 ·rintro ⟨⟨h1, h2⟩, _, h3, h4⟩; exact ⟨⟨h1, h3, h4⟩, h2⟩
 ·rintro ⟨⟨h1, h2, h3⟩, h4⟩; exact ⟨⟨h1, h4⟩, (fun p hp => by cases hp), h2, h3⟩
def ba_ (a b : Obj') : Obj' × Int := if be_ a && be_ b then (if (bB_ a.ctx b.ctx).2 = 0 then (⟨(bB_ a.ctx b.ctx).1, c3_ a b⟩, 0) else (⟨[], []⟩, (bB_ a.ctx b.ctx).2)) else (⟨[], []⟩, 1)
theorem pl_ {a b : Obj'} (ha : be_ a = true) (hb : be_ b = true) (h : room a.ctx + room b.ctx ≤ 4096) : ba_ a b = (b1_ a b, 0) ∧ be_ (b1_ a b) = true := by
 have h1 := bL_.1 ha; have h2 := bL_.1 hb
 have hj := tu_ (bK_.2 ⟨h1.1.ctx, h1.2⟩) (bK_.2 ⟨h2.1.ctx, h2.2⟩) h
 refine ⟨by simp [ba_, ha, hb, hj, b1_], bL_.2 ⟨bC_ h1.1 h2.1, Nat.le_trans (hN_ _ _) h⟩⟩
instance : DecidableEq Seen := fun a b => decidable_of_iff (a.node = b.node ∧ a.base = b.base ∧ a.more = b.more) (by cases a; cases b; simp)
instance : DecidableEq Sib := fun a b => decidable_of_iff (a.node = b.node ∧ a.n = b.n ∧ a.value = b.value ∧ a.gone = b.gone ∧ a.time = b.time) (by cases a; cases b; simp)
instance : DecidableEq Obj' := fun a b => decidable_of_iff (a.ctx = b.ctx ∧ a.sibs = b.sibs) (by cases a; cases b; simp)
theorem sy_ {p : Prop} [Decidable p] {r : Bool} (h : r = true ↔ p) : r = decide p := by rw [Bool.eq_iff_iff, h, decide_eq_true_eq]
theorem rP_ {a b : List Seen} {ta tb : Bool} {σ : Store} (hA : ∀ x ∈ a, SeenSm x) (hB : ∀ x ∈ b, SeenSm x) (hla : a.length ≤ 1000000) (hlb : b.length ≤ 1000000) : ai_ Tryz.prog 29 [.sl 3 (a.map az_) ta, .sl 3 (b.map az_) tb] σ fun v σ' => v = vB (decide (a = b)) ∧ σ = σ' :=
 (m9_ hA hB hla hlb).wkS fun v σ' ⟨⟨r, hv, hr⟩, hs⟩ => ⟨v, σ', .refl _, .refl _, by rw [hv, sy_ hr], hs⟩
theorem gc_ {a b : Obj'} {σ : Store} (hA : ObjSm a) (hB : ObjSm b) : ai_ Tryz.prog 28 [sObj a, sObj b] σ fun v σ' => v = vB (decide (a = b)) ∧ σ = σ' :=
 (rQ_ hA hB).wkS fun v σ' ⟨⟨r, hv, hr⟩, hs⟩ => ⟨v, σ', .refl _, .refl _, by rw [hv, sy_ hr], hs⟩
theorem ii_ {α : Type} {ok : α → Bool} {key : α → ByteArray} : ∀ {l : List α} {pv : Option ByteArray}, upGo ok key pv l = true → (∀ p, pv = some p → ∀ x ∈ l, sLt p (key x) = true) ∧ (l.Pairwise fun a b => sLt (key a) (key b) = true) ∧ ∀ x ∈ l, ok x = true
 |[], _, _ => ⟨fun _ _ x hx => (List.not_mem_nil hx).elim, List.Pairwise.nil, fun x hx => (List.not_mem_nil hx).elim⟩
 |x :: l, pv, h => by
  simp only [upGo, Bool.and_eq_true] at h
  obtain ⟨⟨h1, h2⟩, h3⟩ := h
  obtain ⟨g1, g2, g3⟩ := ii_ h3
  refine ⟨fun p hp y hy => ?_, List.pairwise_cons.2 ⟨fun y hy => g1 _ rfl y hy, g2⟩, fun y hy => ?_⟩
  ·subst hp
   have h4 : sLt p (key x) = true := h2
   rcases List.mem_cons.1 hy with rfl | hy
   ·exact h4
   ·exact bs_ h4 (g1 _ rfl y hy)
  ·rcases List.mem_cons.1 hy with rfl | hy
   ·exact h1
   ·exact g3 y hy
end Go.Proofs.YtcaflcpcbcneiaaGreat
end

section
set_option linter.all false
namespace Go.Ab
section
variable {P : Program} {ops : Array Oper} {s0 : Store} {Kk : Env → Store → Prop} {o : Oper} {i : Nat} {r : DT} {e : Env} {σ : Store}
end
end Go.Ab
end

section
set_option linter.all false
set_option maxRecDepth 100000
namespace Go.Proofs.YtcaflcpcbcneiaaGreat
open Go.Ab
theorem sF_ (l : List Itm) : ∀ y ∈ l.map aD_, ∀ c ∈ y.cells, c.one = true := fY_ aD_ (fun x c hc => by simp [AVal.cells] at hc; rcases hc with rfl | rfl | rfl <;> rfl) l
theorem og_ (l : List Itm) : ∀ y ∈ l.map aD_, y.cells.length = 3 := hQ_ aD_ (fun x => rfl) l
@[reducible] def slI (L : List Itm) : AVal := .sl 3 (L.map aD_) false
end Go.Proofs.YtcaflcpcbcneiaaGreat
end
