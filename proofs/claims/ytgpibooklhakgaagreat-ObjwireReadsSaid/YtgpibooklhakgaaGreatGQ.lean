/-
  Objects as bytes: Bytes and Digest; What was written is read again: plain; How much is read of few bytes: plain; Objects of bytes; What must come, whatever the arguments are: Objwire. Own work (an AI agent).
-/
import Derived.Test.YtgpibooklhakgaaGreatGP

section
set_option linter.all false
set_option maxRecDepth 100000
namespace Go.Proofs.YtgpibooklhakgaaGreat
open Go.Ab

theorem objB_le {x : Obj'} (hx : ObjSm x) : (objB x).length ≤ 900000000000 := by
  have hle := ctxB_le hx.ctx hx.nc
  have hle2 := sibsB_le hx.sibs hx.ns
  simp only [objB, ctxB, listB, List.length_append, beI_length]; omega
def bytesS (o : Obj') : ByteArray × Int := if objOk o then (B (objB o), 0) else (⟨#[]⟩, 1)
theorem wBytes_c {o : Obj'} {σ : Store} (ho : ObjSm o) : ACalls Tryz.prog 18 [sObj o] σ fun v σ' => v = .tup [vStr (bytesS o).1, vInt (bytesS o).2] ∧ σ = σ' := by
  refine ACalls_of Tryz.func18 rfl Tryz.ntmps18 (congrArg Array.toList Tryz.results18) (by simp only [List.length_cons, List.length_nil]; decide) ?_; simp only [envOf_cons, envOf_nil, Nat.reduceAdd]
  refine awp_seq ?_
  refine awp_region (by kernel_rfl) ?_
  refine aL_box rfl rfl rfl v_ rfl g_ fun o1 ho1 => ?_
  repeat (rw [none_set_iff] at ho1; obtain ⟨_, ho1⟩ := ho1)
  iterate 2 (refine aL_S rfl rfl v_ ?_)
  refine aL_nil ?_
  refine awp_seq ?_
  refine awp_seq ?_
  refine awp_region (by kernel_rfl) ?_
  (refine aL_S rfl rfl v_ ?_)
  refine aL_X rfl rfl (AOp_use rfl rfl (.inr ⟨rfl, rfl, rfl⟩) g_ va_ (oCheck_c ho) ?_); rintro _ _ ⟨rfl, rfl⟩
  (refine aL_S rfl rfl v_ ?_)
  refine aL_nil ?_
  refine awp_cond v_ (fun hc1 => ?_) (fun hc1 => ?_)
  · replace hc1 := nm_ hc1
    rw [chk0] at hc1
    have hb : bytesS o = (⟨#[]⟩, 1) := by simp [bytesS, hc1]
    refine awp_seq ?_
    refine awp_region (by kernel_rfl) ?_
    iterate 2 (refine aL_S rfl rfl v_ ?_)
    refine aL_nil ?_
    refine awp_ret ?_
    refine aEnd_ret (σ' := σ) v_ sub_ ?_
    exact ⟨by rw [hb], rfl⟩
  · replace hc1 := nm_ hc1
    rw [chk0] at hc1
    have hb : bytesS o = (B (objB o), 0) := by simp [bytesS, hc1]
    refine awp_skip ?_
    refine awp_seq ?_
    refine awp_region (by kernel_rfl) ?_
    (refine aL_S rfl rfl v_ ?_)
    refine aL_X rfl rfl (AOp_use rfl rfl (.inr ⟨rfl, rfl, rfl⟩) g_ va_ (raw_c ho) ?_); rintro _ _ ⟨rfl, rfl⟩
    iterate 2 (refine aL_S rfl rfl v_ ?_)
    refine aL_nil ?_
    refine awp_ret ?_
    refine aEnd_ret (σ' := σ) v_ sub_ ?_
    exact ⟨by rw [hb], rfl⟩
theorem rwBytes_c {o : Obj'} {σ : Store} (ho : ObjSm o) : ACalls Tryz.prog 19 [sObj o] σ fun v σ' => v = .tup [vStr (bytesS o).1, vInt (bytesS o).2] ∧ σ = σ' := by
  refine ACalls_of Tryz.func19 rfl Tryz.ntmps19 (congrArg Array.toList Tryz.results19) (by simp only [List.length_cons, List.length_nil]; decide) ?_; simp only [envOf_cons, envOf_nil, Nat.reduceAdd]
  refine awp_seq ?_
  refine awp_region (by kernel_rfl) ?_
  refine aL_box rfl rfl rfl v_ rfl g_ fun o1 ho1 => ?_
  repeat (rw [none_set_iff] at ho1; obtain ⟨_, ho1⟩ := ho1)
  iterate 2 (refine aL_S rfl rfl v_ ?_)
  refine aL_nil ?_
  refine awp_seq ?_
  refine awp_seq ?_
  refine awp_region (by kernel_rfl) ?_
  (refine aL_S rfl rfl v_ ?_)
  refine aL_X rfl rfl (AOp_use rfl rfl (.inr ⟨rfl, rfl, rfl⟩) g_ va_ (rMay07_c ho) ?_); rintro _ _ ⟨rfl, rfl⟩
  (refine aL_S rfl rfl v_ ?_)
  refine aL_nil ?_
  refine awp_cond v_ (fun hc1 => ?_) (fun hc1 => ?_)
  · replace hc1 := nm_ hc1
    have hb : bytesS o = (⟨#[]⟩, 1) := by simp [bytesS, hc1]
    refine awp_seq ?_
    refine awp_region (by kernel_rfl) ?_
    iterate 2 (refine aL_S rfl rfl v_ ?_)
    refine aL_nil ?_
    refine awp_ret ?_
    refine aEnd_ret (σ' := σ) v_ sub_ ?_
    exact ⟨by rw [hb], rfl⟩
  · replace hc1 := nm_ hc1
    have hb : bytesS o = (B (objB o), 0) := by simp [bytesS, hc1]
    refine awp_skip ?_
    refine awp_seq ?_
    refine awp_region (by kernel_rfl) ?_
    (refine aL_S rfl rfl v_ ?_)
    refine aL_X rfl rfl (AOp_use rfl rfl (.inr ⟨rfl, rfl, rfl⟩) g_ va_ (rRaw_c ho) ?_); rintro _ _ ⟨rfl, rfl⟩
    iterate 2 (refine aL_S rfl rfl v_ ?_)
    refine aL_nil ?_
    refine awp_ret ?_
    refine aEnd_ret (σ' := σ) v_ sub_ ?_
    exact ⟨by rw [hb], rfl⟩
def digS (o : Obj') : ByteArray := B (shaS (objB o))
theorem wDigest_c {o : Obj'} {σ : Store} (ho : ObjSm o) : ACalls Tryz.prog 23 [sObj o] σ fun v σ' => v = vStr (digS o) ∧ σ = σ' := by
  have hl := objB_le ho
  refine ACalls_of Tryz.func23 rfl Tryz.ntmps23 (congrArg Array.toList Tryz.results23) (by simp only [List.length_cons, List.length_nil]; decide) ?_; simp only [envOf_cons, envOf_nil, Nat.reduceAdd]
  refine awp_seq ?_
  refine awp_region (by kernel_rfl) ?_
  refine aL_box rfl rfl rfl v_ rfl g_ fun o1 ho1 => ?_
  repeat (rw [none_set_iff] at ho1; obtain ⟨_, ho1⟩ := ho1)
  (refine aL_S rfl rfl v_ ?_)
  refine aL_nil ?_
  refine awp_seq ?_
  refine awp_region (by kernel_rfl) ?_
  (refine aL_S rfl rfl v_ ?_)
  refine aL_X rfl rfl (AOp_use rfl rfl (.inr ⟨rfl, rfl, rfl⟩) g_ va_ (raw_c ho) ?_); rintro _ _ ⟨rfl, rfl⟩
  refine aL_X rfl rfl (AOp_use rfl rfl (.inr ⟨rfl, rfl, rfl⟩) g_ va_ (sum_c (s := B (objB o)) (by rw [B_size]; exact hl)) ?_); rintro _ _ ⟨rfl, rfl⟩
  (refine aL_S rfl rfl v_ ?_)
  refine aL_nil ?_
  refine awp_ret ?_
  refine aEnd_ret (σ' := σ) v_ sub_ ?_
  exact ⟨by rw [digS, Lb_B], rfl⟩
theorem rwDigest_c {o : Obj'} {σ : Store} (ho : ObjSm o) : ACalls Tryz.prog 24 [sObj o] σ fun v σ' => v = vStr (digS o) ∧ σ = σ' := by
  have hl := objB_le ho
  refine ACalls_of Tryz.func24 rfl Tryz.ntmps24 (congrArg Array.toList Tryz.results24) (by simp only [List.length_cons, List.length_nil]; decide) ?_; simp only [envOf_cons, envOf_nil, Nat.reduceAdd]
  refine awp_seq ?_
  refine awp_region (by kernel_rfl) ?_
  refine aL_box rfl rfl rfl v_ rfl g_ fun o1 ho1 => ?_
  repeat (rw [none_set_iff] at ho1; obtain ⟨_, ho1⟩ := ho1)
  (refine aL_S rfl rfl v_ ?_)
  refine aL_nil ?_
  refine awp_seq ?_
  refine awp_region (by kernel_rfl) ?_
  (refine aL_S rfl rfl v_ ?_)
  refine aL_X rfl rfl (AOp_use rfl rfl (.inr ⟨rfl, rfl, rfl⟩) g_ va_ (rRaw_c ho) ?_); rintro _ _ ⟨rfl, rfl⟩
  refine aL_X rfl rfl (AOp_use rfl rfl (.inr ⟨rfl, rfl, rfl⟩) g_ va_ (rSum_c (s := B (objB o)) (by rw [B_size]; exact hl)) ?_); rintro _ _ ⟨rfl, rfl⟩
  (refine aL_S rfl rfl v_ ?_)
  refine aL_nil ?_
  refine awp_ret ?_
  refine aEnd_ret (σ' := σ) v_ sub_ ?_
  exact ⟨by rw [digS, Lb_B], rfl⟩
end Go.Proofs.YtgpibooklhakgaaGreat
end

section
set_option linter.all false
set_option maxRecDepth 100000
namespace Go.Proofs.YtgpibooklhakgaaGreat
open Go.Ab

theorem rdTake_app (a r : List UInt8) {n : Nat} (h : n = a.length) : rdTake (a ++ r, true) n = (a, r, true) := by
  subst h
  simp [rdTake]
theorem rdNum_app (n : Int) (r : List UInt8) (h1 : -9223372036854775808 ≤ n) (h2 : n ≤ 9223372036854775807) : rdNum (beI 8 n ++ r, true) 8 = (n, r, true) := by
  rw [rdNum, rdTake_app _ _ (beI_length 8 n).symm, rdI_beI8 n h1 h2]
theorem rdByte_app (n : Int) (r : List UInt8) (h1 : 0 ≤ n) (h2 : n < 256) : rdNum (beI 1 n ++ r, true) 1 = (n, r, true) := by
  rw [rdNum, rdTake_app _ _ (beI_length 1 n).symm, rdI_beI 1 n (by decide) h1 (by simpa using h2)]
theorem rdCnt_app (k m : Nat) (r : List UInt8) (h : k ≤ m) (h2 : k < 4294967296) : rdCnt (beI 4 (k : Int) ++ r, true) m = (k, r, true) := by
  have e : natB (beI 4 (k : Int)) = k := by
    have := natB_beI 4 (k : Int)
    rw [show (256 : Int) ^ 4 = 4294967296 from by decide] at this
    omega
  rw [rdCnt, rdTake_app _ _ (beI_length 4 _).symm, e, if_neg (by omega)]
theorem rdText_app (s : ByteArray) (r : List UInt8) (h : s.size ≤ 1048576) : rdText (textB s ++ r, true) = (Lb s, r, true) := by
  rw [rdText, textB, List.append_assoc, rdCnt_app _ _ _ h (by omega)]
  exact rdTake_app _ _ (Lb_length s).symm
theorem rdMany_app {α : Type} {f : Rd → α × Rd} {w : α → List UInt8} (r : List UInt8) : ∀ (l : List α), (∀ x ∈ l, ∀ r, f (w x ++ r, true) = (x, r, true)) → rdMany f l.length (l.flatMap w ++ r, true) = (l, r, true)
  | [], _ => rfl
  | x :: l, h => by
    rw [List.length_cons, rdMany, List.flatMap_cons, List.append_assoc, h x (List.mem_cons_self ..)]
    have := rdMany_app r l fun y hy => h y (List.mem_cons_of_mem _ hy)
    simp [this]
theorem rdSev_app {α : Type} {f : Rd → α × Rd} {w : α → List UInt8} (r : List UInt8) (l : List α) (hl : l.length ≤ 65536) (h : ∀ x ∈ l, ∀ r, f (w x ++ r, true) = (x, r, true)) : rdSev f (listB w l ++ r, true) = (l, r, true) := by
  have := rdCnt_app l.length 65536 (l.flatMap w ++ r) hl (by omega)
  unfold rdSev listB
  rw [List.append_assoc, this]
  simp [rdMany_app r l h]
def I64 (n : Int) : Prop := -9223372036854775808 ≤ n ∧ n ≤ 9223372036854775807
structure SeenRt (x : Seen) : Prop where
  node : x.node.size ≤ 1048576
  base : I64 x.base
  len : x.more.length ≤ 65536
  more : ∀ n ∈ x.more, I64 n
structure SibRt (x : Sib) : Prop where
  node : x.node.size ≤ 1048576
  n : I64 x.n
  value : x.value.size ≤ 1048576
  time : I64 x.time
theorem rdSeen_app {x : Seen} (h : SeenRt x) (r : List UInt8) : rdSeen (seenB x ++ r, true) = (x, r, true) := by
  have e : seenB x ++ r = textB x.node ++ (beI 8 x.base ++ (listB (beI 8) x.more ++ r)) := by simp [seenB]
  have h3 := rdSev_app (f := rdI8) (w := beI 8) r x.more h.len fun n hn r => rdNum_app n r (h.more n hn).1 (h.more n hn).2
  unfold rdSeen
  rw [e, rdText_app _ _ h.node]
  dsimp only
  rw [rdNum_app _ _ h.base.1 h.base.2]
  dsimp only
  rw [h3, B_Lb]
theorem rdSib_app {x : Sib} (h : SibRt x) (r : List UInt8) : rdSib (sibB x ++ r, true) = (x, r, true) := by
  have e : sibB x ++ r = textB x.node ++ (beI 8 x.n ++ (textB x.value ++ (beI 1 (goneI x.gone) ++ (beI 8 x.time ++ r)))) := by simp [sibB]
  have hg : 0 ≤ goneI x.gone ∧ goneI x.gone < 256 := by unfold goneI; split <;> decide
  unfold rdSib
  rw [e, rdText_app _ _ h.node]
  dsimp only
  rw [rdNum_app _ _ h.n.1 h.n.2]
  dsimp only
  rw [rdText_app _ _ h.value]
  dsimp only
  rw [rdByte_app _ _ hg.1 hg.2]
  dsimp only
  rw [rdNum_app _ _ h.time.1 h.time.2, B_Lb, B_Lb]
  have : (!decide (goneI x.gone = 0)) = x.gone := by cases x.gone <;> rfl
  rw [this]
structure ObjRt (o : Obj') : Prop where
  ctx : ∀ x ∈ o.ctx, SeenRt x
  sibs : ∀ x ∈ o.sibs, SibRt x
  nc : o.ctx.length ≤ 65536
  ns : o.sibs.length ≤ 65536
theorem rdCtx_app {c : List Seen} (h : ∀ x ∈ c, SeenRt x) (hn : c.length ≤ 65536) (r : List UInt8) : rdCtx (ctxB c ++ r, true) = (c, r, true) := rdSev_app r c hn fun x hx r => rdSeen_app (h x hx) r
theorem rdObj_app {o : Obj'} (h : ObjRt o) (r : List UInt8) : rdObj (objB o ++ r, true) = (o, r, true) := by
  have e : objB o ++ r = ctxB o.ctx ++ (listB sibB o.sibs ++ r) := by simp [objB]
  unfold rdObj
  rw [e, rdCtx_app h.ctx h.nc]
  dsimp only
  rw [rdSev_app (f := rdSib) (w := sibB) r o.sibs h.ns fun x hx r => rdSib_app (h.sibs x hx) r]
  rfl
/-- an object that may be is read as it was -/
theorem objOk_rt {o : Obj'} (h : objOk o = true) (hn : o.ctx.length ≤ 65536) (hs : o.sibs.length ≤ 65536) : ObjRt o := by
  simp only [objOk, Bool.and_eq_true] at h
  have hc := ctxGo_all o.ctx _ _ h.1
  refine ⟨fun x hx => ?_, fun x hx => ?_, hn, hs⟩
  · obtain ⟨h1, h2⟩ := hc x hx
    simp only [seenOk, seenHd, Bool.and_eq_true, decide_eq_true_eq] at h1
    obtain ⟨⟨⟨⟨h4, h5⟩, h6⟩, _⟩, h7⟩ := h1
    have h8 := nameOk_size h4
    refine ⟨by omega, ⟨by omega, by omega⟩, by omega, fun n hn => ?_⟩
    have := riseOk_all _ _ h7 n hn
    exact ⟨by omega, by omega⟩
  · have key : ∀ (l : List Sib) (pv : Option Sib), sibsGo o.ctx pv l = true → ∀ x ∈ l, sibOk x = true := by
      intro l
      induction l with
      | nil => intro _ _ x hx; cases hx
      | cons y l ih =>
        intro pv hh x hx
        simp only [sibsGo, Bool.and_eq_true] at hh
        rcases List.mem_cons.1 hx with rfl | hx
        · exact hh.1.1.1
        · exact ih _ hh.2 x hx
    have h1 := key _ _ h.2 x hx
    simp only [sibOk, Bool.and_eq_true, decide_eq_true_eq] at h1
    obtain ⟨⟨⟨⟨h2, h3⟩, _⟩, h4⟩, h5⟩ := h1
    obtain ⟨⟨h6, h7⟩, h8⟩ := dotOk_iff.1 h2
    have h9 := nameOk_size h6
    exact ⟨by omega, ⟨by omega, by omega⟩, by omega, ⟨by omega, by omega⟩⟩
end Go.Proofs.YtgpibooklhakgaaGreat
end

section
set_option linter.all false
set_option maxRecDepth 100000
namespace Go.Proofs.YtgpibooklhakgaaGreat
open Go.Ab

/-- what a step takes: c bytes at least, where it does not fail -/
def Eats {α : Type} (c : Nat) (f : Rd → α × Rd) : Prop := ∀ x, (f x).2.1.length ≤ x.1.length ∧ ((f x).2.2 = true → x.2 = true ∧ (f x).2.1.length + c ≤ x.1.length)
theorem rdTake_eats (n : Nat) : Eats n fun x => rdTake x n := fun x => by
  simp only [rdTake]
  split
  · rename_i h
    exact ⟨by simp, fun _ => ⟨h.1, by simp; omega⟩⟩
  · simp
theorem rdTake_le2 (x : Rd) (n : Nat) : (rdTake x n).1.length ≤ x.1.length := by
  simp only [rdTake]
  split
  · simp; omega
  · simp
theorem rdNum_eats (n : Nat) : Eats n fun x => rdNum x n := fun x => rdTake_eats n x
theorem rdCnt_eats (m : Nat) : Eats 4 fun x => rdCnt x m := fun x => by
  have h := rdTake_eats 4 x
  simp only [rdCnt]
  split
  · exact ⟨h.1, fun hh => by cases hh⟩
  · exact h
theorem rdText_eats : Eats 4 rdText := fun x => by
  have h1 := rdCnt_eats 1048576 x
  have h2 := rdTake_eats (rdCnt x 1048576).1 (rdCnt x 1048576).2
  simp only at h1 h2
  unfold rdText
  refine ⟨by omega, fun hh => ?_⟩
  obtain ⟨h3, h4⟩ := h2.2 hh
  obtain ⟨h5, h6⟩ := h1.2 h3
  exact ⟨h5, by omega⟩
theorem rdText_len (x : Rd) : (rdText x).1.length ≤ x.1.length := by
  have h1 := rdCnt_eats 1048576 x
  have h2 := rdTake_le2 (rdCnt x 1048576).2 (rdCnt x 1048576).1
  simp only at h1
  unfold rdText
  omega
theorem rdMany_eats {α : Type} {f : Rd → α × Rd} {c : Nat} (hf : Eats c f) : ∀ n x, (rdMany f n x).2.1.length ≤ x.1.length ∧ ((rdMany f n x).2.2 = true → x.2 = true ∧ (rdMany f n x).2.1.length + c * (rdMany f n x).1.length ≤ x.1.length)
  | 0, x => ⟨Nat.le_refl _, fun h => ⟨h, by simp [rdMany]⟩⟩
  | n + 1, x => by
    have h1 := hf x
    have h2 := rdMany_eats hf n (f x).2
    rw [rdMany]
    cases hx : x.2 with
    | false => simp [hx]
    | true =>
      simp only [if_true, List.length_cons, Nat.mul_succ]
      refine ⟨by omega, fun hh => ⟨trivial, ?_⟩⟩
      obtain ⟨h3, h4⟩ := h2.2 hh
      obtain ⟨_, h6⟩ := h1.2 h3
      omega
theorem rdMany_all {α : Type} {f : Rd → α × Rd} {c N : Nat} {p : α → Prop} (hf : Eats c f) (hp : ∀ x, x.1.length ≤ N → p (f x).1) : ∀ n x, x.1.length ≤ N → ∀ a ∈ (rdMany f n x).1, p a
  | 0, x, _ => fun a ha => by cases ha
  | n + 1, x, hx => fun a ha => by
    rw [rdMany] at ha
    split at ha
    · rcases List.mem_cons.1 ha with rfl | ha
      · exact hp x hx
      · exact rdMany_all hf hp n (f x).2 (Nat.le_trans (hf x).1 hx) a ha
    · cases ha
theorem rdSev_eats {α : Type} {f : Rd → α × Rd} {c : Nat} (hf : Eats c f) : Eats 4 (rdSev f) := fun x => by
  have h1 := rdCnt_eats 65536 x
  have h2 := rdMany_eats hf (rdCnt x 65536).1 (rdCnt x 65536).2
  simp only at h1
  unfold rdSev
  dsimp only
  split
  · refine ⟨by omega, fun hh => ?_⟩
    obtain ⟨h3, h4⟩ := h2.2 hh
    obtain ⟨h5, h6⟩ := h1.2 h3
    exact ⟨h5, by omega⟩
  · rename_i hn
    exact ⟨by show (rdMany f _ _).2.1.length ≤ _; omega, fun hh => absurd hh hn⟩
theorem rdSev_len {α : Type} {f : Rd → α × Rd} {c : Nat} (hf : Eats c f) (x : Rd) : c * (rdSev f x).1.length ≤ x.1.length := by
  have h1 := rdCnt_eats 65536 x
  have h2 := rdMany_eats hf (rdCnt x 65536).1 (rdCnt x 65536).2
  simp only at h1
  unfold rdSev
  dsimp only
  split
  · rename_i hh
    obtain ⟨h3, h4⟩ := h2.2 hh
    omega
  · simp
theorem rdSev_all {α : Type} {f : Rd → α × Rd} {c N : Nat} {p : α → Prop} (hf : Eats c f) (hp : ∀ x, x.1.length ≤ N → p (f x).1) (x : Rd) (hx : x.1.length ≤ N) : ∀ a ∈ (rdSev f x).1, p a := fun a ha => by
  have h1 := rdCnt_eats 65536 x
  simp only at h1
  unfold rdSev at ha
  dsimp only at ha
  split at ha
  · exact rdMany_all hf hp _ _ (by omega) a ha
  · cases ha
theorem rdSeen_eats : Eats 4 rdSeen := fun x => by
  have h1 := rdText_eats x
  have h2 := rdNum_eats 8 (rdText x).2
  have h3 := rdSev_eats (f := rdI8) (rdNum_eats 8) (rdNum (rdText x).2 8).2
  simp only at h2
  unfold rdSeen
  dsimp only
  refine ⟨by omega, fun hh => ?_⟩
  obtain ⟨g1, g2⟩ := h3.2 hh
  obtain ⟨g3, g4⟩ := h2.2 g1
  obtain ⟨g5, g6⟩ := h1.2 g3
  exact ⟨g5, by omega⟩
theorem rdSib_eats : Eats 4 rdSib := fun x => by
  have h1 := rdText_eats x
  have h2 := rdNum_eats 8 (rdText x).2
  have h3 := rdText_eats (rdNum (rdText x).2 8).2
  have h4 := rdNum_eats 1 (rdText (rdNum (rdText x).2 8).2).2
  have h5 := rdNum_eats 8 (rdNum (rdText (rdNum (rdText x).2 8).2).2 1).2
  simp only at h2 h4 h5
  unfold rdSib
  dsimp only
  refine ⟨by omega, fun hh => ?_⟩
  obtain ⟨g1, g2⟩ := h5.2 hh
  obtain ⟨g3, g4⟩ := h4.2 g1
  obtain ⟨g5, g6⟩ := h3.2 g3
  obtain ⟨g7, g8⟩ := h2.2 g5
  obtain ⟨g9, g10⟩ := h1.2 g7
  exact ⟨g9, by omega⟩
theorem rdSeen_sm {x : Rd} (hx : x.1.length ≤ 100000) : SeenSm (rdSeen x).1 := by
  have h1 := rdText_len x
  have h2 := (rdText_eats x).1
  have h3 := (rdNum_eats 8 (rdText x).2).1
  have h4 := rdSev_len (f := rdI8) (rdNum_eats 8) (rdNum (rdText x).2 8).2
  simp only at h3
  refine ⟨?_, ?_⟩
  · show (B (rdText x).1).size ≤ _
    rw [B_size]; omega
  · show (rdSev rdI8 (rdNum (rdText x).2 8).2).1.length ≤ _
    omega
theorem rdSib_sm {x : Rd} (hx : x.1.length ≤ 100000) : SibSm (rdSib x).1 := by
  have h1 := rdText_len x
  have h2 := (rdText_eats x).1
  have h3 := (rdNum_eats 8 (rdText x).2).1
  have h4 := rdText_len (rdNum (rdText x).2 8).2
  simp only at h3
  refine ⟨?_, ?_⟩
  · show (B (rdText x).1).size ≤ _
    rw [B_size]; omega
  · show (B (rdText (rdNum (rdText x).2 8).2).1).size ≤ _
    rw [B_size]; omega
theorem rdCtx_sm {x : Rd} (hx : x.1.length ≤ 4000) : (∀ y ∈ (rdCtx x).1, SeenSm y) ∧ (rdCtx x).1.length ≤ 1000 := by
  have h := rdSev_len rdSeen_eats x
  exact ⟨rdSev_all (N := 4000) rdSeen_eats (fun y hy => rdSeen_sm (by omega)) x hx, by unfold rdCtx; omega⟩
theorem rdObj_sm {x : Rd} (hx : x.1.length ≤ 4000) : ObjSm (rdObj x).1 := by
  have h1 := rdCtx_sm hx
  have h2 := (rdSev_eats rdSeen_eats x).1
  have h3 : (rdCtx x).2.1.length ≤ 4000 := by unfold rdCtx; omega
  have h4 := rdSev_len rdSib_eats (rdCtx x).2
  have h5 := rdSev_all (N := 4000) rdSib_eats (fun y hy => rdSib_sm (by omega)) (rdCtx x).2 h3
  unfold rdObj
  dsimp only
  split
  · exact ⟨h1.1, h5, h1.2, by simp only; omega⟩
  · exact ⟨(fun y hy => by cases hy), (fun y hy => by cases hy), by simp, by simp⟩
end Go.Proofs.YtgpibooklhakgaaGreat
end

section
set_option linter.all false
set_option maxRecDepth 100000
namespace Go.Proofs.YtgpibooklhakgaaGreat
open Go.Ab

def obj0 : Obj' := ⟨[], []⟩
def ofOk (s : List UInt8) : Bool := (rdObj (s, true)).2.2 && decide ((rdObj (s, true)).2.1 = []) && objOk (rdObj (s, true)).1 && decide (objB (rdObj (s, true)).1 = s)
def ofW (s : List UInt8) : Obj' × Int := if ofOk s then ((rdObj (s, true)).1, 0) else (obj0, 3)
theorem wOf_g {s : List UInt8} {σ : Store} (hsm : ObjSm (rdObj (s, true)).1) : ACalls Tryz.prog 25 [vStr (B s)] σ fun v σ' => v = .tup [sObj (ofW s).1, vInt (ofW s).2] ∧ σ = σ' := by
  have hdef : ofOk s = ((rdObj (s, true)).2.2 && decide ((rdObj (s, true)).2.1 = []) && objOk (rdObj (s, true)).1 && decide (objB (rdObj (s, true)).1 = s)) := rfl
  obtain ⟨o, ho⟩ : ∃ o, (rdObj (s, true)).1 = o := ⟨_, rfl⟩
  obtain ⟨y, hy⟩ : ∃ y, (rdObj (s, true)).2 = y := ⟨_, rfl⟩
  rw [ho] at hsm
  rw [ho, hy] at hdef
  have hof : ofW s = if ofOk s then (o, 0) else (obj0, 3) := by rw [ofW, ho]
  refine ACalls_of Tryz.func25 rfl Tryz.ntmps25 (congrArg Array.toList Tryz.results25) (by simp only [List.length_cons, List.length_nil]; decide) ?_; simp only [envOf_cons, envOf_nil, Nat.reduceAdd]
  refine awp_seq ?_
  refine awp_region (by kernel_rfl) ?_
  refine aL_alloc rfl rfl rfl g_ gl_ fun o2 ho2 => ?_
  repeat (rw [none_set_iff] at ho2; obtain ⟨_, ho2⟩ := ho2)
  (refine aL_S rfl rfl v_ ?_)
  refine aL_nil ?_
  refine awp_seq ?_
  refine awp_region (by kernel_rfl) ?_
  (refine aL_S rfl rfl v_ ?_)
  refine aL_X rfl rfl (AOp_use rfl rfl (.inr ⟨rfl, rfl, rfl⟩) g_ va_ (new_c) ?_); rintro _ _ ⟨r, hr, rfl, rfl⟩
  (refine aL_S rfl rfl v_ ?_)
  refine aL_nil ?_
  refine awp_seq ?_
  refine awp_region (by kernel_rfl) ?_
  (refine aL_S rfl rfl v_ ?_)
  refine aL_X rfl rfl (AOp_use rfl rfl (.inr ⟨rfl, rfl, rfl⟩) g_ va_ (readObj_c (x := (s, true)) (Store.set_get ..)) ?_); rintro _ τ ⟨rfl, g1, g2⟩
  rw [ho]
  rw [hy] at g1
  have n2 : o2 ≠ r := Ne.symm (fun hh => by rw [hh, Store.set_get] at hr; cases hr)
  have t2 := keep g2 (i := o2) (x := .cells (.lit (.slice none 0 0) :: [.lit (.slice none 0 0)])) (by rw [Store.set_ne _ _ n2]; exact Store.set_get ..) (by simpa using n2)
  refine aL_alloc rfl rfl rfl g_ gl_ fun o5 ho5 => ?_
  repeat (rw [none_set_iff] at ho5; obtain ⟨_, ho5⟩ := ho5)
  refine aL_store rfl rfl rfl v_ v_ h_ g_ rfl g_ c_ (by rfl) le_ v_ ?_
  refine aL_nil ?_
  skip
  have n25 := ne_of_heap t2 ho5
  have hrσ : σ.heap r = none := by rwa [Store.set_ne _ _ (Ne.symm n2)] at hr
  have st : SubX [] σ τ := ⟨fun i x _ hx => by
    have h1 : i ≠ r := fun hh => by rw [hh, hrσ] at hx; cases hx
    have h2 : i ≠ o2 := fun hh => by rw [hh, ho2] at hx; cases hx
    exact g2.1 i x (by simpa using h1) (by rw [Store.set_ne _ _ h1, Store.set_ne _ _ h2]; exact hx), fun t n ht => g2.2 t n ht⟩
  have n5σ : σ.heap o5 = none := SubX.noObj st ho5 (by simp)
  have g1' : ((τ.set o5 (.cells [.lit (.slice none 0 0), .lit (.slice none 0 0)])).set o5 (.cells (sObj o).cells)).heap r = some (rdO y) := by
    have n5 := ne_of_heap g1 ho5
    rw [Store.set_set, Store.set_ne _ _ n5]; exact g1
  refine awp_seq ?_
  refine awp_seq ?_
  refine awp_region (by kernel_rfl) ?_
  (refine aL_S rfl rfl v_ ?_)
  refine aL_X rfl rfl (AOp_use rfl rfl (.inr ⟨rfl, rfl, rfl⟩) g_ va_ (rdDone_c g1') ?_); rintro _ _ ⟨rfl, rfl⟩
  iterate 2 (refine aL_S rfl rfl v_ ?_)
  refine aL_GF rfl rfl v_ rfl vg_ ?_
  refine aL_GFX rfl rfl v_ rfl (fun hb => AOp_useV (by rfl) (by rfl) (.inr ⟨by rfl, by rfl, by rfl⟩) g_ cg_ (oCheck_c hsm)) ?_
  refine aL_GF rfl rfl v_ rfl vg_ ?_
  iterate 2 (refine aL_S rfl rfl v_ ?_)
  refine aL_GF rfl rfl v_ rfl vg_ ?_
  refine aL_GFX rfl rfl v_ rfl (fun hb => AOp_useV (by rfl) (by rfl) (.inr ⟨by rfl, by rfl, by rfl⟩) g_ cg_ (raw_c hsm)) ?_
  refine aL_GF rfl rfl v_ rfl vg_ ?_
  refine aL_GF rfl rfl v_ rfl vg_ ?_
  (refine aL_S rfl rfl v_ ?_)
  refine aL_nil ?_
  refine awp_cond v_ (fun hc3 => ?_) (fun hc3 => ?_)
  · replace hc3 := nm_ hc3
    skip
    have hfl : ofOk s = false := by
      rw [chk0] at hc3
      rw [hdef]
      rcases hc3 with ((h | h) | h) | h
      · simp [h]
      · simp [h]
      · simp [Bool.eq_false_iff.2 h]
      · rw [B_eq_iff] at h; simp [h]
    refine awp_seq ?_
    have R := t2
    refine awp_region (by kernel_rfl) ?_
    (refine aL_S rfl rfl v_ ?_)
    refine aL_store rfl rfl rfl v_ v_ h_ g_ rfl g_ c_ (by rfl) le_ v_ ?_
    (refine aL_S rfl rfl v_ ?_)
    refine aL_nil ?_
    refine awp_ret ?_
    rw [hof, hfl]
    exact aEnd_retW (v := .tup [sObj obj0, vInt 3]) (v' := .tup [.agg [vNil, vNil], vInt 3]) va_ (.tup _ _ rfl (fun i hi hi' => by match i, hi with | 0, _ => exact .agg _ _ rfl (fun j hj hj' => by match j, hj with | 0, _ => exact .nil _ _ | 1, _ => exact .nil _ _) | 1, _ => exact .refl _)) (subx_start (subx_new ho2 (subx_new n5σ (subx_new n5σ st)))) ⟨rfl, rfl⟩
  · replace hc3 := nm_ hc3
    skip
    have htr : ofOk s = true := by
      rw [chk0, B_eq_iff] at hc3
      rw [hdef]; simp [hc3.1.1.1, hc3.1.1.2, hc3.1.2, hc3.2]
    refine awp_skip ?_
    refine awp_seq ?_
    have R := t2
    refine awp_region (by kernel_rfl) ?_
    (refine aL_S rfl rfl v_ ?_)
    refine aL_store rfl rfl rfl v_ v_ h_ g_ rfl g_ c_ (by rfl) le_ v_ ?_
    (refine aL_S rfl rfl v_ ?_)
    refine aL_nil ?_
    refine awp_ret ?_
    rw [hof, htr]
    exact aEnd_ret (σ' := σ) va_ (subx_start (subx_new ho2 (subx_new n5σ (subx_new n5σ st)))) ⟨rfl, rfl⟩
theorem wOf_c {s : List UInt8} {σ : Store} (hs : s.length ≤ 4000) : ACalls Tryz.prog 25 [vStr (B s)] σ fun v σ' => v = .tup [sObj (ofW s).1, vInt (ofW s).2] ∧ σ = σ' := wOf_g (rdObj_sm (x := (s, true)) hs)
theorem rwOf_g {s : List UInt8} {σ : Store} (hsm : ObjSm (rdObj (s, true)).1) : ACalls Tryz.prog 26 [vStr (B s)] σ fun v σ' => v = .tup [sObj (ofW s).1, vInt (ofW s).2] ∧ σ = σ' := by
  have hdef : ofOk s = ((rdObj (s, true)).2.2 && decide ((rdObj (s, true)).2.1 = []) && objOk (rdObj (s, true)).1 && decide (objB (rdObj (s, true)).1 = s)) := rfl
  obtain ⟨o, ho⟩ : ∃ o, (rdObj (s, true)).1 = o := ⟨_, rfl⟩
  obtain ⟨y, hy⟩ : ∃ y, (rdObj (s, true)).2 = y := ⟨_, rfl⟩
  rw [ho] at hsm
  rw [ho, hy] at hdef
  have hof : ofW s = if ofOk s then (o, 0) else (obj0, 3) := by rw [ofW, ho]
  refine ACalls_of Tryz.func26 rfl Tryz.ntmps26 (congrArg Array.toList Tryz.results26) (by simp only [List.length_cons, List.length_nil]; decide) ?_; simp only [envOf_cons, envOf_nil, Nat.reduceAdd]
  refine awp_seq ?_
  refine awp_region (by kernel_rfl) ?_
  refine aL_alloc rfl rfl rfl g_ gl_ fun o2 ho2 => ?_
  repeat (rw [none_set_iff] at ho2; obtain ⟨_, ho2⟩ := ho2)
  (refine aL_S rfl rfl v_ ?_)
  refine aL_nil ?_
  refine awp_seq ?_
  refine awp_region (by kernel_rfl) ?_
  iterate 2 (refine aL_S rfl rfl v_ ?_)
  refine aL_box rfl rfl rfl v_ rfl g_ fun o8 ho8 => ?_
  repeat (rw [none_set_iff] at ho8; obtain ⟨_, ho8⟩ := ho8)
  (refine aL_S rfl rfl v_ ?_)
  refine aL_nil ?_
  have hr : (σ.set o2 (.cells [.lit (.slice none 0 0), .lit (.slice none 0 0)])).heap o8 = none := by rw [Store.set_ne _ _ ‹_›]; assumption
  have hw : ((σ.set o2 (.cells [.lit (.slice none 0 0), .lit (.slice none 0 0)])).set o8 (.cells [vStr (B s), .lit (.bool false)])).heap o8 = some (rfO (s, true)) := Store.set_get ..
  refine awp_seq ?_
  refine awp_region (by kernel_rfl) ?_
  (refine aL_S rfl rfl v_ ?_)
  refine aL_X rfl rfl (AOp_use rfl rfl (.inr ⟨rfl, rfl, rfl⟩) g_ va_ (rfObj_c (x := (s, true)) hw) ?_); rintro _ τ ⟨rfl, g1, g2⟩
  rw [ho]
  rw [hy] at g1
  have n2 : o2 ≠ o8 := Ne.symm (fun hh => by rw [hh, Store.set_get] at hr; cases hr)
  have t2 := keep g2 (i := o2) (x := .cells (.lit (.slice none 0 0) :: [.lit (.slice none 0 0)])) (by rw [Store.set_ne _ _ n2]; exact Store.set_get ..) (by simpa using n2)
  refine aL_alloc rfl rfl rfl g_ gl_ fun o5 ho5 => ?_
  repeat (rw [none_set_iff] at ho5; obtain ⟨_, ho5⟩ := ho5)
  refine aL_store rfl rfl rfl v_ v_ h_ g_ rfl g_ c_ (by rfl) le_ v_ ?_
  refine aL_nil ?_
  skip
  have n25 := ne_of_heap t2 ho5
  have hrs : σ.heap o8 = none := by rwa [Store.set_ne _ _ (Ne.symm n2)] at hr
  have st : SubX [] σ τ := ⟨fun i x _ hx => by
    have h1 : i ≠ o8 := fun hh => by rw [hh, hrs] at hx; cases hx
    have h2 : i ≠ o2 := fun hh => by rw [hh, ho2] at hx; cases hx
    exact g2.1 i x (by simpa using h1) (by rw [Store.set_ne _ _ h1, Store.set_ne _ _ h2]; exact hx), fun t n ht => g2.2 t n ht⟩
  have n5σ : σ.heap o5 = none := SubX.noObj st ho5 (by simp)
  have g1' : ((τ.set o5 (.cells [.lit (.slice none 0 0), .lit (.slice none 0 0)])).set o5 (.cells (sObj o).cells)).heap o8 = some (rfO y) := by
    have n5 := ne_of_heap g1 ho5
    rw [Store.set_set, Store.set_ne _ _ n5]; exact g1
  refine awp_seq ?_
  refine awp_seq ?_
  refine awp_region (by kernel_rfl) ?_
  (refine aL_S rfl rfl v_ ?_)
  refine aL_X rfl rfl (AOp_use rfl rfl (.inr ⟨rfl, rfl, rfl⟩) g_ va_ (rfDone_c g1') ?_); rintro _ _ ⟨rfl, rfl⟩
  iterate 2 (refine aL_S rfl rfl v_ ?_)
  refine aL_GF rfl rfl v_ rfl vg_ ?_
  refine aL_GFX rfl rfl v_ rfl (fun hb => AOp_useV (by rfl) (by rfl) (.inr ⟨by rfl, by rfl, by rfl⟩) g_ cg_ (rMay07_c hsm)) ?_
  refine aL_GF rfl rfl v_ rfl vg_ ?_
  iterate 2 (refine aL_S rfl rfl v_ ?_)
  refine aL_GF rfl rfl v_ rfl vg_ ?_
  refine aL_GFX rfl rfl v_ rfl (fun hb => AOp_useV (by rfl) (by rfl) (.inr ⟨by rfl, by rfl, by rfl⟩) g_ cg_ (rRaw_c hsm)) ?_
  refine aL_GF rfl rfl v_ rfl vg_ ?_
  refine aL_GF rfl rfl v_ rfl vg_ ?_
  (refine aL_S rfl rfl v_ ?_)
  refine aL_nil ?_
  refine awp_cond v_ (fun hc3 => ?_) (fun hc3 => ?_)
  · replace hc3 := nm_ hc3
    skip
    have hfl : ofOk s = false := by
      skip
      rw [hdef]
      rcases hc3 with ((h | h) | h) | h
      · simp [h]
      · simp [h]
      · simp [h]
      · rw [B_eq_iff] at h; simp [h]
    refine awp_seq ?_
    have R := t2
    refine awp_region (by kernel_rfl) ?_
    (refine aL_S rfl rfl v_ ?_)
    refine aL_store rfl rfl rfl v_ v_ h_ g_ rfl g_ c_ (by rfl) le_ v_ ?_
    (refine aL_S rfl rfl v_ ?_)
    refine aL_nil ?_
    refine awp_ret ?_
    rw [hof, hfl]
    exact aEnd_retW (v := .tup [sObj obj0, vInt 3]) (v' := .tup [.agg [vNil, vNil], vInt 3]) va_ (.tup _ _ rfl (fun i hi hi' => by match i, hi with | 0, _ => exact .agg _ _ rfl (fun j hj hj' => by match j, hj with | 0, _ => exact .nil _ _ | 1, _ => exact .nil _ _) | 1, _ => exact .refl _)) (subx_start (subx_new ho2 (subx_new n5σ (subx_new n5σ st)))) ⟨rfl, rfl⟩
  · replace hc3 := nm_ hc3
    skip
    have htr : ofOk s = true := by
      rw [B_eq_iff] at hc3
      rw [hdef]; simp [hc3.1.1.1, hc3.1.1.2, hc3.1.2, hc3.2]
    refine awp_skip ?_
    refine awp_seq ?_
    have R := t2
    refine awp_region (by kernel_rfl) ?_
    (refine aL_S rfl rfl v_ ?_)
    refine aL_store rfl rfl rfl v_ v_ h_ g_ rfl g_ c_ (by rfl) le_ v_ ?_
    (refine aL_S rfl rfl v_ ?_)
    refine aL_nil ?_
    refine awp_ret ?_
    rw [hof, htr]
    exact aEnd_ret (σ' := σ) va_ (subx_start (subx_new ho2 (subx_new n5σ (subx_new n5σ st)))) ⟨rfl, rfl⟩
theorem rwOf_c {s : List UInt8} {σ : Store} (hs : s.length ≤ 4000) : ACalls Tryz.prog 26 [vStr (B s)] σ fun v σ' => v = .tup [sObj (ofW s).1, vInt (ofW s).2] ∧ σ = σ' := rwOf_g (rdObj_sm (x := (s, true)) hs)
theorem ofW_of {o : Obj'} (h : objOk o = true) (hn : o.ctx.length ≤ 65536) (hs : o.sibs.length ≤ 65536) : rdObj (objB o, true) = (o, [], true) ∧ ofW (objB o) = (o, 0) := by
  have h1 := rdObj_app (objOk_rt h hn hs) []
  rw [List.append_nil] at h1
  exact ⟨h1, by simp [ofW, ofOk, h1, h]⟩
theorem ofW_inv {s : List UInt8} (h : (ofW s).2 = 0) : objOk (ofW s).1 = true ∧ objB (ofW s).1 = s := by
  unfold ofW at h ⊢
  split at h
  · rename_i hk
    rw [if_pos hk]
    simp only [ofOk, Bool.and_eq_true, decide_eq_true_eq] at hk
    exact ⟨hk.1.2, hk.2⟩
  · cases h
theorem ofW_err (s : List UInt8) (h : (ofW s).2 ≠ 0) : (ofW s).2 = 3 := by
  unfold ofW at h ⊢
  split
  · rename_i hk; rw [if_pos hk] at h; exact absurd rfl h
  · rfl
theorem objB_inj {a b : Obj'} (ha : objOk a = true) (hb : objOk b = true) (h1 : a.ctx.length ≤ 65536) (h2 : a.sibs.length ≤ 65536) (h3 : b.ctx.length ≤ 65536) (h4 : b.sibs.length ≤ 65536) (h : objB a = objB b) : a = b := by
  have e1 := (ofW_of ha h1 h2).1
  rw [h, (ofW_of hb h3 h4).1] at e1
  exact (Prod.mk.inj e1).1.symm
end Go.Proofs.YtgpibooklhakgaaGreat
end

section
set_option linter.all false
set_option maxRecDepth 100000
namespace Go.Proofs.YtgpibooklhakgaaGreat
open Go.Ab

def oA : Obj' := ⟨[⟨B [97], 1, []⟩], [⟨B [97], 1, B [120], false, 2⟩]⟩
def oA2 : Obj' := ⟨[], [⟨B [97], 1, B [120], false, 2⟩]⟩
theorem oA_ok : objOk oA = true := by decide +kernel
theorem oA2_no : objOk oA2 = false := by decide +kernel
theorem oA_len : 20 < (objB oA).length ∧ (objB oA).length < 100 := by decide +kernel
theorem oA_sm : ObjSm oA := ⟨fun y hy => by obtain rfl := List.mem_singleton.1 hy; exact ⟨by decide, by decide⟩, fun y hy => by obtain rfl := List.mem_singleton.1 hy; exact ⟨by decide, by decide⟩, by decide, by decide⟩
theorem oA2_sm : ObjSm oA2 := ⟨(fun y hy => by cases hy), fun y hy => by obtain rfl := List.mem_singleton.1 hy; exact ⟨by decide, by decide⟩, by decide, by decide⟩
theorem oA_read (r : List UInt8) : rdObj (objB oA ++ r, true) = (oA, r, true) := rdObj_app (objOk_rt oA_ok (by decide) (by decide)) r
theorem oA_of : ofW (objB oA) = (oA, 0) := by
  have h := oA_read []
  rw [List.append_nil] at h
  simp [ofW, ofOk, h, oA_ok]
theorem oA_of2 : ofW (objB oA ++ [120]) = (obj0, 3) := by simp [ofW, ofOk, oA_read]
theorem awake11_c {σ : Store} : ACalls Tryz.prog 15 [] σ fun v σ' => v = vB true ∧ σ = σ' := by
  have b1 : bytesS oA = (B (objB oA), 0) := by simp [bytesS, oA_ok]
  have b2 : bytesS oA2 = (⟨#[]⟩, 1) := by simp [bytesS, oA2_no]
  have hl := oA_len
  have hsz := B_size (objB oA)
  have hadd : astr .add (B (objB oA)) ⟨#[120]⟩ = some (.string (B (objB oA ++ [120]))) := astr_addB _ [120] (by simp; omega)
  refine ACalls_of Tryz.func15 rfl Tryz.ntmps15 (congrArg Array.toList Tryz.results15) (by simp only [List.length_cons, List.length_nil]; decide) ?_; simp only [envOf_cons, envOf_nil, Nat.reduceAdd]
  refine awp_seq ?_
  refine awp_region (by kernel_rfl) ?_
  (refine aL_S rfl rfl v_ ?_)
  refine aL_nil ?_
  refine awp_seq ?_
  refine awp_region (by kernel_rfl) ?_
  (refine aL_S rfl rfl v_ ?_)
  refine aL_buildSlice rfl rfl rfl g_ g_ rfl rfl h_ c2_ (by decide) ?_
  iterate 2 (refine aL_S rfl rfl v_ ?_)
  refine aL_buildSlice rfl rfl rfl g_ g_ rfl rfl h_ c2_ (by decide) ?_
  (refine aL_S rfl rfl v_ ?_)
  refine aL_alloc rfl rfl rfl g_ gl_ fun o1 ho1 => ?_
  repeat (rw [none_set_iff] at ho1; obtain ⟨_, ho1⟩ := ho1)
  refine aL_store rfl rfl rfl v_ v_ h_ g_ rfl g_ c_ (by rfl) le_ v_ ?_
  refine aL_nil ?_
  refine awp_wkCells o1 (sObj oA).cells h_ ?_ ?_
  · exact ⟨.sl _ _ _ _ rfl (fun x hx => by obtain rfl := List.mem_singleton.1 hx; rfl) (fun i hi hi' => by match i, hi with | 0, _ => exact .agg _ _ rfl (fun j hj hj' => by match j, hj with | 0, _ => exact .refl _ | 1, _ => exact .refl _ | 2, _ => exact .nil _ _)), .sl1 _ _ _, trivial⟩
  refine awp_seq ?_
  refine awp_region (by kernel_rfl) ?_
  (refine aL_S rfl rfl v_ ?_)
  refine aL_X rfl rfl (AOp_use rfl rfl (.inr ⟨rfl, rfl, rfl⟩) g_ va_ (wBytes_c oA_sm) ?_); rintro _ _ ⟨rfl, rfl⟩
  rw [b1]
  iterate 5 (refine aL_S rfl rfl v_ ?_)
  refine aL_nil ?_
  refine awp_seq ?_
  refine awp_region (by kernel_rfl) ?_
  (refine aL_S rfl rfl v_ ?_)
  refine aL_X rfl rfl (AOp_use rfl rfl (.inr ⟨rfl, rfl, rfl⟩) g_ va_ (wOf_c (s := objB oA) (by omega)) ?_); rintro _ _ ⟨rfl, rfl⟩
  rw [oA_of]
  iterate 3 (refine aL_S rfl rfl v_ ?_)
  refine aL_alloc rfl rfl rfl g_ gl_ fun o4 ho4 => ?_
  repeat (rw [none_set_iff] at ho4; obtain ⟨_, ho4⟩ := ho4)
  refine aL_store rfl rfl rfl v_ v_ h_ g_ rfl g_ c_ (by rfl) le_ v_ ?_
  (refine aL_S rfl rfl v_ ?_)
  refine aL_nil ?_
  refine awp_seq ?_
  have R := hadd
  refine awp_region (by kernel_rfl) ?_
  iterate 2 (refine aL_S rfl rfl v_ ?_)
  refine aL_X rfl rfl (AOp_use rfl rfl (.inr ⟨rfl, rfl, rfl⟩) g_ va_ (wOf_c (s := objB oA ++ [120]) (by simp; omega)) ?_); rintro _ _ ⟨rfl, rfl⟩
  rw [oA_of2]
  iterate 3 (refine aL_S rfl rfl v_ ?_)
  refine aL_alloc rfl rfl rfl g_ gl_ fun o6 ho6 => ?_
  repeat (rw [none_set_iff] at ho6; obtain ⟨_, ho6⟩ := ho6)
  refine aL_store rfl rfl rfl v_ v_ h_ g_ rfl g_ c_ (by rfl) le_ v_ ?_
  (refine aL_S rfl rfl v_ ?_)
  refine aL_nil ?_
  refine awp_seq ?_
  refine awp_region (by kernel_rfl) ?_
  iterate 3 (refine aL_S rfl rfl v_ ?_)
  refine aL_X rfl rfl (AOp_use rfl rfl (.inr ⟨rfl, rfl, rfl⟩) g_ va_ (ACalls.wkA (args := [.agg [vNil, .sl 5 (oA.sibs.map sSib) false]]) (wBytes_c oA2_sm) rfl (fun j hj hj' => by match j, hj with | 0, _ => exact .agg _ _ rfl (fun j hj hj' => by match j, hj with | 0, _ => exact .nil _ _ | 1, _ => exact .refl _))) ?_); rintro _ _ ⟨rfl, rfl⟩
  rw [b2]
  iterate 5 (refine aL_S rfl rfl v_ ?_)
  refine aL_nil ?_
  refine awp_seq ?_
  refine awp_region (by kernel_rfl) ?_
  iterate 3 (refine aL_S rfl rfl v_ ?_)
  refine aL_SY (wantedA_yes rfl rfl v_ (by rfl)) rfl v_ ?_
  refine aL_SY (wantedA_yes rfl rfl v_ (by rfl)) rfl v_ ?_
  refine aL_XY (wantedA_yes rfl rfl v_ (by rfl)) rfl (AOp_use rfl rfl (.inr ⟨rfl, rfl, rfl⟩) g_ va_ (same07_c oA_sm oA_sm) ?_); rintro _ _ ⟨⟨r, rfl, hr⟩, rfl⟩
  obtain rfl : r = true := hr.2 rfl
  iterate 2 (refine aL_S rfl rfl v_ ?_)
  refine aL_SY (wantedA_yes rfl rfl v_ (by rfl)) rfl v_ ?_
  refine aL_SY (wantedA_yes rfl rfl v_ (by rfl)) rfl v_ ?_
  iterate 2 (refine aL_S rfl rfl v_ ?_)
  refine aL_SY (wantedA_yes rfl rfl v_ (by rfl)) rfl v_ ?_
  refine aL_SY (wantedA_yes rfl rfl v_ (by rfl)) rfl v_ ?_
  iterate 2 (refine aL_S rfl rfl v_ ?_)
  refine aL_SY (wantedA_yes rfl rfl v_ (by rfl)) rfl v_ ?_
  refine aL_SY (wantedA_yes rfl rfl v_ (by rfl)) rfl v_ ?_
  iterate 2 (refine aL_S rfl rfl v_ ?_)
  refine aL_SY (wantedA_yes rfl rfl v_ (by rfl)) rfl v_ ?_
  refine aL_SY (wantedA_yes rfl rfl v_ (by rfl)) rfl v_ ?_
  refine aL_SY (wantedA_yes rfl rfl v_ (by rfl)) rfl v_ ?_
  iterate 2 (refine aL_S rfl rfl v_ ?_)
  refine aL_SY (wantedA_yes rfl rfl v_ (by rfl)) rfl v_ ?_
  refine aL_XY (wantedA_yes rfl rfl v_ (by rfl)) rfl (AOp_use rfl rfl (.inr ⟨rfl, rfl, rfl⟩) g_ va_ (wDigest_c oA_sm) ?_); rintro _ _ ⟨rfl, rfl⟩
  refine aL_SY (wantedA_yes rfl rfl v_ (by rfl)) rfl v_ ?_
  refine aL_XY (wantedA_yes rfl rfl v_ (by rfl)) rfl (AOp_use rfl rfl (.inr ⟨rfl, rfl, rfl⟩) g_ va_ (rSum_c (s := B (objB oA)) (by omega)) ?_); rintro _ _ ⟨rfl, rfl⟩
  refine aL_SY (wantedA_yes rfl rfl v_ (by rfl)) rfl v_ ?_
  iterate 2 (refine aL_S rfl rfl v_ ?_)
  refine aL_nil ?_
  refine awp_ret ?_
  refine aEnd_ret (σ' := σ) v_ sub_ ?_
  exact ⟨rfl, rfl⟩
end Go.Proofs.YtgpibooklhakgaaGreat
end
