/-
  Tenants: what is said of one, and the entries that say it. Both sides; What is said of a tenant; all tenants. Both sides; Rows that grow while other objects come and go (no deeds); All tenants. Both sides; What must come of tenants, whatever the arguments are; TenantOf, TenantSets: the walks; One entry more; TenantSound: the walk. Own work (an AI agent).
-/
import Derived.Test.YtkcmbjodladflaaGreatDoorGF
import Derived.Test.YtkcmbjodladflaaGreatDoorGE
import Derived.Test.YtkcmbjodladflaaGreatDoorGD

section
set_option linter.all false
set_option maxRecDepth 100000
namespace Go.Proofs.YtkcmbjodladflaaGreatDoor
open Go.Ab
theorem path_c {l : List ByteArray} {t : Bool} {σ : Store} (hL : l.length ≤ 1000000) (hT : (l.flatMap Lb).length ≤ 1000000) : ACalls Tryz.prog 81 [.sl 1 (l.map vStr) t] σ fun v σ' => v = vStr (pathS l) ∧ σ = σ' := by
  refine ACalls_of Tryz.func81 rfl Tryz.ntmps81 (congrArg Array.toList Tryz.results81) (by simp only [List.length_cons, List.length_nil]; decide) ?_; simp only [envOf_cons, envOf_nil, Nat.reduceAdd]
  refine awp_seq ?_
  refine awp_region (by kernel_rfl) ?_
  (refine aL_S rfl rfl v_ ?_)
  refine aL_nil ?_
  refine awp_seq ?_
  refine awp_region (by kernel_rfl) ?_
  (refine aL_S rfl rfl v_ ?_)
  refine aL_X rfl rfl (AOp_use rfl rfl (.inr ⟨rfl, rfl, rfl⟩) g_ va_ (joinP_c hL hT) ?_); rintro _ _ ⟨rfl, rfl⟩
  (refine aL_S rfl rfl v_ ?_)
  refine aL_nil ?_
  refine awp_ret ?_
  refine aEnd_ret (σ' := σ) v_ sub_ ?_
  exact ⟨rfl, rfl⟩
theorem key_c {a f : ByteArray} {σ : Store} (ha : a.size ≤ 400000) (hf : f.size ≤ 400000) : ACalls Tryz.prog 86 [vStr a, vStr f] σ fun v σ' => v = vStr (keyS a f) ∧ σ = σ' := by
  refine ACalls_of Tryz.func86 rfl Tryz.ntmps86 (congrArg Array.toList Tryz.results86) (by simp only [List.length_cons, List.length_nil]; decide) ?_; simp only [envOf_cons, envOf_nil, Nat.reduceAdd]
  refine awp_seq ?_
  refine awp_region (by kernel_rfl) ?_
  (refine aL_S rfl rfl v_ ?_)
  refine aL_nil ?_
  refine awp_seq ?_
  refine awp_region (by kernel_rfl) ?_
  iterate 2 (refine aL_S rfl rfl v_ ?_)
  refine aL_buildSlice rfl rfl rfl g_ g_ rfl rfl h_ c2_ (by decide) ?_
  refine aL_X rfl rfl (AOp_use rfl rfl (.inr ⟨rfl, rfl, rfl⟩) g_ va_ (path_c (l := [bsTenant, a, f]) (by simp) (by simp [Lb_length, show (Lb bsTenant).length = 6 from rfl]; omega)) ?_); rintro _ _ ⟨rfl, rfl⟩
  (refine aL_S rfl rfl v_ ?_)
  refine aL_nil ?_
  refine awp_ret ?_
  refine aEnd_ret (σ' := σ) v_ sub_ ?_
  exact ⟨rfl, rfl⟩
theorem isSecret_c {s : ByteArray} {σ : Store} : ACalls Tryz.prog 84 [vStr s] σ fun v σ' => v = vB (secOk s) ∧ σ = σ' := by
  have h0 := ne0 s
  refine ACalls_of Tryz.func84 rfl Tryz.ntmps84 (congrArg Array.toList Tryz.results84) (by simp only [List.length_cons, List.length_nil]; decide) ?_; simp only [envOf_cons, envOf_nil, Nat.reduceAdd]
  refine awp_seq ?_
  refine awp_region (by kernel_rfl) ?_
  (refine aL_S rfl rfl v_ ?_)
  refine aL_nil ?_
  refine awp_seq ?_
  have R := h0
  refine awp_region (by kernel_rfl) ?_
  iterate 3 (refine aL_S rfl rfl v_ ?_)
  refine aL_GT rfl rfl v_ rfl vg_ ?_
  refine aL_GT rfl rfl v_ rfl vg_ ?_
  refine aL_GT rfl rfl v_ rfl vg_ ?_
  iterate 2 (refine aL_S rfl rfl v_ ?_)
  refine aL_nil ?_
  refine awp_ret ?_
  refine aEnd_ret (σ' := σ) v_ sub_ ?_
  refine ⟨?_, rfl⟩
  unfold secOk
  by_cases h1 : s.size = 0 <;> by_cases h2 : s.size ≤ 64 <;> simp [h1, h2, h0] <;> omega
theorem bounds_c {f : ByteArray} {σ : Store} : ACalls Tryz.prog 87 [vStr f] σ fun v σ' => v = .tup [.agg [vInt (bndS f).1, vInt (bndS f).2.1], vB (bndS f).2.2] ∧ σ = σ' := by
  refine ACalls_of Tryz.func87 rfl Tryz.ntmps87 (congrArg Array.toList Tryz.results87) (by simp only [List.length_cons, List.length_nil]; decide) ?_; simp only [envOf_cons, envOf_nil, Nat.reduceAdd]
  refine awp_seq ?_
  refine awp_region (by kernel_rfl) ?_
  refine aL_alloc rfl rfl rfl g_ gl_ fun o2 ho2 => ?_
  repeat (rw [none_set_iff] at ho2; obtain ⟨_, ho2⟩ := ho2)
  (refine aL_S rfl rfl v_ ?_)
  refine aL_nil ?_
  refine awp_seq ?_
  refine awp_seq ?_
  refine awp_region (by kernel_rfl) ?_
  (refine aL_S rfl rfl v_ ?_)
  refine aL_nil ?_
  refine awp_block ?_
  refine awp_seq ?_
  refine awp_region (by kernel_rfl) ?_
  iterate 2 (refine aL_S rfl rfl v_ ?_)
  refine aL_nil ?_
  refine awp_cond v_ (fun hc2 => ?_) (fun hc2 => ?_)
  · replace hc2 := nm_ hc2
    refine awp_seq ?_
    refine awp_region (by kernel_rfl) ?_
    (refine aL_S rfl rfl v_ ?_)
    refine aL_store rfl rfl rfl v_ v_ h_ g_ rfl g_ c_ (by rfl) le_ v_ ?_
    (refine aL_S rfl rfl v_ ?_)
    refine aL_nil ?_
    refine awp_ret ?_
    refine aEnd_ret (σ' := σ) v_ sub_ ?_
    exact ⟨by rw [bndS, if_pos (show f = bsBytes from hc2)], rfl⟩
  · replace hc2 := nm_ hc2
    refine awp_seq ?_
    refine awp_region (by kernel_rfl) ?_
    iterate 2 (refine aL_S rfl rfl v_ ?_)
    refine aL_nil ?_
    refine awp_cond v_ (fun hc4 => ?_) (fun hc4 => ?_)
    · replace hc4 := nm_ hc4
      refine awp_seq ?_
      refine awp_region (by kernel_rfl) ?_
      (refine aL_S rfl rfl v_ ?_)
      refine aL_store rfl rfl rfl v_ v_ h_ g_ rfl g_ c_ (by rfl) le_ v_ ?_
      (refine aL_S rfl rfl v_ ?_)
      refine aL_nil ?_
      refine awp_ret ?_
      refine aEnd_ret (σ' := σ) v_ sub_ ?_
      exact ⟨by rw [bndS, if_neg (show ¬ f = bsBytes from hc2), if_pos (show f = bsRate from hc4)], rfl⟩
    · replace hc4 := nm_ hc4
      refine awp_seq ?_
      refine awp_region (by kernel_rfl) ?_
      iterate 2 (refine aL_S rfl rfl v_ ?_)
      refine aL_nil ?_
      refine awp_cond v_ (fun hc6 => ?_) (fun hc6 => ?_)
      · replace hc6 := nm_ hc6
        refine awp_seq ?_
        refine awp_region (by kernel_rfl) ?_
        (refine aL_S rfl rfl v_ ?_)
        refine aL_store rfl rfl rfl v_ v_ h_ g_ rfl g_ c_ (by rfl) le_ v_ ?_
        (refine aL_S rfl rfl v_ ?_)
        refine aL_nil ?_
        refine awp_ret ?_
        refine aEnd_ret (σ' := σ) v_ sub_ ?_
        exact ⟨by rw [bndS, if_neg (show ¬ f = bsBytes from hc2), if_neg (show ¬ f = bsRate from hc4), if_pos (show f = bsBurst from hc6)], rfl⟩
      · replace hc6 := nm_ hc6
        refine awp_seq ?_
        refine awp_region (by kernel_rfl) ?_
        iterate 2 (refine aL_S rfl rfl v_ ?_)
        refine aL_nil ?_
        refine awp_cond v_ (fun hc8 => ?_) (fun hc8 => ?_)
        · replace hc8 := nm_ hc8
          refine awp_seq ?_
          refine awp_region (by kernel_rfl) ?_
          (refine aL_S rfl rfl v_ ?_)
          refine aL_store rfl rfl rfl v_ v_ h_ g_ rfl g_ c_ (by rfl) le_ v_ ?_
          (refine aL_S rfl rfl v_ ?_)
          refine aL_nil ?_
          refine awp_ret ?_
          refine aEnd_ret (σ' := σ) v_ sub_ ?_
          exact ⟨by rw [bndS, if_neg (show ¬ f = bsBytes from hc2), if_neg (show ¬ f = bsRate from hc4), if_neg (show ¬ f = bsBurst from hc6), if_pos (show f = bsQueue from hc8)], rfl⟩
        · replace hc8 := nm_ hc8
          refine awp_skip ?_
          refine awp_seq ?_
          refine awp_region (by kernel_rfl) ?_
          (refine aL_S rfl rfl v_ ?_)
          refine aL_store rfl rfl rfl v_ v_ h_ g_ rfl g_ c_ (by rfl) le_ v_ ?_
          (refine aL_S rfl rfl v_ ?_)
          refine aL_nil ?_
          refine awp_ret ?_
          refine aEnd_ret (σ' := σ) v_ sub_ ?_
          exact ⟨by rw [bndS, if_neg (show ¬ f = bsBytes from hc2), if_neg (show ¬ f = bsRate from hc4), if_neg (show ¬ f = bsBurst from hc6), if_neg (show ¬ f = bsQueue from hc8)], rfl⟩
/-! ### entries -/
theorem secret_c {l : List Ent} {t : Bool} {who a s : ByteArray} {σ : Store} (hs : ∀ x ∈ l, EntSm x) (hl : l.length ≤ 1000000) (h2 : who.size ≤ 1000000) (h3 : a.size ≤ 400000) : ACalls Tryz.prog 34 [.sl 4 (l.map sEnt) t, vStr who, vStr a, vStr s] σ fun r σ' => r = .tup [sEnt (secS l who a s).1, vInt (secS l who a s).2] ∧ σ = σ' := by
  refine ACalls_of Tryz.func34 rfl Tryz.ntmps34 (congrArg Array.toList Tryz.results34) (by simp only [List.length_cons, List.length_nil]; decide) ?_; simp only [envOf_cons, envOf_nil, Nat.reduceAdd]
  refine awp_seq ?_
  refine awp_region (by kernel_rfl) ?_
  refine aL_alloc rfl rfl rfl g_ gl_ fun o8 ho8 => ?_
  repeat (rw [none_set_iff] at ho8; obtain ⟨_, ho8⟩ := ho8)
  (refine aL_S rfl rfl v_ ?_)
  refine aL_nil ?_
  refine awp_seq ?_
  refine awp_seq ?_
  refine awp_region (by kernel_rfl) ?_
  (refine aL_S rfl rfl v_ ?_)
  refine aL_X rfl rfl (AOp_use rfl rfl (.inr ⟨rfl, rfl, rfl⟩) g_ va_ (nameIs_c (by omega)) ?_); rintro _ _ ⟨rfl, rfl⟩
  iterate 2 (refine aL_S rfl rfl v_ ?_)
  refine aL_GF rfl rfl v_ rfl vg_ ?_
  refine aL_GFX rfl rfl v_ rfl (fun hb => AOp_useV (by rfl) (by rfl) (.inr ⟨by rfl, by rfl, by rfl⟩) g_ cg_ (isSecret_c)) ?_
  refine aL_GF rfl rfl v_ rfl vg_ ?_
  (refine aL_S rfl rfl v_ ?_)
  refine aL_nil ?_
  refine awp_cond v_ (fun hc1 => ?_) (fun hc1 => ?_)
  · replace hc1 := nm_ hc1
    refine awp_seq ?_
    refine awp_region (by kernel_rfl) ?_
    (refine aL_S rfl rfl v_ ?_)
    refine aL_store rfl rfl rfl v_ v_ h_ g_ rfl g_ c_ (by rfl) le_ v_ ?_
    (refine aL_S rfl rfl v_ ?_)
    refine aL_nil ?_
    refine awp_ret ?_
    refine aEnd_ret (σ' := σ) v_ sub_ ?_
    exact ⟨by rw [secS, if_pos (by rcases hc1 with h | h <;> simp [h])]; rfl, rfl⟩
  · replace hc1 := nm_ hc1
    refine awp_skip ?_
    refine awp_seq ?_
    refine awp_region (by kernel_rfl) ?_
    iterate 3 (refine aL_S rfl rfl v_ ?_)
    refine aL_X rfl rfl (AOp_use rfl rfl (.inr ⟨rfl, rfl, rfl⟩) g_ va_ (key_c (f := bsSecret) (by omega) (by decide)) ?_); rintro _ _ ⟨rfl, rfl⟩
    (refine aL_S rfl rfl v_ ?_)
    refine aL_X rfl rfl (AOp_use rfl rfl (.inr ⟨rfl, rfl, rfl⟩) g_ va_ (set_c hs hl h2) ?_); rintro _ _ ⟨rfl, rfl⟩
    iterate 2 (refine aL_S rfl rfl v_ ?_)
    refine aL_store rfl rfl rfl v_ v_ h_ g_ rfl g_ c_ (by rfl) le_ v_ ?_
    (refine aL_S rfl rfl v_ ?_)
    refine aL_nil ?_
    refine awp_ret ?_
    refine aEnd_ret (σ' := σ) v_ sub_ ?_
    exact ⟨by rw [secS, if_neg (by simp [hc1.1, hc1.2])], rfl⟩
theorem limit_c {l : List Ent} {t : Bool} {who a f : ByteArray} {n : Int} {σ : Store} (hs : ∀ x ∈ l, EntSm x) (hl : l.length ≤ 1000000) (h2 : who.size ≤ 1000000) (h3 : a.size ≤ 400000) (h4 : f.size ≤ 400000) (h0 : -9223372036854775808 ≤ n) (h1 : n ≤ 9223372036854775807) : ACalls Tryz.prog 35 [.sl 4 (l.map sEnt) t, vStr who, vStr a, vStr f, vInt n] σ fun r σ' => r = .tup [sEnt (limitS l who a f n).1, vInt (limitS l who a f n).2] ∧ σ = σ' := by
  refine ACalls_of Tryz.func35 rfl Tryz.ntmps35 (congrArg Array.toList Tryz.results35) (by simp only [List.length_cons, List.length_nil]; decide) ?_; simp only [envOf_cons, envOf_nil, Nat.reduceAdd]
  refine awp_seq ?_
  refine awp_region (by kernel_rfl) ?_
  refine aL_alloc rfl rfl rfl g_ gl_ fun o10 ho10 => ?_
  repeat (rw [none_set_iff] at ho10; obtain ⟨_, ho10⟩ := ho10)
  (refine aL_S rfl rfl v_ ?_)
  refine aL_nil ?_
  refine awp_seq ?_
  refine awp_region (by kernel_rfl) ?_
  (refine aL_S rfl rfl v_ ?_)
  refine aL_X rfl rfl (AOp_use rfl rfl (.inr ⟨rfl, rfl, rfl⟩) g_ va_ (bounds_c) ?_); rintro _ _ ⟨rfl, rfl⟩
  iterate 3 (refine aL_S rfl rfl v_ ?_)
  refine aL_alloc rfl rfl rfl g_ gl_ fun o12 ho12 => ?_
  repeat (rw [none_set_iff] at ho12; obtain ⟨_, ho12⟩ := ho12)
  refine aL_store rfl rfl rfl v_ v_ h_ g_ rfl g_ c_ (by rfl) le_ v_ ?_
  (refine aL_S rfl rfl v_ ?_)
  refine aL_nil ?_
  refine awp_seq ?_
  refine awp_seq ?_
  refine awp_region (by kernel_rfl) ?_
  (refine aL_S rfl rfl v_ ?_)
  refine aL_X rfl rfl (AOp_use rfl rfl (.inr ⟨rfl, rfl, rfl⟩) g_ va_ (nameIs_c (by omega)) ?_); rintro _ _ ⟨rfl, rfl⟩
  iterate 2 (refine aL_S rfl rfl v_ ?_)
  refine aL_GF rfl rfl v_ rfl vg_ ?_
  refine aL_GF rfl rfl v_ rfl vg_ ?_
  iterate 2 (refine aL_S rfl rfl v_ ?_)
  refine aL_GF rfl rfl v_ rfl vg_ ?_
  refine aL_GF rfl rfl v_ rfl vg_ ?_
  iterate 2 (refine aL_S rfl rfl v_ ?_)
  refine aL_GF rfl rfl v_ rfl vg_ ?_
  refine aL_GF rfl rfl v_ rfl vg_ ?_
  refine aL_GF rfl rfl v_ rfl vg_ ?_
  refine aL_GF rfl rfl v_ rfl vg_ ?_
  (refine aL_S rfl rfl v_ ?_)
  refine aL_nil ?_
  refine awp_cond v_ (fun hc2 => ?_) (fun hc2 => ?_)
  · replace hc2 := nm_ hc2
    refine awp_seq ?_
    refine awp_region (by kernel_rfl) ?_
    (refine aL_S rfl rfl v_ ?_)
    refine aL_store rfl rfl rfl v_ v_ h_ g_ rfl g_ c_ (by rfl) le_ v_ ?_
    (refine aL_S rfl rfl v_ ?_)
    refine aL_nil ?_
    refine awp_ret ?_
    refine aEnd_ret (σ' := σ) v_ sub_ ?_
    exact ⟨by rw [limitS, if_pos (by rcases hc2 with ((h | h) | h) | h <;> simp [h])]; rfl, rfl⟩
  · replace hc2 := nm_ hc2
    refine awp_skip ?_
    refine awp_seq ?_
    refine awp_region (by kernel_rfl) ?_
    iterate 4 (refine aL_S rfl rfl v_ ?_)
    refine aL_X rfl rfl (AOp_use rfl rfl (.inr ⟨rfl, rfl, rfl⟩) g_ va_ (key_c (by omega) (by omega)) ?_); rintro _ _ ⟨rfl, rfl⟩
    (refine aL_S rfl rfl v_ ?_)
    refine aL_X rfl rfl (AOp_use rfl rfl (.inr ⟨rfl, rfl, rfl⟩) g_ va_ (dec_c h0 h1) ?_); rintro _ _ ⟨rfl, rfl⟩
    refine aL_X rfl rfl (AOp_use rfl rfl (.inr ⟨rfl, rfl, rfl⟩) g_ va_ (set_c hs hl h2) ?_); rintro _ _ ⟨rfl, rfl⟩
    iterate 2 (refine aL_S rfl rfl v_ ?_)
    refine aL_store rfl rfl rfl v_ v_ h_ g_ rfl g_ c_ (by rfl) le_ v_ ?_
    (refine aL_S rfl rfl v_ ?_)
    refine aL_nil ?_
    refine awp_ret ?_
    refine aEnd_ret (σ' := σ) v_ sub_ ?_
    exact ⟨by rw [limitS, if_neg (by obtain ⟨⟨⟨h1, h2⟩, h3⟩, h4⟩ := hc2; simp [h1, h2]; omega)], rfl⟩
end Go.Proofs.YtkcmbjodladflaaGreatDoor
end

section
set_option linter.all false
set_option maxRecDepth 100000
namespace Go.Proofs.YtkcmbjodladflaaGreatDoor
open Go.Ab
end Go.Proofs.YtkcmbjodladflaaGreatDoor
end

section
set_option linter.all false
set_option maxRecDepth 100000
namespace Go.Ab
theorem AOp_wk {P : Program} {o : Oper} {α : Operand → AVal} {σ : Store} {a a' : AVal} {Kk : AVal → Store → Prop} (h : AOp P o α σ fun v τ => v = a ∧ τ = σ) (hw : Wk a a') (hk : Kk a' σ) : AOp P o α σ Kk :=
  fun κ ev hI hx => (h κ ev hI hx).mono fun v w ⟨κ', b, τ, h1, h2, h3, h4, hb, hτ⟩ => by
    subst hb; subst hτ
    exact ⟨κ', a', τ, h1, h2, h3, h4.wk hw, hk⟩
end Go.Ab
namespace Go.Proofs.YtkcmbjodladflaaGreatDoor
open Go.Ab
theorem set_swap {σ : Store} {i j : Nat} {x y : AObj} (h : i ≠ j) : (σ.set i x).set j y = (σ.set j y).set i x := by
  unfold Store.set
  congr 1
  funext k
  by_cases h1 : k = j
  · subst h1; simp [Ne.symm h]
  · by_cases h2 : k = i
    · subst h2; simp [h]
    · simp [h1, h2]
theorem cbp_set {σ0 σ : Store} {sz : Nat} {l : List AVal} {a : AVal} (h : CBp σ0 σ sz l a) {i : Nat} {x : AObj} (hi : σ.heap i = none) : CBp (σ0.set i x) (σ.set i x) sz l a := by
  rcases h with ⟨h1, h2, rfl⟩ | ⟨o, ho, h1, rfl⟩
  · exact .inl ⟨h1, h2, rfl⟩
  · have hne : i ≠ o := fun hh => by rw [hh, Store.set_get] at hi; cases hi
    exact .inr ⟨o, by rw [Store.set_ne _ _ (Ne.symm hne)]; exact ho, h1, set_swap (Ne.symm hne)⟩
theorem cbp_set2 {σ0 σ : Store} {sz : Nat} {l : List AVal} {a : AVal} (h : CBp σ0 σ sz l a) {i : Nat} {x y : AObj} (hi : σ.heap i = none) : CBp (σ0.set i y) ((σ.set i x).set i y) sz l a := by
  rw [Store.set_set]; exact cbp_set h hi
theorem cbp_drop {σ σ' : Store} {sz : Nat} {l : List AVal} {a : AVal} {i : Nat} {y : AObj} (h : CBp (σ.set i y) σ' sz l a) (hi : σ.heap i = none) : ∃ τ, CBp σ τ sz l a ∧ τ.Sub σ' := by
  have hsub : ∀ τ : Store, τ.heap i = none → τ.Sub (τ.set i y) := fun τ hτ => ⟨fun j x hx => by rw [Store.set_ne _ _ (fun hh => by rw [hh, hτ] at hx; cases hx)]; exact hx, fun _ _ h => h⟩
  rcases h with ⟨h1, h2, rfl⟩ | ⟨o, ho, h1, rfl⟩
  · exact ⟨σ, .inl ⟨h1, h2, rfl⟩, hsub σ hi⟩
  · have hne : o ≠ i := fun hh => by rw [hh, Store.set_get] at ho; cases ho
    rw [Store.set_ne _ _ hne] at ho
    refine ⟨σ.set o (.cells (flat l)), .inr ⟨o, ho, h1, rfl⟩, ?_⟩
    rw [set_swap (Ne.symm hne)]
    exact hsub _ (by rw [Store.set_ne _ _ (Ne.symm hne)]; exact hi)
theorem frozenS {P : Program} {f : FuncId} {args : List AVal} {σ : Store} {sz : Nat} {l : List AVal} (h : ACalls P f args σ fun v σ' => ∃ σ1, CBp σ1 σ' sz l v ∧ σ.Sub σ1) (hs : ∀ x ∈ l, x.cells.length = sz) : ACalls P f args σ fun v σ' => v = .sl sz l false ∧ σ = σ' := by
  refine h.after ?_
  rintro κ a σ' cv hI hr ⟨σ1, hC, hsub⟩
  rcases hC with ⟨rfl, rfl, rfl⟩ | ⟨o, ho, rfl, rfl⟩
  · exact ⟨κ, _, _, rfl, .refl κ, hI.sub hsub, hr.wk (.nil sz false), rfl, rfl⟩
  · obtain ⟨κ', h1, h2, h3, h4⟩ := Ab.freeze hI hr (Store.set_get ..) (l := l) (by rw [List.take_of_length_le (by rw [flat_length hs]; exact Nat.le_refl _)]) rfl hs
    rw [Store.set_del ho] at h3
    exact ⟨κ', _, _, h1, h2, h3.sub hsub, h4, rfl, rfl⟩
theorem heap_none {σ0 σ : Store} {sz : Nat} {l : List AVal} {a : AVal} (h : CBp σ0 σ sz l a) {i : Nat} (hi : σ.heap i = none) : σ0.heap i = none := by
  cases hh : σ0.heap i with
  | none => rfl
  | some y => have := h.sub.heap i y hh; rw [hi] at this; cases this
end Go.Proofs.YtkcmbjodladflaaGreatDoor
end

section
set_option linter.all false
set_option maxRecDepth 100000
namespace Go.Proofs.YtkcmbjodladflaaGreatDoor
open Go.Ab
theorem get_if {α : Type} [Inhabited α] (l : List α) (k : Nat) : ∃ x : α, k < l.length → l[k]? = some x := by
  by_cases h : k < l.length
  · exact ⟨l[k], fun _ => List.getElem?_eq_getElem h⟩
  · exact ⟨default, fun h' => absurd h' h⟩
def hpS (s p : ByteArray) : Bool := decide (p.size ≤ s.size) && decide (s.extract 0 p.size = p)
theorem slHasPrefix_c {s p : ByteArray} {σ : Store} : ACalls Tryz.prog 203 [vStr s, vStr p] σ fun v σ' => v = vB (hpS s p) ∧ σ = σ' := by
  refine ACalls_of Tryz.func203 rfl Tryz.ntmps203 (congrArg Array.toList Tryz.results203) (by simp only [List.length_cons, List.length_nil]; decide) ?_; simp only [envOf_cons, envOf_nil, Nat.reduceAdd]
  refine awp_seq ?_
  refine awp_region (by kernel_rfl) ?_
  (refine aL_S rfl rfl v_ ?_)
  refine aL_nil ?_
  refine awp_seq ?_
  refine awp_region (by kernel_rfl) ?_
  iterate 6 (refine aL_S rfl rfl v_ ?_)
  refine aL_GT rfl rfl v_ rfl vg_ ?_
  refine aL_GT rfl rfl v_ rfl vg_ ?_
  refine aL_GT rfl rfl v_ rfl vg_ ?_
  refine aL_GT rfl rfl v_ rfl vg_ ?_
  refine aL_GT rfl rfl v_ rfl vg_ ?_
  refine aL_GT rfl rfl v_ rfl vg_ ?_
  iterate 2 (refine aL_S rfl rfl v_ ?_)
  refine aL_nil ?_
  refine awp_ret ?_
  refine aEnd_ret (σ' := σ) v_ sub_ ?_
  refine ⟨?_, rfl⟩
  unfold hpS
  by_cases h1 : p.size ≤ s.size <;> simp [h1]
theorem hasPrefix_c {s p : ByteArray} {σ : Store} : ACalls Tryz.prog 174 [vStr s, vStr p] σ fun v σ' => v = vB (hpS s p) ∧ σ = σ' := by
  refine ACalls_of Tryz.func174 rfl Tryz.ntmps174 (congrArg Array.toList Tryz.results174) (by simp only [List.length_cons, List.length_nil]; decide) ?_; simp only [envOf_cons, envOf_nil, Nat.reduceAdd]
  refine awp_seq ?_
  refine awp_region (by kernel_rfl) ?_
  (refine aL_S rfl rfl v_ ?_)
  refine aL_nil ?_
  refine awp_seq ?_
  refine awp_region (by kernel_rfl) ?_
  iterate 2 (refine aL_S rfl rfl v_ ?_)
  refine aL_X rfl rfl (AOp_use rfl rfl (.inr ⟨rfl, rfl, rfl⟩) g_ va_ (slHasPrefix_c) ?_); rintro _ _ ⟨rfl, rfl⟩
  (refine aL_S rfl rfl v_ ?_)
  refine aL_nil ?_
  refine awp_ret ?_
  refine aEnd_ret (σ' := σ) v_ sub_ ?_
  exact ⟨rfl, rfl⟩
theorem under1_c {q : Nat} {x : Ent} {s : ByteArray} {σ : Store} (hq : σ.heap q = some (.cells [vStr s])) (hs : s.size ≤ 1000000) : ACalls Tryz.prog 173 [sEnt x, .ref q 0] σ fun v σ' => v = vB (!hpS x.key (s ++ ⟨#[47]⟩)) ∧ σ = σ' := by
  have e1 := astr_add' s ⟨#[47]⟩ (by rw [show (ByteArray.mk #[47]).size = 1 from rfl]; omega)
  refine ACalls_of Tryz.func173 rfl Tryz.ntmps173 (congrArg Array.toList Tryz.results173) (by simp only [List.length_cons, List.length_nil]; decide) ?_; simp only [envOf_cons, envOf_nil, Nat.reduceAdd]
  refine awp_seq ?_
  refine awp_region (by kernel_rfl) ?_
  refine aL_box rfl rfl rfl v_ rfl g_ fun o2 ho2 => ?_
  repeat (rw [none_set_iff] at ho2; obtain ⟨_, ho2⟩ := ho2)
  (refine aL_S rfl rfl v_ ?_)
  refine aL_nil ?_
  have n3 := ne_of_heap hq ho2
  refine awp_seq ?_
  have R := And.intro hq e1
  refine awp_region (by kernel_rfl) ?_
  iterate 4 (refine aL_S rfl rfl v_ ?_)
  refine aL_X rfl rfl (AOp_use rfl rfl (.inr ⟨rfl, rfl, rfl⟩) g_ va_ (hasPrefix_c) ?_); rintro _ _ ⟨rfl, rfl⟩
  iterate 2 (refine aL_S rfl rfl v_ ?_)
  refine aL_nil ?_
  refine awp_ret ?_
  refine aEnd_ret (σ' := σ) v_ sub_ ?_
  exact ⟨rfl, rfl⟩
theorem pfUnder {q : Nat} {s : ByteArray} {σ : Store} (hq : σ.heap q = some (.cells [vStr s])) (hs : s.size ≤ 1000000) : PFEn 173 [.ref q 0] σ fun x => !hpS x.key (s ++ ⟨#[47]⟩) := ⟨by kernel_rfl, fun τ h x => under1_c (h _ _ hq) hs⟩
def undS (l : List Ent) (s : ByteArray) : List Ent := l.filter fun x => hpS x.key (s ++ ⟨#[47]⟩)
theorem under_c {l : List Ent} {t : Bool} {s : ByteArray} {σ : Store} (hl : l.length ≤ 1000000) (hs : s.size ≤ 1000000) : ACalls Tryz.prog 125 [.sl 4 (l.map sEnt) t, vStr s] σ fun v σ' => v = .sl 4 ((undS l s).map sEnt) false ∧ σ = σ' := by
  refine ACalls_of Tryz.func125 rfl Tryz.ntmps125 (congrArg Array.toList Tryz.results125) (by simp only [List.length_cons, List.length_nil]; decide) ?_; simp only [envOf_cons, envOf_nil, Nat.reduceAdd]
  refine awp_seq ?_
  refine awp_region (by kernel_rfl) ?_
  refine aL_box rfl rfl rfl v_ rfl g_ fun o3 ho3 => ?_
  repeat (rw [none_set_iff] at ho3; obtain ⟨_, ho3⟩ := ho3)
  (refine aL_S rfl rfl v_ ?_)
  refine aL_nil ?_
  refine awp_seq ?_
  refine awp_region (by kernel_rfl) ?_
  (refine aL_S rfl rfl v_ ?_)
  refine aL_X rfl rfl (AOp_use rfl rfl (.inr ⟨rfl, rfl, rfl⟩) g_ va_ (cloneEn hl) ?_); rintro _ τ0 hC0
  (refine aL_S rfl rfl v_ ?_)
  refine aL_X rfl rfl (AOp_use rfl rfl (.inr ⟨rfl, rfl, rfl⟩) g_ va_ (deleteEn (pfUnder (s := s) h_ hs) hC0 hl) ?_); rintro _ _ ⟨rfl, rfl⟩
  (refine aL_S rfl rfl v_ ?_)
  refine aL_nil ?_
  refine awp_ret ?_
  refine aEnd_ret (σ' := σ) v_ sub_ ?_
  exact ⟨by simp [undS], rfl⟩
/-! ### names of tenants -/
theorem fm_snoc {α β : Type} {f : α → Option β} {l : List α} {k : Nat} {x : α} (h : l[k]? = some x) : (l.take (k + 1)).filterMap f = (l.take k).filterMap f ++ (f x).toList := by
  rw [take_snoc h, List.filterMap_append, List.filterMap_cons]
  cases f x <;> rfl
theorem und_len (l : List Ent) (s : ByteArray) : (undS l s).length ≤ l.length := List.length_filter_le ..
theorem und_sm {l : List Ent} {s : ByteArray} (h : ∀ x ∈ l, EntSm x) : ∀ x ∈ undS l s, EntSm x := fun x hx => h x (List.mem_filter.1 hx).1
end Go.Proofs.YtkcmbjodladflaaGreatDoor
end

section
set_option linter.all false
set_option maxRecDepth 100000
namespace Go.Proofs.YtkcmbjodladflaaGreatDoor
open Go.Ab
end Go.Proofs.YtkcmbjodladflaaGreatDoor
end

section
set_option linter.all false
set_option maxRecDepth 100000
namespace Go.Proofs.YtkcmbjodladflaaGreatDoor
open Go.Ab
end Go.Proofs.YtkcmbjodladflaaGreatDoor
end

section
set_option linter.all false
set_option maxRecDepth 100000
namespace Go.Proofs.YtkcmbjodladflaaGreatDoor
open Go.Ab
theorem sGt {a b : ByteArray} : (!(sLt a b || decide (a = b))) = sLt b a := by
  by_cases h : a = b
  · subst h; simp [sLt_irrefl]
  · cases h1 : sLt a b with
    | false => rw [sLt_tri h1 h]; simp [h]
    | true =>
      cases h2 : sLt b a with
      | false => rfl
      | true => have := sLt_trans h1 h2; rw [sLt_irrefl] at this; cases this
theorem rNewer_c {a b : Ent} {σ : Store} : ACalls Tryz.prog 19 [sReg a, sReg b] σ fun v σ' => v = vB (newerS a b) ∧ σ = σ' := by
  refine ACalls_of Tryz.func19 rfl Tryz.ntmps19 (congrArg Array.toList Tryz.results19) (by simp only [List.length_cons, List.length_nil]; decide) ?_; simp only [envOf_cons, envOf_nil, Nat.reduceAdd]
  refine awp_seq ?_
  refine awp_region (by kernel_rfl) ?_
  refine aL_box rfl rfl rfl v_ rfl g_ fun o2 ho2 => ?_
  repeat (rw [none_set_iff] at ho2; obtain ⟨_, ho2⟩ := ho2)
  refine aL_box rfl rfl rfl v_ rfl g_ fun o3 ho3 => ?_
  repeat (rw [none_set_iff] at ho3; obtain ⟨_, ho3⟩ := ho3)
  (refine aL_S rfl rfl v_ ?_)
  refine aL_nil ?_
  refine awp_seq ?_
  refine awp_seq ?_
  refine awp_region (by kernel_rfl) ?_
  iterate 5 (refine aL_S rfl rfl v_ ?_)
  refine aL_nil ?_
  refine awp_cond v_ (fun hc1 => ?_) (fun hc1 => ?_)
  · replace hc1 := nm_ hc1
    refine awp_seq ?_
    refine awp_region (by kernel_rfl) ?_
    iterate 6 (refine aL_S rfl rfl v_ ?_)
    refine aL_nil ?_
    refine awp_ret ?_
    refine aEnd_ret (σ' := σ) v_ sub_ ?_
    exact ⟨by rw [newerS, if_pos hc1], rfl⟩
  · replace hc1 := nm_ hc1
    refine awp_skip ?_
    refine awp_seq ?_
    refine awp_seq ?_
    refine awp_region (by kernel_rfl) ?_
    iterate 5 (refine aL_S rfl rfl v_ ?_)
    refine aL_nil ?_
    refine awp_cond v_ (fun hc3 => ?_) (fun hc3 => ?_)
    · replace hc3 := nm_ hc3
      refine awp_seq ?_
      refine awp_region (by kernel_rfl) ?_
      iterate 6 (refine aL_S rfl rfl v_ ?_)
      refine aL_nil ?_
      refine awp_ret ?_
      refine aEnd_ret (σ' := σ) v_ sub_ ?_
      exact ⟨by rw [newerS, if_neg (by simpa using hc1), if_pos hc3, sGt], rfl⟩
    · replace hc3 := nm_ hc3
      refine awp_skip ?_
      refine awp_seq ?_
      refine awp_region (by kernel_rfl) ?_
      iterate 6 (refine aL_S rfl rfl v_ ?_)
      refine aL_nil ?_
      refine awp_ret ?_
      refine aEnd_ret (σ' := σ) v_ sub_ ?_
      exact ⟨by rw [newerS, if_neg (by simpa using hc1), if_neg (by simpa using hc3), sGt], rfl⟩
theorem rJoin09_c {a b : Ent} {σ : Store} : ACalls Tryz.prog 123 [sReg a, sReg b] σ fun v σ' => v = sReg (if newerS b a then b else a) ∧ σ = σ' := by
  refine ACalls_of Tryz.func123 rfl Tryz.ntmps123 (congrArg Array.toList Tryz.results123) (by simp only [List.length_cons, List.length_nil]; decide) ?_; simp only [envOf_cons, envOf_nil, Nat.reduceAdd]
  refine awp_seq ?_
  refine awp_region (by kernel_rfl) ?_
  refine aL_box rfl rfl rfl v_ rfl g_ fun o2 ho2 => ?_
  repeat (rw [none_set_iff] at ho2; obtain ⟨_, ho2⟩ := ho2)
  refine aL_box rfl rfl rfl v_ rfl g_ fun o3 ho3 => ?_
  repeat (rw [none_set_iff] at ho3; obtain ⟨_, ho3⟩ := ho3)
  refine aL_alloc rfl rfl rfl g_ gl_ fun o4 ho4 => ?_
  repeat (rw [none_set_iff] at ho4; obtain ⟨_, ho4⟩ := ho4)
  refine aL_nil ?_
  refine awp_seq ?_
  refine awp_seq ?_
  refine awp_region (by kernel_rfl) ?_
  iterate 2 (refine aL_S rfl rfl v_ ?_)
  refine aL_X rfl rfl (AOp_use rfl rfl (.inr ⟨rfl, rfl, rfl⟩) g_ va_ (rNewer_c) ?_); rintro _ _ ⟨rfl, rfl⟩
  refine aL_nil ?_
  refine awp_cond v_ (fun hc1 => ?_) (fun hc1 => ?_)
  · replace hc1 := nm_ hc1
    refine awp_seq ?_
    refine awp_region (by kernel_rfl) ?_
    (refine aL_S rfl rfl v_ ?_)
    refine aL_store rfl rfl rfl v_ v_ h_ g_ rfl g_ c_ (by rfl) le_ v_ ?_
    refine aL_nil ?_
    refine awp_ret ?_
    refine aEnd_ret (σ' := σ) v_ sub_ ?_
    exact ⟨by rw [if_pos hc1], rfl⟩
  · replace hc1 := nm_ hc1
    refine awp_skip ?_
    refine awp_seq ?_
    refine awp_region (by kernel_rfl) ?_
    (refine aL_S rfl rfl v_ ?_)
    refine aL_store rfl rfl rfl v_ v_ h_ g_ rfl g_ c_ (by rfl) le_ v_ ?_
    refine aL_nil ?_
    refine awp_ret ?_
    refine aEnd_ret (σ' := σ) v_ sub_ ?_
    exact ⟨by rw [if_neg (by simpa using hc1)], rfl⟩
theorem putS_at {y : Ent} : ∀ {l : List Ent} {k : Nat}, (∀ j x, j < k → l[j]? = some x → sLt x.key y.key = true) → (∀ x, l[k]? = some x → sLt x.key y.key = false) → k ≤ l.length → putS y l = match l[k]? with | some x => if x.key = y.key then l.take k ++ (if newerS y x then y else x) :: l.drop (k + 1) else l.take k ++ y :: l.drop k | none => l.take k ++ y :: l.drop k
  | [], k, _, _, hk => by
    obtain rfl : k = 0 := by simpa using hk
    simp [putS]
  | m :: l, 0, _, h2, _ => by
    have := h2 m rfl
    simp only [putS, this, List.getElem?_cons_zero, List.take_zero, List.drop_zero, List.nil_append, List.drop_succ_cons]
    simp
  | m :: l, k + 1, h1, h2, hk => by
    have hm := h1 0 m (by omega) rfl
    have ih := putS_at (y := y) (l := l) (k := k) (fun j x hj hx => h1 (j + 1) x (by omega) hx) (fun x hx => h2 x hx) (by simpa using hk)
    rw [putS, if_pos hm, ih]
    simp only [List.getElem?_cons_succ, List.take_succ_cons, List.drop_succ_cons, List.cons_append]
    split
    · split <;> rfl
    · rfl
theorem oneEnt (l : List Ent) : ∀ y ∈ l.map sEnt, ∀ c ∈ y.cells, c.one = true := fun y hy c hc => by
  obtain ⟨s, _, rfl⟩ := List.mem_map.1 hy
  simp [AVal.cells] at hc; rcases hc with rfl | rfl | rfl | rfl <;> rfl
theorem sEnt_join {x y : Ent} (h : x.key = y.key) : AVal.agg [vStr y.key, vInt (if newerS y x then y else x).n, vStr (if newerS y x then y else x).who, vStr (if newerS y x then y else x).value] = sEnt (if newerS y x then y else x) := by
  split
  · rfl
  · rw [← h]
set_option maxHeartbeats 2000000 in
theorem put_c {l : List Ent} {t : Bool} {y : Ent} {σ : Store} (hl : l.length ≤ 1000000) : ACalls Tryz.prog 65 [.sl 4 (l.map sEnt) t, sEnt y] σ fun v σ' => v = .sl 4 ((putS y l).map sEnt) false ∧ σ = σ' := by
  refine ACalls_of Tryz.func65 rfl Tryz.ntmps65 (congrArg Array.toList Tryz.results65) (by simp only [List.length_cons, List.length_nil]; decide) ?_; simp only [envOf_cons, envOf_nil, Nat.reduceAdd]
  refine awp_seq ?_
  refine awp_region (by kernel_rfl) ?_
  refine aL_box rfl rfl rfl v_ rfl g_ fun o3 ho3 => ?_
  repeat (rw [none_set_iff] at ho3; obtain ⟨_, ho3⟩ := ho3)
  (refine aL_S rfl rfl v_ ?_)
  refine aL_nil ?_
  refine awp_seq ?_
  refine awp_region (by kernel_rfl) ?_
  (refine aL_S rfl rfl v_ ?_)
  refine aL_nil ?_
  refine awp_seq ?_
  refine awp_block ?_
  refine awp_loop_env (ι := Nat) (fun k => l.length - k) (fun k => k ≤ l.length ∧ ∀ j x, j < k → l[j]? = some x → sLt x.key y.key = true) (fun k => [(0, .sl 4 (l.map sEnt) t), (3, .ref o3 0), (5, vInt k)]) (fun k => (σ.set o3 (.cells (sEnt y).cells))) 0 ?_ ?_ ?_ ?_
  · exact ⟨Nat.zero_le _, fun j x h => by omega⟩
  · exact cv_
  · exact Store.Wk.refl _
  rintro k ⟨hk, hal⟩
  simp only [envL_cons, envL_nil]
  refine awp_seq ?_
  refine awp_seq ?_
  obtain ⟨x, hx⟩ := get_if l k
  have R := hx
  refine awp_draw (.op 0 0 (.op 1 0 (.op 2 0 (.op 3 0 (.op 4 0 (.op 5 0 (.op 6 0 (.op 7 0 (.op 8 0 (.op 9 0 (.op 10 0 (.op 11 0 (.op 12 0 (.op 13 0 .nil)))))))))))))) Tryz.mixed (by kernel_rfl) ?_
  iterate 5 (refine dR_S o_ (by rfl) (by rfl) v_ ?_)
  refine dR_GT o_ (by rfl) (by rfl) v_ (by rfl) vg_ ?_
  refine dR_GT o_ (by rfl) (by rfl) v_ (by rfl) vg_ ?_
  refine dR_GT o_ (by rfl) (by rfl) v_ (by rfl) vg_ ?_
  refine dR_GT o_ (by rfl) (by rfl) v_ (by rfl) vg_ ?_
  refine dR_GT o_ (by rfl) (by rfl) v_ (by rfl) vg_ ?_
  refine dR_GT o_ (by rfl) (by rfl) v_ (by rfl) vg_ ?_
  refine dR_GT o_ (by rfl) (by rfl) v_ (by rfl) vg_ ?_
  refine dR_GT o_ (by rfl) (by rfl) v_ (by rfl) vg_ ?_
  (refine dR_S o_ (by rfl) (by rfl) v_ ?_)
  refine dR_nil ?_
  refine awp_cond v_ (fun hc2 => ?_) (fun hc2 => ?_)
  · replace hc2 := nm_ hc2
    refine awp_skip ?_
    refine awp_block ?_
    refine awp_region (by kernel_rfl) ?_
    iterate 3 (refine aL_S rfl rfl v_ ?_)
    refine aL_nil ?_
    refine aNext (ι := Nat) (i := k) (k + 1) ?_ ?_ ?_ ?_
    · omega
    · exact ⟨by omega, fun j z hj hz => by rcases Nat.lt_or_eq_of_le (Nat.le_of_lt_succ hj) with h | h; exact hal j z h hz; rw [h, hx (by omega)] at hz; obtain rfl := Option.some.inj hz; exact hc2.2⟩
    · exact cv_
    · exact sub_
  · replace hc2 := nm_ hc2
    refine awp_exit ?_
    refine aThen_exit ?_
    refine aThen_exit ?_
    refine aBlock_hit ?_
    refine awp_seq ?_
    skip
    have hat := putS_at (y := y) hal (fun z hz => by
      have h1 := (List.getElem?_eq_some_iff.1 hz).1
      rw [hx h1] at hz; obtain rfl := Option.some.inj hz
      rcases hc2 with h | h
      · omega
      · simpa using h) hk
    have m1 : (l.map sEnt).take k = (l.take k).map sEnt := List.map_take.symm
    have m2 : ((l.map sEnt).take l.length).drop k = (l.drop k).map sEnt := by rw [List.take_of_length_le (by simp), List.map_drop]
    have m3 : (l.map sEnt).drop k = (l.drop k).map sEnt := List.map_drop.symm
    refine awp_region (by kernel_rfl) ?_
    refine aL_nilOwn 45 4 rfl rfl rfl (by rfl) fun k6 hk6 => ?_
    refine aL_nil ?_
    refine awp_seq ?_
    have R := m1
    refine awp_region (by kernel_rfl) ?_
    iterate 4 (refine aL_S rfl rfl v_ ?_)
    refine aL_append rfl rfl rfl g_ g_ v_ h_ v_ (oneEnt _) (by simp; omega) fun k27 hk27 => ?_
    have t27 := (newTok_none hk27).2
    have u6 : σ.tok k6 = none := by simpa only [Store.set_tok] using hk6
    have u27 : σ.tok k27 = none := by simpa only [Store.set_tok] using t27
    (refine aL_S rfl rfl v_ ?_)
    refine aL_nil ?_
    refine awp_seq ?_
    refine awp_seq ?_
    have R := hx
    refine awp_draw (.op 0 0 (.op 1 0 (.op 2 0 (.op 3 0 (.op 4 0 (.op 5 0 (.op 6 0 (.op 7 0 (.op 8 0 (.op 9 0 (.op 10 0 (.op 11 0 (.op 12 0 (.op 13 0 .nil)))))))))))))) Tryz.mixed (by kernel_rfl) ?_
    iterate 5 (refine dR_S o_ (by rfl) (by rfl) v_ ?_)
    refine dR_GT o_ (by rfl) (by rfl) v_ (by rfl) vg_ ?_
    refine dR_GT o_ (by rfl) (by rfl) v_ (by rfl) vg_ ?_
    refine dR_GT o_ (by rfl) (by rfl) v_ (by rfl) vg_ ?_
    refine dR_GT o_ (by rfl) (by rfl) v_ (by rfl) vg_ ?_
    refine dR_GT o_ (by rfl) (by rfl) v_ (by rfl) vg_ ?_
    refine dR_GT o_ (by rfl) (by rfl) v_ (by rfl) vg_ ?_
    refine dR_GT o_ (by rfl) (by rfl) v_ (by rfl) vg_ ?_
    refine dR_GT o_ (by rfl) (by rfl) v_ (by rfl) vg_ ?_
    (refine dR_S o_ (by rfl) (by rfl) v_ ?_)
    refine dR_nil ?_
    refine awp_cond v_ (fun hc6 => ?_) (fun hc6 => ?_)
    · replace hc6 := nm_ hc6
      have hxk := hx (by omega)
      have hput : putS y l = l.take k ++ (if newerS y x then y else x) :: l.drop (k + 1) := by rw [hat, hxk]; simp only; rw [if_pos hc6.2]
      have hrow : (l.take k).map sEnt ++ [.agg [vStr y.key, vInt (if newerS y x then y else x).n, vStr (if newerS y x then y else x).who, vStr (if newerS y x then y else x).value]] ++ (l.drop (k + 1)).map sEnt = (putS y l).map sEnt := by rw [hput, sEnt_join hc6.2]; simp
      have m4 : ((l.map sEnt).take l.length).drop (k + 1) = (l.drop (k + 1)).map sEnt := by rw [List.take_of_length_le (by simp), List.map_drop]
      have m5 : (l.map sEnt).drop (k + 1) = (l.drop (k + 1)).map sEnt := List.map_drop.symm
      have m6 : ((k : Int) + 1).toNat = k + 1 := by omega
      refine awp_seq ?_
      have R := hxk
      refine awp_draw (.op 0 0 (.op 1 0 (.op 2 0 (.op 3 0 (.op 4 0 (.op 5 0 (.op 6 0 (.op 7 0 (.op 8 0 (.op 9 0 (.op 10 1 (.op 11 0 (.op 12 1 (.op 13 2 (.op 14 0 .nil))))))))))))))) Tryz.mixed (by kernel_rfl) ?_
      iterate 10 (refine dR_S o_ (by rfl) (by rfl) v_ ?_)
      refine dR_X o_ (by rfl) (by rfl) (AOp_use (by rfl) (by rfl) (.inr ⟨by rfl, by rfl, by rfl⟩) g_ va_ (rJoin09_c) ?_); rintro _ _ ⟨rfl, rfl⟩; refine ⟨sub_, ?_⟩
      (refine dR_S o_ (by rfl) (by rfl) v_ ?_)
      refine dR_X o_ (by rfl) (by rfl) (AOp_buildSlice' (by rfl) g_ g_ (by rfl) (by rfl) h_ c2_ (by decide) ⟨sub_, ?_⟩)
      refine dR_T o_ (by rfl) (by rfl) (AOp_appendS (by rfl) g_ g_ (.inl ⟨_, va_, h_, rfl⟩) (.inl ⟨⟨_, g_⟩, .inl v_, c_⟩) (by simp; omega) fun k55 hk55 => ?_)
      (refine dR_S o_ (by rfl) (by rfl) v_ ?_)
      refine dR_nil ?_
      rw [Store.newTok_step (by exact hk6)] at hk55
      have t55 := (newTok_none hk55).2
      have u55 : σ.tok k55 = none := by simpa only [Store.set_tok] using t55
      refine awp_seq ?_
      have R := And.intro m6 (And.intro m4 m5)
      refine awp_region (by kernel_rfl) ?_
      iterate 5 (refine aL_S rfl rfl v_ ?_)
      refine aL_append rfl rfl rfl g_ g_ v_ h_ v_ (oneEnt _) (by simp; omega) fun k61 hk61 => ?_
      rw [Store.newTok_step (by exact hk6), Store.newTok_step (by exact t27)] at hk61
      have t61 := (newTok_none hk61).2
      have u61 : σ.tok k61 = none := by simpa only [Store.set_tok] using t61
      (refine aL_S rfl rfl v_ ?_)
      refine aL_nil ?_
      refine awp_seq ?_
      refine awp_region (by kernel_rfl) ?_
      iterate 2 (refine aL_S rfl rfl v_ ?_)
      refine aL_nil ?_
      refine awp_ret ?_
      exact aEnd_retW (v := .sl 4 ((putS y l).map sEnt) false) (v' := .own k61 4 ((putS y l).map sEnt)) (by rw [← hrow]; first | exact va_ | exact vb_) (.own1 _ _ _) sub_ ⟨rfl, rfl⟩
    · replace hc6 := nm_ hc6
      skip
      have hput : putS y l = l.take k ++ y :: l.drop k := by
        rw [hat]
        cases hg : l[k]? with
        | none => rfl
        | some z =>
          have h1 := (List.getElem?_eq_some_iff.1 hg).1
          rw [hx h1] at hg; obtain rfl := Option.some.inj hg
          simp only
          rw [if_neg (by rcases hc6 with h | h; omega; exact h)]
      have hrow : (l.take k).map sEnt ++ [sEnt y] ++ (l.drop k).map sEnt = (putS y l).map sEnt := by rw [hput]; simp
      refine awp_skip ?_
      refine awp_seq ?_
      refine awp_region (by kernel_rfl) ?_
      iterate 2 (refine aL_S rfl rfl v_ ?_)
      refine aL_buildSlice rfl rfl rfl g_ g_ rfl rfl h_ c2_ (by decide) ?_
      refine aL_append rfl rfl rfl g_ g_ v_ h_ v_ c_ (by simp; omega) fun k66 hk66 => ?_
      (refine aL_S rfl rfl v_ ?_)
      refine aL_nil ?_
      rw [Store.newTok_step (by exact hk6)] at hk66
      have t66 := (newTok_none hk66).2
      have u66 : σ.tok k66 = none := by simpa only [Store.set_tok] using t66
      refine awp_seq ?_
      have R := And.intro m2 m3
      refine awp_region (by kernel_rfl) ?_
      iterate 4 (refine aL_S rfl rfl v_ ?_)
      refine aL_append rfl rfl rfl g_ g_ v_ h_ v_ (oneEnt _) (by simp; omega) fun k71 hk71 => ?_
      rw [Store.newTok_step (by exact hk6), Store.newTok_step (by exact t27)] at hk71
      have t71 := (newTok_none hk71).2
      have u71 : σ.tok k71 = none := by simpa only [Store.set_tok] using t71
      (refine aL_S rfl rfl v_ ?_)
      refine aL_nil ?_
      refine awp_seq ?_
      refine awp_region (by kernel_rfl) ?_
      iterate 2 (refine aL_S rfl rfl v_ ?_)
      refine aL_nil ?_
      refine awp_ret ?_
      exact aEnd_retW (v := .sl 4 ((putS y l).map sEnt) false) (v' := .own k71 4 ((putS y l).map sEnt)) (by rw [← hrow]; first | exact va_ | exact vb_) (.own1 _ _ _) sub_ ⟨rfl, rfl⟩
def putE (l : List Ent) (y : Ent) : List Ent × Int := if !entsOk l || !entOk y then ([], 1) else if 4096 < (putS y l).length then ([], 4) else (putS y l, 0)
theorem rPut_c {l : List Ent} {t : Bool} {y : Ent} {σ : Store} (hl : l.length ≤ 100000) (hs : ∀ x ∈ l, EntSm x) (hy : EntSm y) : ACalls Tryz.prog 21 [.sl 4 (l.map sEnt) t, sEnt y] σ fun v σ' => v = .tup [.sl 4 ((putE l y).1.map sEnt) false, vInt (putE l y).2] ∧ σ = σ' := by
  have hpl := putS_len y l
  refine ACalls_of Tryz.func21 rfl Tryz.ntmps21 (congrArg Array.toList Tryz.results21) (by simp only [List.length_cons, List.length_nil]; decide) ?_; simp only [envOf_cons, envOf_nil, Nat.reduceAdd]
  refine awp_seq ?_
  refine awp_region (by kernel_rfl) ?_
  refine aL_box rfl rfl rfl v_ rfl g_ fun o3 ho3 => ?_
  repeat (rw [none_set_iff] at ho3; obtain ⟨_, ho3⟩ := ho3)
  iterate 2 (refine aL_S rfl rfl v_ ?_)
  refine aL_nil ?_
  refine awp_seq ?_
  refine awp_seq ?_
  refine awp_region (by kernel_rfl) ?_
  (refine aL_S rfl rfl v_ ?_)
  refine aL_X rfl rfl (AOp_use rfl rfl (.inr ⟨rfl, rfl, rfl⟩) g_ va_ (rMay10_c hs (by omega)) ?_); rintro _ _ ⟨rfl, rfl⟩
  iterate 2 (refine aL_S rfl rfl v_ ?_)
  refine aL_GF rfl rfl v_ rfl vg_ ?_
  refine aL_GFX rfl rfl v_ rfl (fun hb => AOp_useV (by rfl) (by rfl) (.inr ⟨by rfl, by rfl, by rfl⟩) g_ cg_ (rIsEntry_c hy)) ?_
  refine aL_GF rfl rfl v_ rfl vg_ ?_
  (refine aL_S rfl rfl v_ ?_)
  refine aL_nil ?_
  refine awp_cond v_ (fun hc1 => ?_) (fun hc1 => ?_)
  · replace hc1 := nm_ hc1
    have he : putE l y = ([], 1) := by rw [putE, if_pos (by rcases hc1 with h | h <;> simp [h])]
    refine awp_seq ?_
    refine awp_region (by kernel_rfl) ?_
    iterate 2 (refine aL_S rfl rfl v_ ?_)
    refine aL_nil ?_
    refine awp_ret ?_
    exact aEnd_retW (v := .tup [.sl 4 [] false, vInt 1]) (v' := .tup [vNil, vInt 1]) va_ (.tup _ _ rfl fun i h h' => by match i, h with | 0, _ => exact .nil _ _ | 1, _ => exact .refl _) sub_ ⟨by rw [he]; rfl, rfl⟩
  · replace hc1 := nm_ hc1
    have he : putE l y = if 4096 < (putS y l).length then ([], 4) else (putS y l, 0) := by rw [putE, if_neg (by simp [hc1.1, hc1.2])]
    refine awp_skip ?_
    refine awp_seq ?_
    refine awp_region (by kernel_rfl) ?_
    iterate 2 (refine aL_S rfl rfl v_ ?_)
    refine aL_X rfl rfl (AOp_use rfl rfl (.inr ⟨rfl, rfl, rfl⟩) g_ va_ (put_c (by omega)) ?_); rintro _ _ ⟨rfl, rfl⟩
    (refine aL_S rfl rfl v_ ?_)
    refine aL_nil ?_
    refine awp_seq ?_
    refine awp_seq ?_
    refine awp_region (by kernel_rfl) ?_
    iterate 3 (refine aL_S rfl rfl v_ ?_)
    refine aL_nil ?_
    refine awp_cond v_ (fun hc4 => ?_) (fun hc4 => ?_)
    · replace hc4 := nm_ hc4
      refine awp_seq ?_
      refine awp_region (by kernel_rfl) ?_
      iterate 2 (refine aL_S rfl rfl v_ ?_)
      refine aL_nil ?_
      refine awp_ret ?_
      exact aEnd_retW (v := .tup [.sl 4 [] false, vInt 4]) (v' := .tup [vNil, vInt 4]) va_ (.tup _ _ rfl fun i h h' => by match i, h with | 0, _ => exact .nil _ _ | 1, _ => exact .refl _) sub_ ⟨by rw [he, if_pos (by omega)]; rfl, rfl⟩
    · replace hc4 := nm_ hc4
      refine awp_skip ?_
      refine awp_seq ?_
      refine awp_region (by kernel_rfl) ?_
      iterate 3 (refine aL_S rfl rfl v_ ?_)
      refine aL_nil ?_
      refine awp_ret ?_
      refine aEnd_ret (σ' := σ) v_ sub_ ?_
      exact ⟨by rw [he, if_neg (by omega)], rfl⟩
end Go.Proofs.YtkcmbjodladflaaGreatDoor
end
