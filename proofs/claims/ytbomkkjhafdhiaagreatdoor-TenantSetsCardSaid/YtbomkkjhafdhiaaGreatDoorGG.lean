/-
  Tenants: what is said of one, and the entries that say it. Both sides; What is said of a tenant; all tenants. Both sides; Rows that grow while other objects come and go (no deeds); All tenants. Both sides; What must come of tenants, whatever the arguments are; TenantOf, TenantSets: the walks. Own work (an AI agent).
-/
import Derived.Test.YtbomkkjhafdhiaaGreatDoorGF
import Derived.Test.YtbomkkjhafdhiaaGreatDoorGE
import Derived.Test.YtbomkkjhafdhiaaGreatDoorGD

section
set_option linter.all false
set_option maxRecDepth 100000
namespace Go.Proofs.YtbomkkjhafdhiaaGreatDoor
open Go.Ab
theorem path_c {l : List ByteArray} {t : Bool} {σ : Store} (hL : l.length ≤ 1000000) (hT : (l.flatMap Lb).length ≤ 1000000) : ACalls Tryz.prog 41 [.sl 1 (l.map vStr) t] σ fun v σ' => v = vStr (pathS l) ∧ σ = σ' := by
  refine ACalls_of Tryz.func41 rfl Tryz.ntmps41 (congrArg Array.toList Tryz.results41) (by simp only [List.length_cons, List.length_nil]; decide) ?_; simp only [envOf_cons, envOf_nil, Nat.reduceAdd]
  refine awp_seq ?_
  refine awp_region (by kernel_rfl) ?_
  (refine aL_S rfl rfl v_ ?_)
  refine aL_nil ?_
  refine awp_seq ?_
  refine awp_region (by kernel_rfl) ?_
  (refine aL_S rfl rfl v_ ?_)
  refine aL_X rfl rfl (AOp_use rfl rfl (.inr ⟨rfl, rfl, rfl⟩) g_ va_ (joinP_c hL hT) ?_); rintro _ _ ⟨rfl, rfl⟩
  (refine aL_S rfl rfl v_ ?_)
  refine aL_nil ?_
  refine awp_ret ?_
  refine aEnd_ret (σ' := σ) v_ sub_ ?_
  exact ⟨rfl, rfl⟩
theorem key_c {a f : ByteArray} {σ : Store} (ha : a.size ≤ 400000) (hf : f.size ≤ 400000) : ACalls Tryz.prog 14 [vStr a, vStr f] σ fun v σ' => v = vStr (keyS a f) ∧ σ = σ' := by
  refine ACalls_of Tryz.func14 rfl Tryz.ntmps14 (congrArg Array.toList Tryz.results14) (by simp only [List.length_cons, List.length_nil]; decide) ?_; simp only [envOf_cons, envOf_nil, Nat.reduceAdd]
  refine awp_seq ?_
  refine awp_region (by kernel_rfl) ?_
  (refine aL_S rfl rfl v_ ?_)
  refine aL_nil ?_
  refine awp_seq ?_
  refine awp_region (by kernel_rfl) ?_
  iterate 2 (refine aL_S rfl rfl v_ ?_)
  refine aL_buildSlice rfl rfl rfl g_ g_ rfl rfl h_ c2_ (by decide) ?_
  refine aL_X rfl rfl (AOp_use rfl rfl (.inr ⟨rfl, rfl, rfl⟩) g_ va_ (path_c (l := [bsTenant, a, f]) (by simp) (by simp [Lb_length, show (Lb bsTenant).length = 6 from rfl]; omega)) ?_); rintro _ _ ⟨rfl, rfl⟩
  (refine aL_S rfl rfl v_ ?_)
  refine aL_nil ?_
  refine awp_ret ?_
  refine aEnd_ret (σ' := σ) v_ sub_ ?_
  exact ⟨rfl, rfl⟩
theorem rKey_eq (a f : ByteArray) : (⟨#[116, 101, 110, 97, 110, 116, 47]⟩ ++ a) ++ ⟨#[47]⟩ ++ f = keyS a f := by
  apply Lb_inj
  rw [keyS_Lb, Lb_append, Lb_append, Lb_append]
  simp [Lb, bsTenant]
theorem rKey_c {a f : ByteArray} {σ : Store} (ha : a.size ≤ 400000) (hf : f.size ≤ 400000) : ACalls Tryz.prog 15 [vStr a, vStr f] σ fun v σ' => v = vStr (keyS a f) ∧ σ = σ' := by
  have e1 := astr_add' (⟨#[116, 101, 110, 97, 110, 116, 47]⟩) a (by rw [show (ByteArray.mk #[116, 101, 110, 97, 110, 116, 47]).size = 7 from rfl]; omega)
  have e2 := astr_add' (⟨#[116, 101, 110, 97, 110, 116, 47]⟩ ++ a) ⟨#[47]⟩ (by rw [ByteArray.size_append, show (ByteArray.mk #[116, 101, 110, 97, 110, 116, 47]).size = 7 from rfl, show (ByteArray.mk #[47]).size = 1 from rfl]; omega)
  have e3 := astr_add' ((⟨#[116, 101, 110, 97, 110, 116, 47]⟩ ++ a) ++ ⟨#[47]⟩) f (by rw [ByteArray.size_append, ByteArray.size_append, show (ByteArray.mk #[116, 101, 110, 97, 110, 116, 47]).size = 7 from rfl, show (ByteArray.mk #[47]).size = 1 from rfl]; omega)
  refine ACalls_of Tryz.func15 rfl Tryz.ntmps15 (congrArg Array.toList Tryz.results15) (by simp only [List.length_cons, List.length_nil]; decide) ?_; simp only [envOf_cons, envOf_nil, Nat.reduceAdd]
  refine awp_seq ?_
  refine awp_region (by kernel_rfl) ?_
  (refine aL_S rfl rfl v_ ?_)
  refine aL_nil ?_
  refine awp_seq ?_
  have R := And.intro e1 (And.intro e2 e3)
  refine awp_region (by kernel_rfl) ?_
  iterate 6 (refine aL_S rfl rfl v_ ?_)
  refine aL_nil ?_
  refine awp_ret ?_
  refine aEnd_ret (σ' := σ) v_ sub_ ?_
  exact ⟨by rw [rKey_eq], rfl⟩
theorem isSecret_c {s : ByteArray} {σ : Store} : ACalls Tryz.prog 33 [vStr s] σ fun v σ' => v = vB (secOk s) ∧ σ = σ' := by
  have h0 := ne0 s
  refine ACalls_of Tryz.func33 rfl Tryz.ntmps33 (congrArg Array.toList Tryz.results33) (by simp only [List.length_cons, List.length_nil]; decide) ?_; simp only [envOf_cons, envOf_nil, Nat.reduceAdd]
  refine awp_seq ?_
  refine awp_region (by kernel_rfl) ?_
  (refine aL_S rfl rfl v_ ?_)
  refine aL_nil ?_
  refine awp_seq ?_
  have R := h0
  refine awp_region (by kernel_rfl) ?_
  iterate 3 (refine aL_S rfl rfl v_ ?_)
  refine aL_GT rfl rfl v_ rfl vg_ ?_
  refine aL_GT rfl rfl v_ rfl vg_ ?_
  refine aL_GT rfl rfl v_ rfl vg_ ?_
  iterate 2 (refine aL_S rfl rfl v_ ?_)
  refine aL_nil ?_
  refine awp_ret ?_
  refine aEnd_ret (σ' := σ) v_ sub_ ?_
  refine ⟨?_, rfl⟩
  unfold secOk
  by_cases h1 : s.size = 0 <;> by_cases h2 : s.size ≤ 64 <;> simp [h1, h2, h0] <;> omega
theorem rIsSecret_c {s : ByteArray} {σ : Store} : ACalls Tryz.prog 35 [vStr s] σ fun v σ' => v = vB (secOk s) ∧ σ = σ' := by
  refine ACalls_of Tryz.func35 rfl Tryz.ntmps35 (congrArg Array.toList Tryz.results35) (by simp only [List.length_cons, List.length_nil]; decide) ?_; simp only [envOf_cons, envOf_nil, Nat.reduceAdd]
  refine awp_seq ?_
  refine awp_region (by kernel_rfl) ?_
  (refine aL_S rfl rfl v_ ?_)
  refine aL_nil ?_
  refine awp_seq ?_
  refine awp_region (by kernel_rfl) ?_
  iterate 4 (refine aL_S rfl rfl v_ ?_)
  refine aL_GT rfl rfl v_ rfl vg_ ?_
  refine aL_GT rfl rfl v_ rfl vg_ ?_
  refine aL_GT rfl rfl v_ rfl vg_ ?_
  iterate 2 (refine aL_S rfl rfl v_ ?_)
  refine aL_nil ?_
  refine awp_ret ?_
  refine aEnd_ret (σ' := σ) v_ sub_ ?_
  refine ⟨?_, rfl⟩
  unfold secOk
  by_cases h1 : 1 ≤ s.size <;> by_cases h2 : s.size ≤ 64 <;> simp [h1, h2] <;> omega
theorem bounds_c {f : ByteArray} {σ : Store} : ACalls Tryz.prog 30 [vStr f] σ fun v σ' => v = .tup [.agg [vInt (bndS f).1, vInt (bndS f).2.1], vB (bndS f).2.2] ∧ σ = σ' := by
  refine ACalls_of Tryz.func30 rfl Tryz.ntmps30 (congrArg Array.toList Tryz.results30) (by simp only [List.length_cons, List.length_nil]; decide) ?_; simp only [envOf_cons, envOf_nil, Nat.reduceAdd]
  refine awp_seq ?_
  refine awp_region (by kernel_rfl) ?_
  refine aL_alloc rfl rfl rfl g_ gl_ fun o2 ho2 => ?_
  repeat (rw [none_set_iff] at ho2; obtain ⟨_, ho2⟩ := ho2)
  (refine aL_S rfl rfl v_ ?_)
  refine aL_nil ?_
  refine awp_seq ?_
  refine awp_seq ?_
  refine awp_region (by kernel_rfl) ?_
  (refine aL_S rfl rfl v_ ?_)
  refine aL_nil ?_
  refine awp_block ?_
  refine awp_seq ?_
  refine awp_region (by kernel_rfl) ?_
  iterate 2 (refine aL_S rfl rfl v_ ?_)
  refine aL_nil ?_
  refine awp_cond v_ (fun hc2 => ?_) (fun hc2 => ?_)
  · replace hc2 := nm_ hc2
    refine awp_seq ?_
    refine awp_region (by kernel_rfl) ?_
    (refine aL_S rfl rfl v_ ?_)
    refine aL_store rfl rfl rfl v_ v_ h_ g_ rfl g_ c_ (by rfl) le_ v_ ?_
    (refine aL_S rfl rfl v_ ?_)
    refine aL_nil ?_
    refine awp_ret ?_
    refine aEnd_ret (σ' := σ) v_ sub_ ?_
    exact ⟨by rw [bndS, if_pos (show f = bsBytes from hc2)], rfl⟩
  · replace hc2 := nm_ hc2
    refine awp_seq ?_
    refine awp_region (by kernel_rfl) ?_
    iterate 2 (refine aL_S rfl rfl v_ ?_)
    refine aL_nil ?_
    refine awp_cond v_ (fun hc4 => ?_) (fun hc4 => ?_)
    · replace hc4 := nm_ hc4
      refine awp_seq ?_
      refine awp_region (by kernel_rfl) ?_
      (refine aL_S rfl rfl v_ ?_)
      refine aL_store rfl rfl rfl v_ v_ h_ g_ rfl g_ c_ (by rfl) le_ v_ ?_
      (refine aL_S rfl rfl v_ ?_)
      refine aL_nil ?_
      refine awp_ret ?_
      refine aEnd_ret (σ' := σ) v_ sub_ ?_
      exact ⟨by rw [bndS, if_neg (show ¬ f = bsBytes from hc2), if_pos (show f = bsRate from hc4)], rfl⟩
    · replace hc4 := nm_ hc4
      refine awp_seq ?_
      refine awp_region (by kernel_rfl) ?_
      iterate 2 (refine aL_S rfl rfl v_ ?_)
      refine aL_nil ?_
      refine awp_cond v_ (fun hc6 => ?_) (fun hc6 => ?_)
      · replace hc6 := nm_ hc6
        refine awp_seq ?_
        refine awp_region (by kernel_rfl) ?_
        (refine aL_S rfl rfl v_ ?_)
        refine aL_store rfl rfl rfl v_ v_ h_ g_ rfl g_ c_ (by rfl) le_ v_ ?_
        (refine aL_S rfl rfl v_ ?_)
        refine aL_nil ?_
        refine awp_ret ?_
        refine aEnd_ret (σ' := σ) v_ sub_ ?_
        exact ⟨by rw [bndS, if_neg (show ¬ f = bsBytes from hc2), if_neg (show ¬ f = bsRate from hc4), if_pos (show f = bsBurst from hc6)], rfl⟩
      · replace hc6 := nm_ hc6
        refine awp_seq ?_
        refine awp_region (by kernel_rfl) ?_
        iterate 2 (refine aL_S rfl rfl v_ ?_)
        refine aL_nil ?_
        refine awp_cond v_ (fun hc8 => ?_) (fun hc8 => ?_)
        · replace hc8 := nm_ hc8
          refine awp_seq ?_
          refine awp_region (by kernel_rfl) ?_
          (refine aL_S rfl rfl v_ ?_)
          refine aL_store rfl rfl rfl v_ v_ h_ g_ rfl g_ c_ (by rfl) le_ v_ ?_
          (refine aL_S rfl rfl v_ ?_)
          refine aL_nil ?_
          refine awp_ret ?_
          refine aEnd_ret (σ' := σ) v_ sub_ ?_
          exact ⟨by rw [bndS, if_neg (show ¬ f = bsBytes from hc2), if_neg (show ¬ f = bsRate from hc4), if_neg (show ¬ f = bsBurst from hc6), if_pos (show f = bsQueue from hc8)], rfl⟩
        · replace hc8 := nm_ hc8
          refine awp_skip ?_
          refine awp_seq ?_
          refine awp_region (by kernel_rfl) ?_
          (refine aL_S rfl rfl v_ ?_)
          refine aL_store rfl rfl rfl v_ v_ h_ g_ rfl g_ c_ (by rfl) le_ v_ ?_
          (refine aL_S rfl rfl v_ ?_)
          refine aL_nil ?_
          refine awp_ret ?_
          refine aEnd_ret (σ' := σ) v_ sub_ ?_
          exact ⟨by rw [bndS, if_neg (show ¬ f = bsBytes from hc2), if_neg (show ¬ f = bsRate from hc4), if_neg (show ¬ f = bsBurst from hc6), if_neg (show ¬ f = bsQueue from hc8)], rfl⟩
theorem rBounds_c {f : ByteArray} {σ : Store} : ACalls Tryz.prog 45 [vStr f] σ fun v σ' => v = .tup [vInt (if (bndS f).2.2 then (bndS f).1 else -1), vInt (bndS f).2.1] ∧ σ = σ' := by
  refine ACalls_of Tryz.func45 rfl Tryz.ntmps45 (congrArg Array.toList Tryz.results45) (by simp only [List.length_cons, List.length_nil]; decide) ?_; simp only [envOf_cons, envOf_nil, Nat.reduceAdd]
  refine awp_seq ?_
  refine awp_region (by kernel_rfl) ?_
  iterate 2 (refine aL_S rfl rfl v_ ?_)
  refine aL_nil ?_
  refine awp_seq ?_
  refine awp_seq ?_
  refine awp_region (by kernel_rfl) ?_
  (refine aL_S rfl rfl v_ ?_)
  refine aL_nil ?_
  refine awp_block ?_
  refine awp_seq ?_
  refine awp_region (by kernel_rfl) ?_
  iterate 2 (refine aL_S rfl rfl v_ ?_)
  refine aL_nil ?_
  refine awp_cond v_ (fun hc2 => ?_) (fun hc2 => ?_)
  · replace hc2 := nm_ hc2
    refine awp_seq ?_
    refine awp_region (by kernel_rfl) ?_
    iterate 2 (refine aL_S rfl rfl v_ ?_)
    refine aL_nil ?_
    refine awp_ret ?_
    refine aEnd_ret (σ' := σ) v_ sub_ ?_
    exact ⟨by rw [bndS, if_pos (show f = bsBytes from hc2)]; rfl, rfl⟩
  · replace hc2 := nm_ hc2
    refine awp_seq ?_
    refine awp_region (by kernel_rfl) ?_
    iterate 2 (refine aL_S rfl rfl v_ ?_)
    refine aL_nil ?_
    refine awp_cond v_ (fun hc4 => ?_) (fun hc4 => ?_)
    · replace hc4 := nm_ hc4
      refine awp_seq ?_
      refine awp_region (by kernel_rfl) ?_
      iterate 2 (refine aL_S rfl rfl v_ ?_)
      refine aL_nil ?_
      refine awp_ret ?_
      refine aEnd_ret (σ' := σ) v_ sub_ ?_
      exact ⟨by rw [bndS, if_neg (show ¬ f = bsBytes from hc2), if_pos (show f = bsRate from hc4)]; rfl, rfl⟩
    · replace hc4 := nm_ hc4
      refine awp_seq ?_
      refine awp_region (by kernel_rfl) ?_
      iterate 2 (refine aL_S rfl rfl v_ ?_)
      refine aL_nil ?_
      refine awp_cond v_ (fun hc6 => ?_) (fun hc6 => ?_)
      · replace hc6 := nm_ hc6
        refine awp_seq ?_
        refine awp_region (by kernel_rfl) ?_
        iterate 2 (refine aL_S rfl rfl v_ ?_)
        refine aL_nil ?_
        refine awp_ret ?_
        refine aEnd_ret (σ' := σ) v_ sub_ ?_
        exact ⟨by rw [bndS, if_neg (show ¬ f = bsBytes from hc2), if_neg (show ¬ f = bsRate from hc4), if_pos (show f = bsBurst from hc6)]; rfl, rfl⟩
      · replace hc6 := nm_ hc6
        refine awp_seq ?_
        refine awp_region (by kernel_rfl) ?_
        iterate 2 (refine aL_S rfl rfl v_ ?_)
        refine aL_nil ?_
        refine awp_cond v_ (fun hc8 => ?_) (fun hc8 => ?_)
        · replace hc8 := nm_ hc8
          refine awp_seq ?_
          refine awp_region (by kernel_rfl) ?_
          iterate 2 (refine aL_S rfl rfl v_ ?_)
          refine aL_nil ?_
          refine awp_ret ?_
          refine aEnd_ret (σ' := σ) v_ sub_ ?_
          exact ⟨by rw [bndS, if_neg (show ¬ f = bsBytes from hc2), if_neg (show ¬ f = bsRate from hc4), if_neg (show ¬ f = bsBurst from hc6), if_pos (show f = bsQueue from hc8)]; rfl, rfl⟩
        · replace hc8 := nm_ hc8
          refine awp_skip ?_
          refine awp_seq ?_
          refine awp_region (by kernel_rfl) ?_
          iterate 2 (refine aL_S rfl rfl v_ ?_)
          refine aL_nil ?_
          refine awp_ret ?_
          refine aEnd_ret (σ' := σ) v_ sub_ ?_
          exact ⟨by rw [bndS, if_neg (show ¬ f = bsBytes from hc2), if_neg (show ¬ f = bsRate from hc4), if_neg (show ¬ f = bsBurst from hc6), if_neg (show ¬ f = bsQueue from hc8)]; rfl, rfl⟩
/-! ### entries -/
theorem secret_c {l : List Ent} {t : Bool} {who a s : ByteArray} {σ : Store} (hs : ∀ x ∈ l, EntSm x) (hl : l.length ≤ 1000000) (h2 : who.size ≤ 1000000) (h3 : a.size ≤ 400000) : ACalls Tryz.prog 16 [.sl 4 (l.map sEnt) t, vStr who, vStr a, vStr s] σ fun r σ' => r = .tup [sEnt (secS l who a s).1, vInt (secS l who a s).2] ∧ σ = σ' := by
  refine ACalls_of Tryz.func16 rfl Tryz.ntmps16 (congrArg Array.toList Tryz.results16) (by simp only [List.length_cons, List.length_nil]; decide) ?_; simp only [envOf_cons, envOf_nil, Nat.reduceAdd]
  refine awp_seq ?_
  refine awp_region (by kernel_rfl) ?_
  refine aL_alloc rfl rfl rfl g_ gl_ fun o8 ho8 => ?_
  repeat (rw [none_set_iff] at ho8; obtain ⟨_, ho8⟩ := ho8)
  (refine aL_S rfl rfl v_ ?_)
  refine aL_nil ?_
  refine awp_seq ?_
  refine awp_seq ?_
  refine awp_region (by kernel_rfl) ?_
  (refine aL_S rfl rfl v_ ?_)
  refine aL_X rfl rfl (AOp_use rfl rfl (.inr ⟨rfl, rfl, rfl⟩) g_ va_ (nameIs_c (by omega)) ?_); rintro _ _ ⟨rfl, rfl⟩
  iterate 2 (refine aL_S rfl rfl v_ ?_)
  refine aL_GF rfl rfl v_ rfl vg_ ?_
  refine aL_GFX rfl rfl v_ rfl (fun hb => AOp_useV (by rfl) (by rfl) (.inr ⟨by rfl, by rfl, by rfl⟩) g_ cg_ (isSecret_c)) ?_
  refine aL_GF rfl rfl v_ rfl vg_ ?_
  (refine aL_S rfl rfl v_ ?_)
  refine aL_nil ?_
  refine awp_cond v_ (fun hc1 => ?_) (fun hc1 => ?_)
  · replace hc1 := nm_ hc1
    refine awp_seq ?_
    refine awp_region (by kernel_rfl) ?_
    (refine aL_S rfl rfl v_ ?_)
    refine aL_store rfl rfl rfl v_ v_ h_ g_ rfl g_ c_ (by rfl) le_ v_ ?_
    (refine aL_S rfl rfl v_ ?_)
    refine aL_nil ?_
    refine awp_ret ?_
    refine aEnd_ret (σ' := σ) v_ sub_ ?_
    exact ⟨by rw [secS, if_pos (by rcases hc1 with h | h <;> simp [h])]; rfl, rfl⟩
  · replace hc1 := nm_ hc1
    refine awp_skip ?_
    refine awp_seq ?_
    refine awp_region (by kernel_rfl) ?_
    iterate 3 (refine aL_S rfl rfl v_ ?_)
    refine aL_X rfl rfl (AOp_use rfl rfl (.inr ⟨rfl, rfl, rfl⟩) g_ va_ (key_c (f := bsSecret) (by omega) (by decide)) ?_); rintro _ _ ⟨rfl, rfl⟩
    (refine aL_S rfl rfl v_ ?_)
    refine aL_X rfl rfl (AOp_use rfl rfl (.inr ⟨rfl, rfl, rfl⟩) g_ va_ (set_c hs hl h2) ?_); rintro _ _ ⟨rfl, rfl⟩
    iterate 2 (refine aL_S rfl rfl v_ ?_)
    refine aL_store rfl rfl rfl v_ v_ h_ g_ rfl g_ c_ (by rfl) le_ v_ ?_
    (refine aL_S rfl rfl v_ ?_)
    refine aL_nil ?_
    refine awp_ret ?_
    refine aEnd_ret (σ' := σ) v_ sub_ ?_
    exact ⟨by rw [secS, if_neg (by simp [hc1.1, hc1.2])], rfl⟩
theorem rSecret_c {l : List Ent} {t : Bool} {who a s : ByteArray} {σ : Store} (hs : ∀ x ∈ l, EntSm x) (hl : l.length ≤ 1000000) (h2 : who.size ≤ 1000000) (h3 : a.size ≤ 400000) : ACalls Tryz.prog 17 [.sl 4 (l.map sEnt) t, vStr who, vStr a, vStr s] σ fun r σ' => r = .tup [sEnt (secS l who a s).1, vInt (secS l who a s).2] ∧ σ = σ' := by
  refine ACalls_of Tryz.func17 rfl Tryz.ntmps17 (congrArg Array.toList Tryz.results17) (by simp only [List.length_cons, List.length_nil]; decide) ?_; simp only [envOf_cons, envOf_nil, Nat.reduceAdd]
  refine awp_seq ?_
  refine awp_region (by kernel_rfl) ?_
  refine aL_alloc rfl rfl rfl g_ gl_ fun o8 ho8 => ?_
  repeat (rw [none_set_iff] at ho8; obtain ⟨_, ho8⟩ := ho8)
  (refine aL_S rfl rfl v_ ?_)
  refine aL_nil ?_
  refine awp_seq ?_
  refine awp_seq ?_
  refine awp_region (by kernel_rfl) ?_
  (refine aL_S rfl rfl v_ ?_)
  refine aL_X rfl rfl (AOp_use rfl rfl (.inr ⟨rfl, rfl, rfl⟩) g_ va_ (rIs_c (by omega)) ?_); rintro _ _ ⟨rfl, rfl⟩
  iterate 2 (refine aL_S rfl rfl v_ ?_)
  refine aL_GF rfl rfl v_ rfl vg_ ?_
  refine aL_GFX rfl rfl v_ rfl (fun hb => AOp_useV (by rfl) (by rfl) (.inr ⟨by rfl, by rfl, by rfl⟩) g_ cg_ (rIsSecret_c)) ?_
  refine aL_GF rfl rfl v_ rfl vg_ ?_
  (refine aL_S rfl rfl v_ ?_)
  refine aL_nil ?_
  refine awp_cond v_ (fun hc1 => ?_) (fun hc1 => ?_)
  · replace hc1 := nm_ hc1
    refine awp_seq ?_
    refine awp_region (by kernel_rfl) ?_
    (refine aL_S rfl rfl v_ ?_)
    refine aL_store rfl rfl rfl v_ v_ h_ g_ rfl g_ c_ (by rfl) le_ v_ ?_
    (refine aL_S rfl rfl v_ ?_)
    refine aL_nil ?_
    refine awp_ret ?_
    refine aEnd_ret (σ' := σ) v_ sub_ ?_
    exact ⟨by rw [secS, if_pos (by rcases hc1 with h | h <;> simp [h])]; rfl, rfl⟩
  · replace hc1 := nm_ hc1
    refine awp_skip ?_
    refine awp_seq ?_
    refine awp_region (by kernel_rfl) ?_
    iterate 3 (refine aL_S rfl rfl v_ ?_)
    refine aL_X rfl rfl (AOp_use rfl rfl (.inr ⟨rfl, rfl, rfl⟩) g_ va_ (rKey_c (f := bsSecret) (by omega) (by decide)) ?_); rintro _ _ ⟨rfl, rfl⟩
    (refine aL_S rfl rfl v_ ?_)
    refine aL_X rfl rfl (AOp_use rfl rfl (.inr ⟨rfl, rfl, rfl⟩) g_ va_ (rSet_c hs hl h2) ?_); rintro _ _ ⟨rfl, rfl⟩
    iterate 2 (refine aL_S rfl rfl v_ ?_)
    refine aL_store rfl rfl rfl v_ v_ h_ g_ rfl g_ c_ (by rfl) le_ v_ ?_
    (refine aL_S rfl rfl v_ ?_)
    refine aL_nil ?_
    refine awp_ret ?_
    refine aEnd_ret (σ' := σ) v_ sub_ ?_
    exact ⟨by rw [secS, if_neg (by simp [hc1.1, hc1.2])], rfl⟩
theorem limit_c {l : List Ent} {t : Bool} {who a f : ByteArray} {n : Int} {σ : Store} (hs : ∀ x ∈ l, EntSm x) (hl : l.length ≤ 1000000) (h2 : who.size ≤ 1000000) (h3 : a.size ≤ 400000) (h4 : f.size ≤ 400000) (h0 : -9223372036854775808 ≤ n) (h1 : n ≤ 9223372036854775807) : ACalls Tryz.prog 18 [.sl 4 (l.map sEnt) t, vStr who, vStr a, vStr f, vInt n] σ fun r σ' => r = .tup [sEnt (limitS l who a f n).1, vInt (limitS l who a f n).2] ∧ σ = σ' := by
  refine ACalls_of Tryz.func18 rfl Tryz.ntmps18 (congrArg Array.toList Tryz.results18) (by simp only [List.length_cons, List.length_nil]; decide) ?_; simp only [envOf_cons, envOf_nil, Nat.reduceAdd]
  refine awp_seq ?_
  refine awp_region (by kernel_rfl) ?_
  refine aL_alloc rfl rfl rfl g_ gl_ fun o10 ho10 => ?_
  repeat (rw [none_set_iff] at ho10; obtain ⟨_, ho10⟩ := ho10)
  (refine aL_S rfl rfl v_ ?_)
  refine aL_nil ?_
  refine awp_seq ?_
  refine awp_region (by kernel_rfl) ?_
  (refine aL_S rfl rfl v_ ?_)
  refine aL_X rfl rfl (AOp_use rfl rfl (.inr ⟨rfl, rfl, rfl⟩) g_ va_ (bounds_c) ?_); rintro _ _ ⟨rfl, rfl⟩
  iterate 3 (refine aL_S rfl rfl v_ ?_)
  refine aL_alloc rfl rfl rfl g_ gl_ fun o12 ho12 => ?_
  repeat (rw [none_set_iff] at ho12; obtain ⟨_, ho12⟩ := ho12)
  refine aL_store rfl rfl rfl v_ v_ h_ g_ rfl g_ c_ (by rfl) le_ v_ ?_
  (refine aL_S rfl rfl v_ ?_)
  refine aL_nil ?_
  refine awp_seq ?_
  refine awp_seq ?_
  refine awp_region (by kernel_rfl) ?_
  (refine aL_S rfl rfl v_ ?_)
  refine aL_X rfl rfl (AOp_use rfl rfl (.inr ⟨rfl, rfl, rfl⟩) g_ va_ (nameIs_c (by omega)) ?_); rintro _ _ ⟨rfl, rfl⟩
  iterate 2 (refine aL_S rfl rfl v_ ?_)
  refine aL_GF rfl rfl v_ rfl vg_ ?_
  refine aL_GF rfl rfl v_ rfl vg_ ?_
  iterate 2 (refine aL_S rfl rfl v_ ?_)
  refine aL_GF rfl rfl v_ rfl vg_ ?_
  refine aL_GF rfl rfl v_ rfl vg_ ?_
  iterate 2 (refine aL_S rfl rfl v_ ?_)
  refine aL_GF rfl rfl v_ rfl vg_ ?_
  refine aL_GF rfl rfl v_ rfl vg_ ?_
  refine aL_GF rfl rfl v_ rfl vg_ ?_
  refine aL_GF rfl rfl v_ rfl vg_ ?_
  (refine aL_S rfl rfl v_ ?_)
  refine aL_nil ?_
  refine awp_cond v_ (fun hc2 => ?_) (fun hc2 => ?_)
  · replace hc2 := nm_ hc2
    refine awp_seq ?_
    refine awp_region (by kernel_rfl) ?_
    (refine aL_S rfl rfl v_ ?_)
    refine aL_store rfl rfl rfl v_ v_ h_ g_ rfl g_ c_ (by rfl) le_ v_ ?_
    (refine aL_S rfl rfl v_ ?_)
    refine aL_nil ?_
    refine awp_ret ?_
    refine aEnd_ret (σ' := σ) v_ sub_ ?_
    exact ⟨by rw [limitS, if_pos (by rcases hc2 with ((h | h) | h) | h <;> simp [h])]; rfl, rfl⟩
  · replace hc2 := nm_ hc2
    refine awp_skip ?_
    refine awp_seq ?_
    refine awp_region (by kernel_rfl) ?_
    iterate 4 (refine aL_S rfl rfl v_ ?_)
    refine aL_X rfl rfl (AOp_use rfl rfl (.inr ⟨rfl, rfl, rfl⟩) g_ va_ (key_c (by omega) (by omega)) ?_); rintro _ _ ⟨rfl, rfl⟩
    (refine aL_S rfl rfl v_ ?_)
    refine aL_X rfl rfl (AOp_use rfl rfl (.inr ⟨rfl, rfl, rfl⟩) g_ va_ (dec_c h0 h1) ?_); rintro _ _ ⟨rfl, rfl⟩
    refine aL_X rfl rfl (AOp_use rfl rfl (.inr ⟨rfl, rfl, rfl⟩) g_ va_ (set_c hs hl h2) ?_); rintro _ _ ⟨rfl, rfl⟩
    iterate 2 (refine aL_S rfl rfl v_ ?_)
    refine aL_store rfl rfl rfl v_ v_ h_ g_ rfl g_ c_ (by rfl) le_ v_ ?_
    (refine aL_S rfl rfl v_ ?_)
    refine aL_nil ?_
    refine awp_ret ?_
    refine aEnd_ret (σ' := σ) v_ sub_ ?_
    exact ⟨by rw [limitS, if_neg (by obtain ⟨⟨⟨h1, h2⟩, h3⟩, h4⟩ := hc2; simp [h1, h2]; omega)], rfl⟩
theorem rLimit_c {l : List Ent} {t : Bool} {who a f : ByteArray} {n : Int} {σ : Store} (hs : ∀ x ∈ l, EntSm x) (hl : l.length ≤ 1000000) (h2 : who.size ≤ 1000000) (h3 : a.size ≤ 400000) (h4 : f.size ≤ 400000) (h0 : -9223372036854775808 ≤ n) (h1 : n ≤ 9223372036854775807) : ACalls Tryz.prog 19 [.sl 4 (l.map sEnt) t, vStr who, vStr a, vStr f, vInt n] σ fun r σ' => r = .tup [sEnt (limitS l who a f n).1, vInt (limitS l who a f n).2] ∧ σ = σ' := by
  refine ACalls_of Tryz.func19 rfl Tryz.ntmps19 (congrArg Array.toList Tryz.results19) (by simp only [List.length_cons, List.length_nil]; decide) ?_; simp only [envOf_cons, envOf_nil, Nat.reduceAdd]
  refine awp_seq ?_
  refine awp_region (by kernel_rfl) ?_
  refine aL_alloc rfl rfl rfl g_ gl_ fun o10 ho10 => ?_
  repeat (rw [none_set_iff] at ho10; obtain ⟨_, ho10⟩ := ho10)
  (refine aL_S rfl rfl v_ ?_)
  refine aL_nil ?_
  refine awp_seq ?_
  refine awp_region (by kernel_rfl) ?_
  (refine aL_S rfl rfl v_ ?_)
  refine aL_X rfl rfl (AOp_use rfl rfl (.inr ⟨rfl, rfl, rfl⟩) g_ va_ (rBounds_c) ?_); rintro _ _ ⟨rfl, rfl⟩
  iterate 5 (refine aL_S rfl rfl v_ ?_)
  refine aL_nil ?_
  refine awp_seq ?_
  refine awp_seq ?_
  refine awp_region (by kernel_rfl) ?_
  (refine aL_S rfl rfl v_ ?_)
  refine aL_X rfl rfl (AOp_use rfl rfl (.inr ⟨rfl, rfl, rfl⟩) g_ va_ (rIs_c (by omega)) ?_); rintro _ _ ⟨rfl, rfl⟩
  iterate 2 (refine aL_S rfl rfl v_ ?_)
  refine aL_GF rfl rfl v_ rfl vg_ ?_
  refine aL_GF rfl rfl v_ rfl vg_ ?_
  iterate 2 (refine aL_S rfl rfl v_ ?_)
  refine aL_GF rfl rfl v_ rfl vg_ ?_
  refine aL_GF rfl rfl v_ rfl vg_ ?_
  refine aL_GF rfl rfl v_ rfl vg_ ?_
  (refine aL_S rfl rfl v_ ?_)
  refine aL_nil ?_
  refine awp_cond v_ (fun hc2 => ?_) (fun hc2 => ?_)
  · replace hc2 := nm_ hc2
    refine awp_seq ?_
    refine awp_region (by kernel_rfl) ?_
    (refine aL_S rfl rfl v_ ?_)
    refine aL_store rfl rfl rfl v_ v_ h_ g_ rfl g_ c_ (by rfl) le_ v_ ?_
    (refine aL_S rfl rfl v_ ?_)
    refine aL_nil ?_
    refine awp_ret ?_
    refine aEnd_ret (σ' := σ) v_ sub_ ?_
    exact ⟨by rw [limitS, if_pos (by cases hb : (bndS f).2.2 <;> simp [hb] at hc2 ⊢ <;> (rcases hc2 with (h | h) | h <;> simp [h]))]; rfl, rfl⟩
  · replace hc2 := nm_ hc2
    refine awp_skip ?_
    refine awp_seq ?_
    refine awp_region (by kernel_rfl) ?_
    iterate 4 (refine aL_S rfl rfl v_ ?_)
    refine aL_X rfl rfl (AOp_use rfl rfl (.inr ⟨rfl, rfl, rfl⟩) g_ va_ (rKey_c (by omega) (by omega)) ?_); rintro _ _ ⟨rfl, rfl⟩
    (refine aL_S rfl rfl v_ ?_)
    refine aL_X rfl rfl (AOp_use rfl rfl (.inr ⟨rfl, rfl, rfl⟩) g_ va_ (rDec_c h0 h1) ?_); rintro _ _ ⟨rfl, rfl⟩
    refine aL_X rfl rfl (AOp_use rfl rfl (.inr ⟨rfl, rfl, rfl⟩) g_ va_ (rSet_c hs hl h2) ?_); rintro _ _ ⟨rfl, rfl⟩
    iterate 2 (refine aL_S rfl rfl v_ ?_)
    refine aL_store rfl rfl rfl v_ v_ h_ g_ rfl g_ c_ (by rfl) le_ v_ ?_
    (refine aL_S rfl rfl v_ ?_)
    refine aL_nil ?_
    refine awp_ret ?_
    refine aEnd_ret (σ' := σ) v_ sub_ ?_
    exact ⟨by rw [limitS, if_neg (by cases hb : (bndS f).2.2 <;> simp [hb] at hc2 ⊢ <;> first | omega | (obtain ⟨⟨h1, h2⟩, h3⟩ := hc2; simp [h1]; omega))], rfl⟩
end Go.Proofs.YtbomkkjhafdhiaaGreatDoor
end

section
set_option linter.all false
set_option maxRecDepth 100000
namespace Go.Proofs.YtbomkkjhafdhiaaGreatDoor
open Go.Ab
abbrev fOf1 (a b : Nat) : AVal := .fn (.func 27) [] [.ref a 0, .ref b 0]
theorem of1_c {p q : Nat} {l : List Ent} {t : Bool} {a f : ByteArray} {σ : Store} (hp : σ.heap p = some (.cells [.sl 4 (l.map sEnt) t])) (hq : σ.heap q = some (.cells [vStr a])) (hl : l.length ≤ 1000000) (ha : a.size ≤ 400000) (hf : f.size ≤ 400000) : ACalls Tryz.prog 27 [vStr f, .ref p 0, .ref q 0] σ fun v σ' => v = vStr (getS l (keyS a f)).value ∧ σ = σ' := by
  refine ACalls_of Tryz.func27 rfl Tryz.ntmps27 (congrArg Array.toList Tryz.results27) (by simp only [List.length_cons, List.length_nil]; decide) ?_; simp only [envOf_cons, envOf_nil, Nat.reduceAdd]
  refine awp_seq ?_
  refine awp_region (by kernel_rfl) ?_
  (refine aL_S rfl rfl v_ ?_)
  refine aL_nil ?_
  refine awp_seq ?_
  have R := And.intro hp hq
  refine awp_draw (.op 0 0 (.op 1 0 (.op 2 0 (.op 3 1 (.op 4 1 (.op 5 0 (.op 6 0 .nil))))))) Tryz.mixed (by kernel_rfl) ?_
  iterate 3 (refine dR_S o_ (by rfl) (by rfl) v_ ?_)
  refine dR_X o_ (by rfl) (by rfl) (AOp_use (by rfl) (by rfl) (.inr ⟨by rfl, by rfl, by rfl⟩) g_ va_ (key_c ha hf) ?_); rintro _ _ ⟨rfl, rfl⟩; refine ⟨sub_, ?_⟩
  refine dR_X o_ (by rfl) (by rfl) (AOp_use (by rfl) (by rfl) (.inr ⟨by rfl, by rfl, by rfl⟩) g_ va_ (get_c hl) ?_); rintro _ _ ⟨rfl, rfl⟩; refine ⟨sub_, ?_⟩
  iterate 2 (refine dR_S o_ (by rfl) (by rfl) v_ ?_)
  refine dR_nil ?_
  refine awp_ret ?_
  refine aEnd_ret (σ' := σ) v_ sub_ ?_
  exact ⟨rfl, rfl⟩
theorem limN_1 {s : ByteArray} {m o : Int} (h : ((numS s).isSome = false ∨ (numS s).getD 0 < 0) ∨ m < (numS s).getD 0) : limN s m o = o := by
  unfold limN
  cases hn : numS s with
  | none => rfl
  | some n =>
    rw [hn] at h
    simp only [Option.isSome_some, Option.getD_some] at h ⊢
    rw [if_neg]
    rcases h with (h | h) | h
    · cases h
    · omega
    · omega
theorem limN_2 {s : ByteArray} {m o : Int} (h : ((numS s).isSome = true ∧ 0 ≤ (numS s).getD 0) ∧ (numS s).getD 0 ≤ m) : limN s m o = (numS s).getD 0 := by
  unfold limN
  cases hn : numS s with
  | none => rw [hn] at h; exact absurd h.1.1 (by simp)
  | some n =>
    rw [hn] at h
    simp only [Option.getD_some] at h ⊢
    rw [if_pos ⟨h.1.2, h.2⟩]
theorem of2_c {p q g : Nat} {l : List Ent} {t : Bool} {a f : ByteArray} {σ : Store} (hp : σ.heap p = some (.cells [.sl 4 (l.map sEnt) t])) (hq : σ.heap q = some (.cells [vStr a])) (hg : σ.heap g = some (.cells [fOf1 p q])) (hl : l.length ≤ 1000000) (hs : ∀ x ∈ l, EntSm x) (ha : a.size ≤ 400000) (hf : f.size ≤ 400000) : ACalls Tryz.prog 29 [vStr f, .ref g 0] σ fun v σ' => v = vInt (limS l a f) ∧ σ = σ' := by
  have hv := (getS_sm hs (keyS a f)).2
  obtain ⟨r, hr⟩ : ∃ r, numS (getS l (keyS a f)).value = r := ⟨_, rfl⟩
  refine ACalls_of Tryz.func29 rfl Tryz.ntmps29 (congrArg Array.toList Tryz.results29) (by simp only [List.length_cons, List.length_nil]; decide) ?_; simp only [envOf_cons, envOf_nil, Nat.reduceAdd]
  refine awp_seq ?_
  refine awp_region (by kernel_rfl) ?_
  (refine aL_S rfl rfl v_ ?_)
  refine aL_nil ?_
  refine awp_seq ?_
  refine awp_region (by kernel_rfl) ?_
  (refine aL_S rfl rfl v_ ?_)
  refine aL_X rfl rfl (AOp_use rfl rfl (.inr ⟨rfl, rfl, rfl⟩) g_ va_ (bounds_c) ?_); rintro _ _ ⟨rfl, rfl⟩
  iterate 3 (refine aL_S rfl rfl v_ ?_)
  refine aL_alloc rfl rfl rfl g_ gl_ fun o4 ho4 => ?_
  repeat (rw [none_set_iff] at ho4; obtain ⟨_, ho4⟩ := ho4)
  refine aL_store rfl rfl rfl v_ v_ h_ g_ rfl g_ c_ (by rfl) le_ v_ ?_
  (refine aL_S rfl rfl v_ ?_)
  refine aL_nil ?_
  have n1 := ne_of_heap hg ho4; have n2 := ne_of_heap hp ho4; have n3 := ne_of_heap hq ho4
  refine awp_seq ?_
  have R := hg
  refine awp_region (by kernel_rfl) ?_
  iterate 2 (refine aL_S rfl rfl v_ ?_)
  refine aL_X rfl rfl (AOp_use rfl rfl (.inl v_) g_ va_ (of1_c (p := p) (q := q) (by rw [Store.set_ne _ _ n2, Store.set_ne _ _ n2]; exact hp) (by rw [Store.set_ne _ _ n3, Store.set_ne _ _ n3]; exact hq) hl ha hf) ?_); rintro _ _ ⟨rfl, rfl⟩
  refine aL_X rfl rfl (AOp_use rfl rfl (.inr ⟨rfl, rfl, rfl⟩) g_ va_ (num_c hv) ?_); rintro _ _ ⟨rfl, rfl⟩
  iterate 5 (refine aL_S rfl rfl v_ ?_)
  refine aL_nil ?_
  refine awp_seq ?_
  refine awp_seq ?_
  refine awp_region (by kernel_rfl) ?_
  iterate 3 (refine aL_S rfl rfl v_ ?_)
  refine aL_GF rfl rfl v_ rfl vg_ ?_
  refine aL_GF rfl rfl v_ rfl vg_ ?_
  iterate 2 (refine aL_S rfl rfl v_ ?_)
  refine aL_GF rfl rfl v_ rfl vg_ ?_
  refine aL_GF rfl rfl v_ rfl vg_ ?_
  refine aL_GF rfl rfl v_ rfl vg_ ?_
  refine aL_GF rfl rfl v_ rfl vg_ ?_
  (refine aL_S rfl rfl v_ ?_)
  refine aL_nil ?_
  refine awp_cond v_ (fun hc3 => ?_) (fun hc3 => ?_)
  · replace hc3 := nm_ hc3
    refine awp_seq ?_
    refine awp_region (by kernel_rfl) ?_
    iterate 3 (refine aL_S rfl rfl v_ ?_)
    refine aL_nil ?_
    refine awp_ret ?_
    refine aEnd_ret (σ' := σ) v_ sub_ ?_
    exact ⟨by rw [limS, limN_1 hc3], rfl⟩
  · replace hc3 := nm_ hc3
    refine awp_skip ?_
    refine awp_seq ?_
    refine awp_region (by kernel_rfl) ?_
    iterate 2 (refine aL_S rfl rfl v_ ?_)
    refine aL_nil ?_
    refine awp_ret ?_
    refine aEnd_ret (σ' := σ) v_ sub_ ?_
    exact ⟨by rw [limS, limN_2 hc3], rfl⟩
theorem tenS_no {l : List Ent} {a : ByteArray} (h : nameOk a = false ∨ secOk (getS l (keyS a bsSecret)).value = false) : tenOk l a = false := by
  unfold tenOk; rcases h with h | h <;> simp [h]
theorem tenS_yes {l : List Ent} {a : ByteArray} (h : nameOk a = true ∧ secOk (getS l (keyS a bsSecret)).value = true) : tenOk l a = true := by
  unfold tenOk; rw [h.1, h.2]; rfl
theorem of_c {l : List Ent} {t : Bool} {a : ByteArray} {σ : Store} (hl : l.length ≤ 1000000) (hs : ∀ x ∈ l, EntSm x) (ha : a.size ≤ 400000) : ACalls Tryz.prog 9 [.sl 4 (l.map sEnt) t, vStr a] σ fun v σ' => v = .tup [sTen (tenS l a), vB (tenOk l a)] ∧ σ = σ' := by
  refine ACalls_of Tryz.func9 rfl Tryz.ntmps9 (congrArg Array.toList Tryz.results9) (by simp only [List.length_cons, List.length_nil]; decide) ?_; simp only [envOf_cons, envOf_nil, Nat.reduceAdd]
  refine awp_seq ?_
  refine awp_region (by kernel_rfl) ?_
  refine aL_box rfl rfl rfl v_ rfl g_ fun o2 ho2 => ?_
  repeat (rw [none_set_iff] at ho2; obtain ⟨_, ho2⟩ := ho2)
  refine aL_box rfl rfl rfl v_ rfl g_ fun o3 ho3 => ?_
  repeat (rw [none_set_iff] at ho3; obtain ⟨_, ho3⟩ := ho3)
  refine aL_alloc rfl rfl rfl g_ gl_ fun o4 ho4 => ?_
  repeat (rw [none_set_iff] at ho4; obtain ⟨_, ho4⟩ := ho4)
  (refine aL_S rfl rfl v_ ?_)
  refine aL_nil ?_
  refine awp_seq ?_
  refine awp_region (by kernel_rfl) ?_
  (refine aL_S rfl rfl v_ ?_)
  refine aL_alloc rfl rfl rfl g_ gl_ fun o6 ho6 => ?_
  repeat (rw [none_set_iff] at ho6; obtain ⟨_, ho6⟩ := ho6)
  refine aL_store rfl rfl rfl v_ v_ h_ g_ rfl g_ c_ (by rfl) le_ v_ ?_
  refine aL_nil ?_
  refine awp_seq ?_
  refine awp_region (by kernel_rfl) ?_
  iterate 2 (refine aL_S rfl rfl v_ ?_)
  refine aL_nil ?_
  refine awp_seq ?_
  refine awp_seq ?_
  refine awp_region (by kernel_rfl) ?_
  (refine aL_S rfl rfl v_ ?_)
  refine aL_X rfl rfl (AOp_use rfl rfl (.inr ⟨rfl, rfl, rfl⟩) g_ va_ (nameIs_c (by omega)) ?_); rintro _ _ ⟨rfl, rfl⟩
  iterate 2 (refine aL_S rfl rfl v_ ?_)
  refine aL_GF rfl rfl v_ rfl vg_ ?_
  refine aL_GFX rfl rfl v_ rfl (fun hb => AOp_useV (by rfl) (by rfl) (.inl vh_) g_ cg_ (of1_c (f := bsSecret) h_ h_ hl ha (by decide))) ?_
  refine aL_GFX rfl rfl v_ rfl (fun hb => AOp_useV (by rfl) (by rfl) (.inr ⟨by rfl, by rfl, by rfl⟩) g_ cg_ (isSecret_c)) ?_
  refine aL_GF rfl rfl v_ rfl vg_ ?_
  (refine aL_S rfl rfl v_ ?_)
  refine aL_nil ?_
  refine awp_cond v_ (fun hc3 => ?_) (fun hc3 => ?_)
  · replace hc3 := nm_ hc3
    refine awp_seq ?_
    refine awp_region (by kernel_rfl) ?_
    (refine aL_S rfl rfl v_ ?_)
    refine aL_store rfl rfl rfl v_ v_ h_ g_ rfl g_ c_ (by rfl) le_ v_ ?_
    (refine aL_S rfl rfl v_ ?_)
    refine aL_nil ?_
    refine awp_ret ?_
    refine aEnd_ret (σ' := σ) v_ sub_ ?_
    exact ⟨by rw [tenS, if_neg (by rw [tenS_no hc3]; simp), tenS_no hc3]; rfl, rfl⟩
  · replace hc3 := nm_ hc3
    refine awp_skip ?_
    refine awp_seq ?_
    refine awp_draw (.op 0 0 (.op 1 0 (.op 3 0 (.op 5 0 (.op 7 0 (.op 9 0 (.op 2 1 (.op 4 1 (.op 6 1 (.op 8 1 (.op 10 1 (.op 11 0 (.op 12 2 (.op 13 0 .nil)))))))))))))) Tryz.mixed (by kernel_rfl) ?_
    iterate 6 (refine dR_S o_ (by rfl) (by rfl) v_ ?_)
    refine dR_X o_ (by rfl) (by rfl) (AOp_use (by rfl) (by rfl) (.inl v_) g_ va_ (of1_c (f := bsSecret) h_ h_ hl ha (by decide)) ?_); rintro _ _ ⟨rfl, rfl⟩; refine ⟨sub_, ?_⟩
    refine dR_X o_ (by rfl) (by rfl) (AOp_use (by rfl) (by rfl) (.inl v_) g_ va_ (of2_c (p := o2) (q := o3) (g := o6) (f := bsBytes) h_ h_ h_ hl hs ha (by decide)) ?_); rintro _ _ ⟨rfl, rfl⟩; refine ⟨sub_, ?_⟩
    refine dR_X o_ (by rfl) (by rfl) (AOp_use (by rfl) (by rfl) (.inl v_) g_ va_ (of2_c (p := o2) (q := o3) (g := o6) (f := bsRate) h_ h_ h_ hl hs ha (by decide)) ?_); rintro _ _ ⟨rfl, rfl⟩; refine ⟨sub_, ?_⟩
    refine dR_X o_ (by rfl) (by rfl) (AOp_use (by rfl) (by rfl) (.inl v_) g_ va_ (of2_c (p := o2) (q := o3) (g := o6) (f := bsBurst) h_ h_ h_ hl hs ha (by decide)) ?_); rintro _ _ ⟨rfl, rfl⟩; refine ⟨sub_, ?_⟩
    refine dR_X o_ (by rfl) (by rfl) (AOp_use (by rfl) (by rfl) (.inl v_) g_ va_ (of2_c (p := o2) (q := o3) (g := o6) (f := bsQueue) h_ h_ h_ hl hs ha (by decide)) ?_); rintro _ _ ⟨rfl, rfl⟩; refine ⟨sub_, ?_⟩
    (refine dR_S o_ (by rfl) (by rfl) v_ ?_)
    refine dR_store o_ (by rfl) (by rfl) (by rfl) v_ v_ h_ g_ rfl g_ c_ (by rfl) le_ v_ ?_
    (refine dR_S o_ (by rfl) (by rfl) v_ ?_)
    refine dR_nil ?_
    refine awp_ret ?_
    refine aEnd_ret (σ' := σ) v_ sub_ ?_
    exact ⟨by rw [tenS, if_pos (tenS_yes hc3), tenS_yes hc3], rfl⟩
theorem rLimit23_c {l : List Ent} {t : Bool} {a f : ByteArray} {σ : Store} (hl : l.length ≤ 1000000) (hs : ∀ x ∈ l, EntSm x) (ha : a.size ≤ 400000) (hf : f.size ≤ 400000) (hb : (bndS f).2.2 = true) : ACalls Tryz.prog 36 [.sl 4 (l.map sEnt) t, vStr a, vStr f] σ fun v σ' => v = vInt (limS l a f) ∧ σ = σ' := by
  have hv := (getS_sm hs (keyS a f)).2
  refine ACalls_of Tryz.func36 rfl Tryz.ntmps36 (congrArg Array.toList Tryz.results36) (by simp only [List.length_cons, List.length_nil]; decide) ?_; simp only [envOf_cons, envOf_nil, Nat.reduceAdd]
  refine awp_seq ?_
  refine awp_region (by kernel_rfl) ?_
  (refine aL_S rfl rfl v_ ?_)
  refine aL_nil ?_
  refine awp_seq ?_
  have R := hb
  refine awp_region (by kernel_rfl) ?_
  (refine aL_S rfl rfl v_ ?_)
  refine aL_X rfl rfl (AOp_use rfl rfl (.inr ⟨rfl, rfl, rfl⟩) g_ va_ (rBounds_c) ?_); rintro _ _ ⟨rfl, rfl⟩
  iterate 5 (refine aL_S rfl rfl v_ ?_)
  refine aL_nil ?_
  refine awp_seq ?_
  refine awp_region (by kernel_rfl) ?_
  iterate 3 (refine aL_S rfl rfl v_ ?_)
  refine aL_X rfl rfl (AOp_use rfl rfl (.inr ⟨rfl, rfl, rfl⟩) g_ va_ (rKey_c ha hf) ?_); rintro _ _ ⟨rfl, rfl⟩
  refine aL_X rfl rfl (AOp_use rfl rfl (.inr ⟨rfl, rfl, rfl⟩) g_ va_ (rGet_c hl) ?_); rintro _ _ ⟨rfl, rfl⟩
  (refine aL_S rfl rfl v_ ?_)
  refine aL_X rfl rfl (AOp_use rfl rfl (.inr ⟨rfl, rfl, rfl⟩) g_ va_ (rNum_c hv) ?_); rintro _ _ ⟨rfl, rfl⟩
  iterate 5 (refine aL_S rfl rfl v_ ?_)
  refine aL_nil ?_
  refine awp_seq ?_
  refine awp_seq ?_
  have R := hb
  refine awp_region (by kernel_rfl) ?_
  iterate 3 (refine aL_S rfl rfl v_ ?_)
  refine aL_GF rfl rfl v_ rfl vg_ ?_
  refine aL_GF rfl rfl v_ rfl vg_ ?_
  iterate 2 (refine aL_S rfl rfl v_ ?_)
  refine aL_GF rfl rfl v_ rfl vg_ ?_
  refine aL_GF rfl rfl v_ rfl vg_ ?_
  refine aL_GF rfl rfl v_ rfl vg_ ?_
  (refine aL_S rfl rfl v_ ?_)
  refine aL_nil ?_
  refine awp_cond v_ (fun hc3 => ?_) (fun hc3 => ?_)
  · replace hc3 := nm_ hc3
    refine awp_seq ?_
    refine awp_region (by kernel_rfl) ?_
    iterate 2 (refine aL_S rfl rfl v_ ?_)
    refine aL_nil ?_
    refine awp_ret ?_
    refine aEnd_ret (σ' := σ) v_ sub_ ?_
    exact ⟨by rw [limS, limN_1 (by simpa [hb] using hc3)], rfl⟩
  · replace hc3 := nm_ hc3
    refine awp_skip ?_
    refine awp_seq ?_
    refine awp_region (by kernel_rfl) ?_
    iterate 2 (refine aL_S rfl rfl v_ ?_)
    refine aL_nil ?_
    refine awp_ret ?_
    refine aEnd_ret (σ' := σ) v_ sub_ ?_
    exact ⟨by rw [limS, limN_2 (by simpa [hb] using hc3)], rfl⟩
theorem rOf_c {l : List Ent} {t : Bool} {a : ByteArray} {σ : Store} (hl : l.length ≤ 1000000) (hs : ∀ x ∈ l, EntSm x) (ha : a.size ≤ 400000) : ACalls Tryz.prog 10 [.sl 4 (l.map sEnt) t, vStr a] σ fun v σ' => v = .tup [sTen (tenS l a), vB (tenOk l a)] ∧ σ = σ' := by
  refine ACalls_of Tryz.func10 rfl Tryz.ntmps10 (congrArg Array.toList Tryz.results10) (by simp only [List.length_cons, List.length_nil]; decide) ?_; simp only [envOf_cons, envOf_nil, Nat.reduceAdd]
  refine awp_seq ?_
  refine awp_region (by kernel_rfl) ?_
  refine aL_alloc rfl rfl rfl g_ gl_ fun o4 ho4 => ?_
  repeat (rw [none_set_iff] at ho4; obtain ⟨_, ho4⟩ := ho4)
  (refine aL_S rfl rfl v_ ?_)
  refine aL_nil ?_
  refine awp_seq ?_
  refine awp_region (by kernel_rfl) ?_
  iterate 2 (refine aL_S rfl rfl v_ ?_)
  refine aL_X rfl rfl (AOp_use rfl rfl (.inr ⟨rfl, rfl, rfl⟩) g_ va_ (rKey_c (f := bsSecret) ha (by decide)) ?_); rintro _ _ ⟨rfl, rfl⟩
  refine aL_X rfl rfl (AOp_use rfl rfl (.inr ⟨rfl, rfl, rfl⟩) g_ va_ (rGet_c hl) ?_); rintro _ _ ⟨rfl, rfl⟩
  iterate 2 (refine aL_S rfl rfl v_ ?_)
  refine aL_nil ?_
  refine awp_seq ?_
  refine awp_seq ?_
  refine awp_region (by kernel_rfl) ?_
  (refine aL_S rfl rfl v_ ?_)
  refine aL_X rfl rfl (AOp_use rfl rfl (.inr ⟨rfl, rfl, rfl⟩) g_ va_ (rIs_c (by omega)) ?_); rintro _ _ ⟨rfl, rfl⟩
  iterate 2 (refine aL_S rfl rfl v_ ?_)
  refine aL_GF rfl rfl v_ rfl vg_ ?_
  refine aL_GFX rfl rfl v_ rfl (fun hb => AOp_useV (by rfl) (by rfl) (.inr ⟨by rfl, by rfl, by rfl⟩) g_ cg_ (rIsSecret_c)) ?_
  refine aL_GF rfl rfl v_ rfl vg_ ?_
  (refine aL_S rfl rfl v_ ?_)
  refine aL_nil ?_
  refine awp_cond v_ (fun hc2 => ?_) (fun hc2 => ?_)
  · replace hc2 := nm_ hc2
    refine awp_seq ?_
    refine awp_region (by kernel_rfl) ?_
    (refine aL_S rfl rfl v_ ?_)
    refine aL_store rfl rfl rfl v_ v_ h_ g_ rfl g_ c_ (by rfl) le_ v_ ?_
    (refine aL_S rfl rfl v_ ?_)
    refine aL_nil ?_
    refine awp_ret ?_
    refine aEnd_ret (σ' := σ) v_ sub_ ?_
    exact ⟨by rw [tenS, if_neg (by rw [tenS_no hc2]; simp), tenS_no hc2]; rfl, rfl⟩
  · replace hc2 := nm_ hc2
    refine awp_skip ?_
    refine awp_seq ?_
    refine awp_region (by kernel_rfl) ?_
    iterate 4 (refine aL_S rfl rfl v_ ?_)
    refine aL_X rfl rfl (AOp_use rfl rfl (.inr ⟨rfl, rfl, rfl⟩) g_ va_ (rLimit23_c (f := bsBytes) hl hs ha (by decide) (by decide)) ?_); rintro _ _ ⟨rfl, rfl⟩
    iterate 2 (refine aL_S rfl rfl v_ ?_)
    refine aL_X rfl rfl (AOp_use rfl rfl (.inr ⟨rfl, rfl, rfl⟩) g_ va_ (rLimit23_c (f := bsRate) hl hs ha (by decide) (by decide)) ?_); rintro _ _ ⟨rfl, rfl⟩
    iterate 2 (refine aL_S rfl rfl v_ ?_)
    refine aL_X rfl rfl (AOp_use rfl rfl (.inr ⟨rfl, rfl, rfl⟩) g_ va_ (rLimit23_c (f := bsBurst) hl hs ha (by decide) (by decide)) ?_); rintro _ _ ⟨rfl, rfl⟩
    iterate 2 (refine aL_S rfl rfl v_ ?_)
    refine aL_X rfl rfl (AOp_use rfl rfl (.inr ⟨rfl, rfl, rfl⟩) g_ va_ (rLimit23_c (f := bsQueue) hl hs ha (by decide) (by decide)) ?_); rintro _ _ ⟨rfl, rfl⟩
    (refine aL_S rfl rfl v_ ?_)
    refine aL_store rfl rfl rfl v_ v_ h_ g_ rfl g_ c_ (by rfl) le_ v_ ?_
    (refine aL_S rfl rfl v_ ?_)
    refine aL_nil ?_
    refine awp_ret ?_
    refine aEnd_ret (σ' := σ) v_ sub_ ?_
    exact ⟨by rw [tenS, if_pos (tenS_yes hc2), tenS_yes hc2], rfl⟩
end Go.Proofs.YtbomkkjhafdhiaaGreatDoor
end

section
set_option linter.all false
set_option maxRecDepth 100000
namespace Go.Ab
theorem AOp_wk {P : Program} {o : Oper} {α : Operand → AVal} {σ : Store} {a a' : AVal} {Kk : AVal → Store → Prop} (h : AOp P o α σ fun v τ => v = a ∧ τ = σ) (hw : Wk a a') (hk : Kk a' σ) : AOp P o α σ Kk :=
  fun κ ev hI hx => (h κ ev hI hx).mono fun v w ⟨κ', b, τ, h1, h2, h3, h4, hb, hτ⟩ => by
    subst hb; subst hτ
    exact ⟨κ', a', τ, h1, h2, h3, h4.wk hw, hk⟩
end Go.Ab
namespace Go.Proofs.YtbomkkjhafdhiaaGreatDoor
open Go.Ab
theorem set_swap {σ : Store} {i j : Nat} {x y : AObj} (h : i ≠ j) : (σ.set i x).set j y = (σ.set j y).set i x := by
  unfold Store.set
  congr 1
  funext k
  by_cases h1 : k = j
  · subst h1; simp [Ne.symm h]
  · by_cases h2 : k = i
    · subst h2; simp [h]
    · simp [h1, h2]
theorem cbp_set {σ0 σ : Store} {sz : Nat} {l : List AVal} {a : AVal} (h : CBp σ0 σ sz l a) {i : Nat} {x : AObj} (hi : σ.heap i = none) : CBp (σ0.set i x) (σ.set i x) sz l a := by
  rcases h with ⟨h1, h2, rfl⟩ | ⟨o, ho, h1, rfl⟩
  · exact .inl ⟨h1, h2, rfl⟩
  · have hne : i ≠ o := fun hh => by rw [hh, Store.set_get] at hi; cases hi
    exact .inr ⟨o, by rw [Store.set_ne _ _ (Ne.symm hne)]; exact ho, h1, set_swap (Ne.symm hne)⟩
theorem cbp_set2 {σ0 σ : Store} {sz : Nat} {l : List AVal} {a : AVal} (h : CBp σ0 σ sz l a) {i : Nat} {x y : AObj} (hi : σ.heap i = none) : CBp (σ0.set i y) ((σ.set i x).set i y) sz l a := by
  rw [Store.set_set]; exact cbp_set h hi
theorem cbp_drop {σ σ' : Store} {sz : Nat} {l : List AVal} {a : AVal} {i : Nat} {y : AObj} (h : CBp (σ.set i y) σ' sz l a) (hi : σ.heap i = none) : ∃ τ, CBp σ τ sz l a ∧ τ.Sub σ' := by
  have hsub : ∀ τ : Store, τ.heap i = none → τ.Sub (τ.set i y) := fun τ hτ => ⟨fun j x hx => by rw [Store.set_ne _ _ (fun hh => by rw [hh, hτ] at hx; cases hx)]; exact hx, fun _ _ h => h⟩
  rcases h with ⟨h1, h2, rfl⟩ | ⟨o, ho, h1, rfl⟩
  · exact ⟨σ, .inl ⟨h1, h2, rfl⟩, hsub σ hi⟩
  · have hne : o ≠ i := fun hh => by rw [hh, Store.set_get] at ho; cases ho
    rw [Store.set_ne _ _ hne] at ho
    refine ⟨σ.set o (.cells (flat l)), .inr ⟨o, ho, h1, rfl⟩, ?_⟩
    rw [set_swap (Ne.symm hne)]
    exact hsub _ (by rw [Store.set_ne _ _ (Ne.symm hne)]; exact hi)
theorem heap_none {σ0 σ : Store} {sz : Nat} {l : List AVal} {a : AVal} (h : CBp σ0 σ sz l a) {i : Nat} (hi : σ.heap i = none) : σ0.heap i = none := by
  cases hh : σ0.heap i with
  | none => rfl
  | some y => have := h.sub.heap i y hh; rw [hi] at this; cases this
end Go.Proofs.YtbomkkjhafdhiaaGreatDoor
end

section
set_option linter.all false
set_option maxRecDepth 100000
namespace Go.Proofs.YtbomkkjhafdhiaaGreatDoor
open Go.Ab
theorem get_if {α : Type} [Inhabited α] (l : List α) (k : Nat) : ∃ x : α, k < l.length → l[k]? = some x := by
  by_cases h : k < l.length
  · exact ⟨l[k], fun _ => List.getElem?_eq_getElem h⟩
  · exact ⟨default, fun h' => absurd h' h⟩
theorem oneStr (l : List ByteArray) : ∀ y ∈ l.map vStr, ∀ c ∈ y.cells, c.one = true := fun y hy c hc => by
  obtain ⟨s, _, rfl⟩ := List.mem_map.1 hy
  simp [AVal.cells] at hc; subst hc; rfl
def hpS (s p : ByteArray) : Bool := decide (p.size ≤ s.size) && decide (s.extract 0 p.size = p)
theorem slHasPrefix_c {s p : ByteArray} {σ : Store} : ACalls Tryz.prog 83 [vStr s, vStr p] σ fun v σ' => v = vB (hpS s p) ∧ σ = σ' := by
  refine ACalls_of Tryz.func83 rfl Tryz.ntmps83 (congrArg Array.toList Tryz.results83) (by simp only [List.length_cons, List.length_nil]; decide) ?_; simp only [envOf_cons, envOf_nil, Nat.reduceAdd]
  refine awp_seq ?_
  refine awp_region (by kernel_rfl) ?_
  (refine aL_S rfl rfl v_ ?_)
  refine aL_nil ?_
  refine awp_seq ?_
  refine awp_region (by kernel_rfl) ?_
  iterate 6 (refine aL_S rfl rfl v_ ?_)
  refine aL_GT rfl rfl v_ rfl vg_ ?_
  refine aL_GT rfl rfl v_ rfl vg_ ?_
  refine aL_GT rfl rfl v_ rfl vg_ ?_
  refine aL_GT rfl rfl v_ rfl vg_ ?_
  refine aL_GT rfl rfl v_ rfl vg_ ?_
  refine aL_GT rfl rfl v_ rfl vg_ ?_
  iterate 2 (refine aL_S rfl rfl v_ ?_)
  refine aL_nil ?_
  refine awp_ret ?_
  refine aEnd_ret (σ' := σ) v_ sub_ ?_
  refine ⟨?_, rfl⟩
  unfold hpS
  by_cases h1 : p.size ≤ s.size <;> simp [h1]
theorem hasPrefix_c {s p : ByteArray} {σ : Store} : ACalls Tryz.prog 63 [vStr s, vStr p] σ fun v σ' => v = vB (hpS s p) ∧ σ = σ' := by
  refine ACalls_of Tryz.func63 rfl Tryz.ntmps63 (congrArg Array.toList Tryz.results63) (by simp only [List.length_cons, List.length_nil]; decide) ?_; simp only [envOf_cons, envOf_nil, Nat.reduceAdd]
  refine awp_seq ?_
  refine awp_region (by kernel_rfl) ?_
  (refine aL_S rfl rfl v_ ?_)
  refine aL_nil ?_
  refine awp_seq ?_
  refine awp_region (by kernel_rfl) ?_
  iterate 2 (refine aL_S rfl rfl v_ ?_)
  refine aL_X rfl rfl (AOp_use rfl rfl (.inr ⟨rfl, rfl, rfl⟩) g_ va_ (slHasPrefix_c) ?_); rintro _ _ ⟨rfl, rfl⟩
  (refine aL_S rfl rfl v_ ?_)
  refine aL_nil ?_
  refine awp_ret ?_
  refine aEnd_ret (σ' := σ) v_ sub_ ?_
  exact ⟨rfl, rfl⟩
theorem hpS_iff {s : ByteArray} {p : List UInt8} : hpS s (B p) = true ↔ ∃ r, Lb s = p ++ r := by
  unfold hpS
  rw [Bool.and_eq_true, decide_eq_true_eq, decide_eq_true_eq, B_size]
  constructor
  · rintro ⟨h1, h2⟩
    have := congrArg Lb h2
    rw [extract_B, Lb_B, Lb_B, List.drop_zero] at this
    exact ⟨(Lb s).drop p.length, by conv => rhs; rw [← this]
                                    rw [List.length_take, Nat.min_eq_left (by rw [Lb_length]; exact h1), List.take_append_drop]⟩
  · rintro ⟨r, h⟩
    refine ⟨by rw [← Lb_length, h, List.length_append]; omega, ?_⟩
    apply Lb_inj
    rw [extract_B, Lb_B, Lb_B, List.drop_zero, h, List.take_left]
theorem under1_c {q : Nat} {x : Ent} {s : ByteArray} {σ : Store} (hq : σ.heap q = some (.cells [vStr s])) (hs : s.size ≤ 1000000) : ACalls Tryz.prog 62 [sEnt x, .ref q 0] σ fun v σ' => v = vB (!hpS x.key (s ++ ⟨#[47]⟩)) ∧ σ = σ' := by
  have e1 := astr_add' s ⟨#[47]⟩ (by rw [show (ByteArray.mk #[47]).size = 1 from rfl]; omega)
  refine ACalls_of Tryz.func62 rfl Tryz.ntmps62 (congrArg Array.toList Tryz.results62) (by simp only [List.length_cons, List.length_nil]; decide) ?_; simp only [envOf_cons, envOf_nil, Nat.reduceAdd]
  refine awp_seq ?_
  refine awp_region (by kernel_rfl) ?_
  refine aL_box rfl rfl rfl v_ rfl g_ fun o2 ho2 => ?_
  repeat (rw [none_set_iff] at ho2; obtain ⟨_, ho2⟩ := ho2)
  (refine aL_S rfl rfl v_ ?_)
  refine aL_nil ?_
  have n3 := ne_of_heap hq ho2
  refine awp_seq ?_
  have R := And.intro hq e1
  refine awp_region (by kernel_rfl) ?_
  iterate 4 (refine aL_S rfl rfl v_ ?_)
  refine aL_X rfl rfl (AOp_use rfl rfl (.inr ⟨rfl, rfl, rfl⟩) g_ va_ (hasPrefix_c) ?_); rintro _ _ ⟨rfl, rfl⟩
  iterate 2 (refine aL_S rfl rfl v_ ?_)
  refine aL_nil ?_
  refine awp_ret ?_
  refine aEnd_ret (σ' := σ) v_ sub_ ?_
  exact ⟨rfl, rfl⟩
theorem pfUnder {q : Nat} {s : ByteArray} {σ : Store} (hq : σ.heap q = some (.cells [vStr s])) (hs : s.size ≤ 1000000) : PFEn 62 [.ref q 0] σ fun x => !hpS x.key (s ++ ⟨#[47]⟩) := ⟨by kernel_rfl, fun τ h x => under1_c (h _ _ hq) hs⟩
def undS (l : List Ent) (s : ByteArray) : List Ent := l.filter fun x => hpS x.key (s ++ ⟨#[47]⟩)
theorem under_c {l : List Ent} {t : Bool} {s : ByteArray} {σ : Store} (hl : l.length ≤ 1000000) (hs : s.size ≤ 1000000) : ACalls Tryz.prog 37 [.sl 4 (l.map sEnt) t, vStr s] σ fun v σ' => v = .sl 4 ((undS l s).map sEnt) false ∧ σ = σ' := by
  refine ACalls_of Tryz.func37 rfl Tryz.ntmps37 (congrArg Array.toList Tryz.results37) (by simp only [List.length_cons, List.length_nil]; decide) ?_; simp only [envOf_cons, envOf_nil, Nat.reduceAdd]
  refine awp_seq ?_
  refine awp_region (by kernel_rfl) ?_
  refine aL_box rfl rfl rfl v_ rfl g_ fun o3 ho3 => ?_
  repeat (rw [none_set_iff] at ho3; obtain ⟨_, ho3⟩ := ho3)
  (refine aL_S rfl rfl v_ ?_)
  refine aL_nil ?_
  refine awp_seq ?_
  refine awp_region (by kernel_rfl) ?_
  (refine aL_S rfl rfl v_ ?_)
  refine aL_X rfl rfl (AOp_use rfl rfl (.inr ⟨rfl, rfl, rfl⟩) g_ va_ (cloneEn hl) ?_); rintro _ τ0 hC0
  (refine aL_S rfl rfl v_ ?_)
  refine aL_X rfl rfl (AOp_use rfl rfl (.inr ⟨rfl, rfl, rfl⟩) g_ va_ (deleteEn (pfUnder (s := s) h_ hs) hC0 hl) ?_); rintro _ _ ⟨rfl, rfl⟩
  (refine aL_S rfl rfl v_ ?_)
  refine aL_nil ?_
  refine awp_ret ?_
  refine aEnd_ret (σ' := σ) v_ sub_ ?_
  exact ⟨by simp [undS], rfl⟩
/-! ### names of tenants -/
def tnU (l : List Ent) (k : ByteArray) : Option ByteArray := match partsS k with | [_, b, c] => if c = bsSecret ∧ tenOk l b = true then some b else none | _ => none
theorem tn_pre {l : List Ent} {k : ByteArray} : tnK l k = if hpS k (bsTenant ++ ⟨#[47]⟩) = true then tnU l k else none := by
  have e0 : bsTenant ++ ⟨#[47]⟩ = B (Lb bsTenant ++ [47]) := by rw [← B_append, B_Lb]; rfl
  have h47 : ∀ c ∈ Lb bsTenant, c ≠ 47 := by decide
  rw [e0]
  unfold tnK tnU
  by_cases hp : hpS k (B (Lb bsTenant ++ [47])) = true
  · rw [if_pos hp]
    obtain ⟨r, hr⟩ := hpS_iff.1 hp
    have hk : k = B (Lb bsTenant ++ 47 :: Lb (B r)) := by apply Lb_inj; rw [hr, Lb_B, Lb_B]; simp
    rw [hk, partsS_at h47]
    split
    · rename_i a b c he
      injection he with h1 h2
      rw [← h1, h2]
      simp
    · rename_i hno
      split
      · rename_i a b c he
        exact absurd he (hno _ _ _)
      · rfl
  · rw [if_neg hp]
    split
    · rename_i a b c he
      rw [if_neg]
      rintro ⟨rfl, _⟩
      apply hp
      unfold partsS at he
      split at he
      · cases he
      · cases hs : splitL (Lb k) with
        | nil => exact absurd hs (splitL_ne _)
        | cons p q =>
          cases q with
          | nil => rw [hs] at he; cases he
          | cons q r =>
            rw [hs] at he
            simp only [List.map_cons] at he
            injection he with h1 h2
            obtain ⟨b', e1, _⟩ := splitL_two hs
            have e2 : p = Lb bsTenant := by rw [← h1, Lb_B]
            exact hpS_iff.2 ⟨b', by rw [e1, e2]; simp⟩
    · rfl
theorem fm_filter {α β : Type} {p : α → Bool} {f g : α → Option β} (h : ∀ x, g x = if p x = true then f x else none) : ∀ l : List α, (l.filter p).filterMap f = l.filterMap g
  | [] => rfl
  | x :: l => by
    rw [List.filterMap_cons, h x]
    cases hp : p x with
    | true => rw [List.filter_cons_of_pos hp, List.filterMap_cons, if_pos rfl, fm_filter h l]
    | false => rw [List.filter_cons_of_neg (by simp [hp]), if_neg (by simp), fm_filter h l]
theorem und_names (l : List Ent) : (undS l bsTenant).filterMap (fun x => tnU l x.key) = l.filterMap fun x => tnK l x.key := fm_filter (fun x => tn_pre) l
theorem tnU_some {l : List Ent} {k b c : ByteArray} (h3 : (partsS k).length = 3) (h1 : (partsS k)[1]? = some b) (h2 : (partsS k)[2]? = some c) : tnU l k = if c = bsSecret ∧ tenOk l b = true then some b else none := by
  unfold tnU
  obtain ⟨a', b', c', e⟩ : ∃ a b c, partsS k = [a, b, c] := by
    match hp : partsS k, h3 with
    | [a, b, c], _ => exact ⟨a, b, c, rfl⟩
  rw [e] at h1 h2 ⊢
  simp only [List.getElem?_cons_succ, List.getElem?_cons_zero, Option.some.injEq] at h1 h2
  subst h1; subst h2; rfl
theorem tnU_none {l : List Ent} {k : ByteArray} (h3 : ¬(partsS k).length = 3) : tnU l k = none := by
  unfold tnU
  split
  · rename_i a b c e; rw [e] at h3; simp at h3
  · rfl
theorem fm_snoc {α β : Type} {f : α → Option β} {l : List α} {k : Nat} {x : α} (h : l[k]? = some x) : (l.take (k + 1)).filterMap f = (l.take k).filterMap f ++ (f x).toList := by
  rw [take_snoc h, List.filterMap_append, List.filterMap_cons]
  cases f x <;> rfl
theorem und_len (l : List Ent) (s : ByteArray) : (undS l s).length ≤ l.length := List.length_filter_le ..
theorem und_sm {l : List Ent} {s : ByteArray} (h : ∀ x ∈ l, EntSm x) : ∀ x ∈ undS l s, EntSm x := fun x hx => h x (List.mem_filter.1 hx).1
set_option maxHeartbeats 2000000 in
theorem all_c {l : List Ent} {t : Bool} {σ : Store} (hl : l.length ≤ 1000000) (hs : ∀ x ∈ l, EntSm x) (hks : ∀ x ∈ l, x.key.size ≤ 400000) : ACalls Tryz.prog 12 [.sl 4 (l.map sEnt) t] σ fun v σ' => v = .sl 1 ((allS l).map vStr) false ∧ σ = σ' := by
  obtain ⟨U, hU⟩ : ∃ U, undS l bsTenant = U := ⟨_, rfl⟩
  have hUl := und_len l bsTenant
  have hUs := und_sm (s := bsTenant) hs
  have hsub : ∀ x ∈ undS l bsTenant, x ∈ l := fun x hx => (List.mem_filter.1 hx).1
  rw [hU] at hUl hUs hsub
  have hall : compactL (sortSS (U.filterMap fun x => tnU l x.key)) = allS l := by rw [← hU, und_names]; rfl
  refine ACalls_of Tryz.func12 rfl Tryz.ntmps12 (congrArg Array.toList Tryz.results12) (by simp only [List.length_cons, List.length_nil]; decide) ?_; simp only [envOf_cons, envOf_nil, Nat.reduceAdd]
  refine awp_seq ?_
  refine awp_region (by kernel_rfl) ?_
  (refine aL_S rfl rfl v_ ?_)
  refine aL_nil ?_
  refine awp_seq ?_
  refine awp_region (by kernel_rfl) ?_
  (refine aL_S rfl rfl v_ ?_)
  refine aL_nil ?_
  refine awp_seq ?_
  refine awp_seq ?_
  refine awp_region (by kernel_rfl) ?_
  (refine aL_S rfl rfl v_ ?_)
  refine aL_X rfl rfl (AOp_use rfl rfl (.inr ⟨rfl, rfl, rfl⟩) g_ va_ (under_c (s := bsTenant) hl (by decide)) ?_); rintro _ _ ⟨rfl, rfl⟩
  iterate 2 (refine aL_S rfl rfl v_ ?_)
  refine aL_nil ?_
  rw [hU]
  refine awp_block ?_
  refine awp_loop_env (ι := Store × AVal × Nat) (fun ⟨τ, g, k⟩ => U.length - k) (fun ⟨τ, g, k⟩ => k ≤ U.length ∧ CBp σ τ 1 (((U.take k).filterMap fun x => tnU l x.key).map vStr) g) (fun ⟨τ, g, k⟩ => [(0, .sl 4 (l.map sEnt) t), (3, g), (10, .sl 4 (U.map sEnt) false), (11, vInt U.length), (12, vInt k)]) (fun ⟨τ, g, k⟩ => τ) (σ, vNil, 0) ?_ ?_ ?_ ?_
  · exact ⟨Nat.zero_le _, .inl ⟨rfl, rfl, rfl⟩⟩
  · exact cv_
  · exact Store.Wk.refl _
  rintro ⟨τ, g, k⟩ ⟨hk, hC⟩
  simp only [envL_cons, envL_nil]
  refine awp_seq ?_
  refine awp_region (by kernel_rfl) ?_
  (refine aL_S rfl rfl v_ ?_)
  refine aL_nil ?_
  refine awp_seq ?_
  refine awp_cond v_ (fun hc3 => ?_) (fun hc3 => ?_)
  · replace hc3 := nm_ hc3
    refine awp_skip ?_
    refine awp_seq ?_
    refine awp_block ?_
    refine awp_seq ?_
    obtain ⟨x, hx⟩ := get_some (l := U) (k := k) (by omega)
    have hxs := hUs x (List.mem_of_getElem? hx)
    have hsn := fm_snoc (f := fun x : Ent => tnU l x.key) hx
    have hle : ((U.take k).filterMap fun x => tnU l x.key).length ≤ U.length := Nat.le_trans (List.length_filterMap_le ..) (by rw [List.length_take]; omega)
    have hpl := partsS_len x.key
    have hkz := hxs.key
    obtain ⟨b, hb⟩ := get_if (partsS x.key) 1
    obtain ⟨c, hc⟩ := get_if (partsS x.key) 2
    have R := hx
    refine awp_region (by kernel_rfl) ?_
    iterate 2 (refine aL_S rfl rfl v_ ?_)
    refine aL_alloc rfl rfl rfl g_ gl_ fun o5 ho5 => ?_
    repeat (rw [none_set_iff] at ho5; obtain ⟨_, ho5⟩ := ho5)
    refine aL_store rfl rfl rfl v_ v_ h_ g_ rfl g_ c_ (by rfl) le_ v_ ?_
    refine aL_nil ?_
    skip
    have n5 := heap_none hC ho5
    have hC1 := cbp_set2 (x := .cells [.lit (.string ⟨#[]⟩), vInt 0, .lit (.string ⟨#[]⟩), .lit (.string ⟨#[]⟩)]) (y := .cells (sEnt x).cells) hC ho5
    refine awp_seq ?_
    refine awp_region (by kernel_rfl) ?_
    iterate 2 (refine aL_S rfl rfl v_ ?_)
    refine aL_X rfl rfl (AOp_use rfl rfl (.inr ⟨rfl, rfl, rfl⟩) g_ va_ (parts_c hkz) ?_); rintro _ _ ⟨rfl, rfl⟩
    (refine aL_S rfl rfl v_ ?_)
    refine aL_nil ?_
    refine awp_seq ?_
    refine awp_seq ?_
    have R := hc
    refine awp_region (by kernel_rfl) ?_
    iterate 4 (refine aL_S rfl rfl v_ ?_)
    refine aL_GF rfl rfl v_ rfl vg_ ?_
    refine aL_GF rfl rfl v_ rfl vg_ ?_
    refine aL_GF rfl rfl v_ rfl vg_ ?_
    refine aL_GF rfl rfl v_ rfl vg_ ?_
    (refine aL_S rfl rfl v_ ?_)
    refine aL_nil ?_
    refine awp_cond v_ (fun hc6 => ?_) (fun hc6 => ?_)
    · replace hc6 := nm_ hc6
      skip
      have hcov : (U.take (k + 1)).filterMap (fun x => tnU l x.key) = (U.take k).filterMap fun x => tnU l x.key := by
        rw [hsn]
        by_cases h3 : (partsS x.key).length = 3
        · rw [tnU_some h3 (hb (by omega)) (hc (by omega)), if_neg (fun hh => by rcases hc6 with h | h; omega; exact h hh.1)]; simp
        · rw [tnU_none h3]; simp
      refine awp_exit ?_
      refine aThen_exit ?_
      refine aBlock_hit ?_
      refine awp_region (by kernel_rfl) ?_
      iterate 2 (refine aL_S rfl rfl v_ ?_)
      refine aL_nil ?_
      refine aNext (ι := Store × AVal × Nat) (i := ⟨τ, g, k⟩) (τ, g, k + 1) ?_ ?_ ?_ ?_
      · show U.length - (k + 1) < U.length - k; omega
      · exact ⟨by show k + 1 ≤ U.length; omega, by rw [hcov]; exact hC⟩
      · exact cv_
      · exact sub_
    · replace hc6 := nm_ hc6
      have h3 : (partsS x.key).length = 3 := by omega
      have hb' := hb (by omega)
      have hbs : b.size ≤ 400000 := Nat.le_trans (partsS_mem (List.mem_of_getElem? hb')).2 (hks x (hsub x (List.mem_of_getElem? hx)))
      have htn := tnU_some (l := l) h3 hb' (hc (by omega))
      refine awp_skip ?_
      refine awp_seq ?_
      have R := hb'
      refine awp_region (by kernel_rfl) ?_
      iterate 4 (refine aL_S rfl rfl v_ ?_)
      refine aL_X rfl rfl (AOp_use rfl rfl (.inr ⟨rfl, rfl, rfl⟩) g_ va_ (of_c hl hs hbs) ?_); rintro _ _ ⟨rfl, rfl⟩
      iterate 3 (refine aL_S rfl rfl v_ ?_)
      refine aL_alloc rfl rfl rfl g_ gl_ fun o7 ho7 => ?_
      repeat (rw [none_set_iff] at ho7; obtain ⟨_, ho7⟩ := ho7)
      refine aL_store rfl rfl rfl v_ v_ h_ g_ rfl g_ c_ (by rfl) le_ v_ ?_
      (refine aL_S rfl rfl v_ ?_)
      refine aL_nil ?_
      skip
      have n7 := heap_none hC1 (i := o7) (by rw [Store.set_ne _ _ (by assumption), Store.set_ne _ _ (by assumption)]; exact ho7)
      have hC2 := cbp_set2 (x := .cells [.lit (.string ⟨#[]⟩), .lit (.string ⟨#[]⟩), vInt 0, vInt 0, vInt 0, vInt 0]) (y := .cells (sTen (tenS l b)).cells) hC1 (i := o7) (by rw [Store.set_ne _ _ (by assumption), Store.set_ne _ _ (by assumption)]; exact ho7)
      refine awp_seq ?_
      refine awp_region (by kernel_rfl) ?_
      (refine aL_S rfl rfl v_ ?_)
      refine aL_nil ?_
      refine awp_cond v_ (fun hc8 => ?_) (fun hc8 => ?_)
      · replace hc8 := nm_ hc8
        have hcov : (U.take (k + 1)).filterMap (fun x => tnU l x.key) = (U.take k).filterMap (fun x => tnU l x.key) ++ [b] := by rw [hsn, htn, if_pos ⟨hc6.2, hc8⟩]; rfl
        have R := hb'
        refine awp_region (by kernel_rfl) ?_
        iterate 4 (refine aL_S rfl rfl v_ ?_)
        refine aL_buildSlice rfl rfl rfl g_ g_ rfl rfl h_ c2_ (by decide) ?_
        refine aL_X rfl rfl (AOp_appendC rfl g_ g_ hC2 va_ (fun y hy => by obtain ⟨s, _, rfl⟩ := List.mem_map.1 hy; rfl) va_ c_ (by simp; omega) fun a' σ' hC3 => ?_)
        rw [show ((U.take k).filterMap fun x => tnU l x.key).map vStr ++ [vStr b] = ((U.take k).filterMap (fun x => tnU l x.key) ++ [b]).map vStr from by simp] at hC3
        obtain ⟨τ1, hC4, hs1⟩ := cbp_drop hC3 n7
        obtain ⟨τ2, hC5, hs2⟩ := cbp_drop hC4 n5
        (refine aL_S rfl rfl v_ ?_)
        refine aL_nil ?_
        refine awp_region (by kernel_rfl) ?_
        iterate 2 (refine aL_S rfl rfl v_ ?_)
        refine aL_nil ?_
        refine aNext (ι := Store × AVal × Nat) (i := ⟨τ, g, k⟩) (τ2, a', k + 1) ?_ ?_ ?_ ?_
        · show U.length - (k + 1) < U.length - k; omega
        · exact ⟨by show k + 1 ≤ U.length; omega, by rw [hcov]; exact hC5⟩
        · exact cv_
        · exact (hs2.trans hs1).wk
      · replace hc8 := nm_ hc8
        have hcov : (U.take (k + 1)).filterMap (fun x => tnU l x.key) = (U.take k).filterMap fun x => tnU l x.key := by rw [hsn, htn, if_neg (by simp [hc8])]; simp
        refine awp_skip ?_
        refine awp_region (by kernel_rfl) ?_
        iterate 2 (refine aL_S rfl rfl v_ ?_)
        refine aL_nil ?_
        refine aNext (ι := Store × AVal × Nat) (i := ⟨τ, g, k⟩) (τ, g, k + 1) ?_ ?_ ?_ ?_
        · show U.length - (k + 1) < U.length - k; omega
        · exact ⟨by show k + 1 ≤ U.length; omega, by rw [hcov]; exact hC⟩
        · exact cv_
        · exact sub_
  · replace hc3 := nm_ hc3
    refine awp_exit ?_
    refine aThen_exit ?_
    refine aThen_exit ?_
    refine aBlock_hit ?_
    refine awp_seq ?_
    obtain rfl : k = U.length := by omega
    rw [List.take_length] at hC
    have hle : (U.filterMap fun x => tnU l x.key).length ≤ U.length := List.length_filterMap_le ..
    refine awp_region (by kernel_rfl) ?_
    (refine aL_S rfl rfl v_ ?_)
    refine aL_X rfl rfl (AOp_use rfl rfl (.inr ⟨rfl, rfl, rfl⟩) g_ va_ (sortStrC hC (by omega)) ?_); rintro _ τ1 ⟨rfl, hC4⟩
    refine aL_nil ?_
    refine awp_seq ?_
    refine awp_region (by kernel_rfl) ?_
    (refine aL_S rfl rfl v_ ?_)
    refine aL_X rfl rfl (AOp_use rfl rfl (.inr ⟨rfl, rfl, rfl⟩) g_ va_ (compactStrC (ss := sortSS (U.filterMap fun x => tnU l x.key)) hC4 (by simp [sortSS]; omega) (by refine Nat.le_trans (compact_le _) (by simp))) ?_); rintro _ _ ⟨rfl, rfl⟩
    (refine aL_S rfl rfl v_ ?_)
    refine aL_nil ?_
    refine awp_ret ?_
    refine aEnd_ret v_ (Store.Wk.refl _) ?_
    exact ⟨by rw [hall], rfl⟩
def anR (l m : List Ent) : List ByteArray := (m.filterMap fun x => tnK l x.key).foldl (fun acc s => insS s acc) []
theorem anR_eq (l : List Ent) : anR l l = allS l := ins_once _
theorem anR_len (l m : List Ent) : (anR l m).length ≤ m.length := by
  unfold anR; rw [ins_once]; exact Nat.le_trans (once_len _) (List.length_filterMap_le ..)
theorem tnK_some {l : List Ent} {k a b c : ByteArray} (h3 : (partsS k).length = 3) (h0 : (partsS k)[0]? = some a) (h1 : (partsS k)[1]? = some b) (h2 : (partsS k)[2]? = some c) : tnK l k = if a = bsTenant ∧ c = bsSecret ∧ tenOk l b = true then some b else none := by
  unfold tnK
  obtain ⟨a', b', c', e⟩ : ∃ a b c, partsS k = [a, b, c] := by
    match hp : partsS k, h3 with
    | [a, b, c], _ => exact ⟨a, b, c, rfl⟩
  rw [e] at h0 h1 h2 ⊢
  simp only [List.getElem?_cons_succ, List.getElem?_cons_zero, Option.some.injEq] at h0 h1 h2
  subst h0; subst h1; subst h2; rfl
theorem tnK_none {l : List Ent} {k : ByteArray} (h3 : ¬(partsS k).length = 3) : tnK l k = none := by
  unfold tnK
  split
  · rename_i a b c e; rw [e] at h3; simp at h3
  · rfl
set_option maxHeartbeats 2000000 in
theorem rAll_c {l : List Ent} {t : Bool} {σ : Store} (hl : l.length ≤ 1000000) (hs : ∀ x ∈ l, EntSm x) (hks : ∀ x ∈ l, x.key.size ≤ 400000) : ACalls Tryz.prog 13 [.sl 4 (l.map sEnt) t] σ fun v σ' => v = .sl 1 ((allS l).map vStr) false ∧ σ = σ' := by
  rw [← anR_eq]
  refine ACalls_of Tryz.func13 rfl Tryz.ntmps13 (congrArg Array.toList Tryz.results13) (by simp only [List.length_cons, List.length_nil]; decide) ?_; simp only [envOf_cons, envOf_nil, Nat.reduceAdd]
  refine awp_seq ?_
  refine awp_region (by kernel_rfl) ?_
  (refine aL_S rfl rfl v_ ?_)
  refine aL_nil ?_
  refine awp_seq ?_
  refine awp_region (by kernel_rfl) ?_
  refine aL_X rfl rfl (AOp_wk (a := vNil) (AOp_val (by rfl) ⟨rfl, rfl⟩) (.nil 1 false) ?_)
  refine aL_nil ?_
  refine awp_seq ?_
  refine awp_seq ?_
  refine awp_region (by kernel_rfl) ?_
  (refine aL_S rfl rfl v_ ?_)
  refine aL_nil ?_
  refine awp_block ?_
  refine awp_loop_env (ι := Nat) (fun i => l.length - i) (fun i => i ≤ l.length) (fun i => [(0, .sl 4 (l.map sEnt) t), (3, .sl 1 ((anR l (l.take i)).map vStr) false), (4, vInt i)]) (fun i => σ) 0 ?_ ?_ ?_ ?_
  · exact Nat.zero_le _
  · exact cv_
  · exact sub_
  rintro i hi
  simp only [envL_cons, envL_nil]
  refine awp_seq ?_
  refine awp_seq ?_
  refine awp_region (by kernel_rfl) ?_
  iterate 4 (refine aL_S rfl rfl v_ ?_)
  refine aL_nil ?_
  refine awp_cond v_ (fun hc3 => ?_) (fun hc3 => ?_)
  · replace hc3 := nm_ hc3
    refine awp_skip ?_
    refine awp_seq ?_
    refine awp_block ?_
    refine awp_seq ?_
    obtain ⟨x, hx⟩ := get_some (l := l) (k := i) (by omega)
    have hxm := List.mem_of_getElem? hx
    have hxs := hs x hxm
    have hkz := hxs.key
    have hsn : anR l (l.take (i + 1)) = match tnK l x.key with | some b => insS b (anR l (l.take i)) | none => anR l (l.take i) := by unfold anR; rw [fm_snoc (f := fun x : Ent => tnK l x.key) hx, List.foldl_append]; cases tnK l x.key <;> rfl
    have hle := anR_len l (l.take i)
    rw [List.length_take] at hle
    have hpl := partsS_len x.key
    obtain ⟨a, ha⟩ := get_if (partsS x.key) 0
    obtain ⟨b, hb⟩ := get_if (partsS x.key) 1
    obtain ⟨c, hc⟩ := get_if (partsS x.key) 2
    have R := hx
    refine awp_region (by kernel_rfl) ?_
    iterate 5 (refine aL_S rfl rfl v_ ?_)
    refine aL_X rfl rfl (AOp_use rfl rfl (.inr ⟨rfl, rfl, rfl⟩) g_ va_ (rParts_c hkz) ?_); rintro _ _ ⟨rfl, rfl⟩
    (refine aL_S rfl rfl v_ ?_)
    refine aL_nil ?_
    refine awp_seq ?_
    refine awp_seq ?_
    have R := And.intro ha hc
    refine awp_region (by kernel_rfl) ?_
    iterate 4 (refine aL_S rfl rfl v_ ?_)
    refine aL_GF rfl rfl v_ rfl vg_ ?_
    refine aL_GF rfl rfl v_ rfl vg_ ?_
    refine aL_GF rfl rfl v_ rfl vg_ ?_
    refine aL_GF rfl rfl v_ rfl vg_ ?_
    iterate 2 (refine aL_S rfl rfl v_ ?_)
    refine aL_GF rfl rfl v_ rfl vg_ ?_
    refine aL_GF rfl rfl v_ rfl vg_ ?_
    refine aL_GF rfl rfl v_ rfl vg_ ?_
    refine aL_GF rfl rfl v_ rfl vg_ ?_
    (refine aL_S rfl rfl v_ ?_)
    refine aL_nil ?_
    refine awp_cond v_ (fun hc6 => ?_) (fun hc6 => ?_)
    · replace hc6 := nm_ hc6
      skip
      have hcov : (anR l (l.take (i + 1))).map vStr = (anR l (l.take i)).map vStr := by
        rw [hsn]
        by_cases h3 : (partsS x.key).length = 3
        · rw [tnK_some h3 (ha (by omega)) (hb (by omega)) (hc (by omega)), if_neg (fun hh => by rcases hc6 with (h | h) | h; omega; exact h hh.1; exact h hh.2.1)]
        · rw [tnK_none h3]
      refine awp_exit ?_
      refine aThen_exit ?_
      refine aBlock_hit ?_
      refine awp_region (by kernel_rfl) ?_
      iterate 3 (refine aL_S rfl rfl v_ ?_)
      refine aL_nil ?_
      refine aNext (ι := Nat) (i := i) (i + 1) ?_ ?_ ?_ ?_
      · omega
      · exact (by omega)
      · have R := hcov; exact cv_
      · exact sub_
    · replace hc6 := nm_ hc6
      have h3 : (partsS x.key).length = 3 := by omega
      have hb' := hb (by omega)
      have hbs : b.size ≤ 400000 := Nat.le_trans (partsS_mem (List.mem_of_getElem? hb')).2 (hks x hxm)
      have htn := tnK_some (l := l) h3 (ha (by omega)) hb' (hc (by omega))
      refine awp_skip ?_
      refine awp_seq ?_
      refine awp_seq ?_
      have R := hb'
      refine awp_region (by kernel_rfl) ?_
      iterate 4 (refine aL_S rfl rfl v_ ?_)
      refine aL_X rfl rfl (AOp_use rfl rfl (.inr ⟨rfl, rfl, rfl⟩) g_ va_ (rOf_c hl hs hbs) ?_); rintro _ _ ⟨rfl, rfl⟩
      iterate 3 (refine aL_S rfl rfl v_ ?_)
      refine aL_alloc rfl rfl rfl g_ gl_ fun o6 ho6 => ?_
      repeat (rw [none_set_iff] at ho6; obtain ⟨_, ho6⟩ := ho6)
      refine aL_store rfl rfl rfl v_ v_ h_ g_ rfl g_ c_ (by rfl) le_ v_ ?_
      (refine aL_S rfl rfl v_ ?_)
      refine aL_nil ?_
      refine awp_seq ?_
      refine awp_region (by kernel_rfl) ?_
      iterate 2 (refine aL_S rfl rfl v_ ?_)
      refine aL_nil ?_
      refine awp_cond v_ (fun hc8 => ?_) (fun hc8 => ?_)
      · replace hc8 := nm_ hc8
        have hcov : (anR l (l.take (i + 1))).map vStr = (anR l (l.take i)).map vStr := by rw [hsn, htn, if_neg (by simp [hc8])]
        refine awp_exit ?_
        refine aThen_exit ?_
        refine aBlock_hit ?_
        refine awp_region (by kernel_rfl) ?_
        iterate 3 (refine aL_S rfl rfl v_ ?_)
        refine aL_nil ?_
        refine aNext (ι := Nat) (i := i) (i + 1) ?_ ?_ ?_ ?_
        · omega
        · exact (by omega)
        · have R := hcov; exact cv_
        · exact sub_
      · replace hc8 := nm_ hc8
        have hcov1 : anR l (l.take (i + 1)) = insS b (anR l (l.take i)) := by rw [hsn, htn, if_pos ⟨hc6.1.2, hc6.2, by simpa using hc8⟩]
        obtain ⟨m, hm⟩ : ∃ m, anR l (l.take i) = m := ⟨_, rfl⟩
        rw [hm] at hle hcov1 ⊢
        refine awp_skip ?_
        refine awp_seq ?_
        refine awp_region (by kernel_rfl) ?_
        (refine aL_S rfl rfl v_ ?_)
        refine aL_nil ?_
        refine awp_seq ?_
        refine awp_block ?_
        refine awp_loop_env (ι := Nat) (fun k => m.length - k) (fun k => k ≤ m.length ∧ ∀ j y, j < k → m[j]? = some y → sLt y b = true) (fun k => [(0, .sl 4 (l.map sEnt) t), (3, .sl 1 (m.map vStr) false), (4, vInt i), (5, .sl 1 ((partsS x.key).map vStr) false), (8, vInt k)]) (fun k => ((σ.set o6 (.cells [.lit (.string ⟨#[]⟩), .lit (.string ⟨#[]⟩), vInt 0, vInt 0, vInt 0, vInt 0])).set o6 (.cells (sTen (tenS l b)).cells))) 0 ?_ ?_ ?_ ?_
        · exact ⟨Nat.zero_le _, fun j y h => by omega⟩
        · exact cv_
        · exact Store.Wk.refl _
        rintro k ⟨hk, hal⟩
        simp only [envL_cons, envL_nil]
        refine awp_seq ?_
        refine awp_seq ?_
        obtain ⟨y, hy⟩ := get_if m k
        have R := And.intro hy hb'
        refine awp_draw (.op 0 0 (.op 1 0 (.op 2 0 (.op 3 0 (.op 4 0 (.op 5 0 (.op 6 0 (.op 7 0 (.op 8 0 (.op 9 0 (.op 10 0 (.op 11 0 (.op 12 0 (.op 13 0 .nil)))))))))))))) Tryz.mixed (by kernel_rfl) ?_
        iterate 5 (refine dR_S o_ (by rfl) (by rfl) v_ ?_)
        refine dR_GT o_ (by rfl) (by rfl) v_ (by rfl) vg_ ?_
        refine dR_GT o_ (by rfl) (by rfl) v_ (by rfl) vg_ ?_
        refine dR_GT o_ (by rfl) (by rfl) v_ (by rfl) vg_ ?_
        refine dR_GT o_ (by rfl) (by rfl) v_ (by rfl) vg_ ?_
        refine dR_GT o_ (by rfl) (by rfl) v_ (by rfl) vg_ ?_
        refine dR_GT o_ (by rfl) (by rfl) v_ (by rfl) vg_ ?_
        refine dR_GT o_ (by rfl) (by rfl) v_ (by rfl) vg_ ?_
        refine dR_GT o_ (by rfl) (by rfl) v_ (by rfl) vg_ ?_
        (refine dR_S o_ (by rfl) (by rfl) v_ ?_)
        refine dR_nil ?_
        refine awp_cond v_ (fun hc10 => ?_) (fun hc10 => ?_)
        · replace hc10 := nm_ hc10
          refine awp_skip ?_
          refine awp_block ?_
          refine awp_region (by kernel_rfl) ?_
          iterate 3 (refine aL_S rfl rfl v_ ?_)
          refine aL_nil ?_
          refine aNext (ι := Nat) (i := k) (k + 1) ?_ ?_ ?_ ?_
          · omega
          · exact ⟨by omega, fun j z hj hz => by rcases Nat.lt_or_eq_of_le (Nat.le_of_lt_succ hj) with h | h; exact hal j z h hz; rw [h, hy (by omega)] at hz; obtain rfl := Option.some.inj hz; exact hc10.2⟩
          · exact cv_
          · exact sub_
        · replace hc10 := nm_ hc10
          refine awp_exit ?_
          refine aThen_exit ?_
          refine aThen_exit ?_
          refine aBlock_hit ?_
          refine awp_seq ?_
          refine awp_seq ?_
          skip
          have hat : insS b m = if m[k]? = some b then m else m.take k ++ b :: m.drop k := insS_at hal (fun z hz => by
            have h1 := (List.getElem?_eq_some_iff.1 hz).1
            rw [hy h1] at hz; obtain rfl := Option.some.inj hz
            rcases hc10 with h | h
            · omega
            · simpa using h) hk
          have R := And.intro hy hb'
          refine awp_draw (.op 0 0 (.op 1 0 (.op 2 0 (.op 3 0 (.op 4 0 (.op 5 0 (.op 6 0 (.op 7 0 (.op 8 0 (.op 9 0 (.op 10 0 (.op 11 0 (.op 12 0 (.op 13 0 .nil)))))))))))))) Tryz.mixed (by kernel_rfl) ?_
          iterate 5 (refine dR_S o_ (by rfl) (by rfl) v_ ?_)
          refine dR_GT o_ (by rfl) (by rfl) v_ (by rfl) vg_ ?_
          refine dR_GT o_ (by rfl) (by rfl) v_ (by rfl) vg_ ?_
          refine dR_GT o_ (by rfl) (by rfl) v_ (by rfl) vg_ ?_
          refine dR_GT o_ (by rfl) (by rfl) v_ (by rfl) vg_ ?_
          refine dR_GT o_ (by rfl) (by rfl) v_ (by rfl) vg_ ?_
          refine dR_GT o_ (by rfl) (by rfl) v_ (by rfl) vg_ ?_
          refine dR_GT o_ (by rfl) (by rfl) v_ (by rfl) vg_ ?_
          refine dR_GT o_ (by rfl) (by rfl) v_ (by rfl) vg_ ?_
          (refine dR_S o_ (by rfl) (by rfl) v_ ?_)
          refine dR_nil ?_
          refine awp_cond v_ (fun hc12 => ?_) (fun hc12 => ?_)
          · replace hc12 := nm_ hc12
            skip
            have hcov : (anR l (l.take (i + 1))).map vStr = m.map vStr := by rw [hcov1, hat, hy (by have := hc12.1; omega), if_pos (by rw [hc12.2])]
            refine awp_exit ?_
            refine aThen_exit ?_
            refine aBlock_hit ?_
            refine awp_region (by kernel_rfl) ?_
            iterate 3 (refine aL_S rfl rfl v_ ?_)
            refine aL_nil ?_
            refine aNext (ι := Nat) (i := i) (i + 1) ?_ ?_ ?_ ?_
            · omega
            · exact (by omega)
            · have R := hcov; exact cv_
            · exact sub_
          · replace hc12 := nm_ hc12
            skip
            have hcov : (anR l (l.take (i + 1))).map vStr = (m.take k).map vStr ++ [vStr b] ++ (m.drop k).map vStr := by
              rw [hcov1, hat, if_neg]
              · simp
              · intro h
                have h1 := (List.getElem?_eq_some_iff.1 h).1
                rw [hy h1] at h
                have h2 := Option.some.inj h
                rcases hc12 with hh | hh
                · omega
                · exact hh h2
            have m1 : (m.map vStr).take k = (m.take k).map vStr := List.map_take.symm
            have m2 : ((m.map vStr).take m.length).drop k = (m.drop k).map vStr := by rw [List.take_of_length_le (by simp), List.map_drop]
            have m3 : (m.map vStr).drop k = (m.drop k).map vStr := List.map_drop.symm
            refine awp_skip ?_
            refine awp_seq ?_
            refine awp_region (by kernel_rfl) ?_
            refine aL_nilOwn 9 1 rfl rfl rfl (by rfl) fun k9 hk9 => ?_
            refine aL_nil ?_
            refine awp_seq ?_
            have R := m1
            refine awp_region (by kernel_rfl) ?_
            iterate 4 (refine aL_S rfl rfl v_ ?_)
            refine aL_append rfl rfl rfl g_ g_ v_ h_ v_ (oneStr _) (by simp; omega) fun k81 hk81 => ?_
            have t81 := (newTok_none hk81).2
            (refine aL_S rfl rfl v_ ?_)
            refine aL_nil ?_
            refine awp_seq ?_
            have R := hb'
            refine awp_region (by kernel_rfl) ?_
            iterate 4 (refine aL_S rfl rfl v_ ?_)
            refine aL_buildSlice rfl rfl rfl g_ g_ rfl rfl h_ c2_ (by decide) ?_
            refine aL_append rfl rfl rfl g_ g_ v_ h_ v_ c_ (by simp; omega) fun k87 hk87 => ?_
            rw [Store.newTok_step (by exact hk9)] at hk87
            have t87 := (newTok_none hk87).2
            (refine aL_S rfl rfl v_ ?_)
            refine aL_nil ?_
            refine awp_seq ?_
            have R := And.intro m2 m3
            refine awp_region (by kernel_rfl) ?_
            iterate 4 (refine aL_S rfl rfl v_ ?_)
            refine aL_append rfl rfl rfl g_ g_ v_ h_ v_ (oneStr _) (by simp; omega) fun k92 hk92 => ?_
            rw [Store.newTok_step (by exact hk9), Store.newTok_step (by exact t81)] at hk92
            have t92 := (newTok_none hk92).2
            have t92' : σ.tok k92 = none := by simpa only [Store.set_tok] using t92
            have t9' : σ.tok k9 = none := by simpa only [Store.set_tok] using hk9
            have t81' : σ.tok k81 = none := by simpa only [Store.set_tok] using t81
            have t87' : σ.tok k87 = none := by simpa only [Store.set_tok] using t87
            (refine aL_S rfl rfl v_ ?_)
            refine aL_nil ?_
            refine awp_region (by kernel_rfl) ?_
            (refine aL_S rfl rfl v_ ?_)
            refine aL_X rfl rfl (AOp_wk (a := .own k92 1 ((m.take k).map vStr ++ [vStr b] ++ (m.drop k).map vStr)) (AOp_val (by rfl) ⟨rfl, rfl⟩) (.own1 _ _ _) ?_)
            refine aL_nil ?_
            refine awp_region (by kernel_rfl) ?_
            iterate 3 (refine aL_S rfl rfl v_ ?_)
            refine aL_nil ?_
            refine aNext (ι := Nat) (i := i) (i + 1) ?_ ?_ ?_ ?_
            · omega
            · exact (by omega)
            · have R := hcov; exact cv_
            · exact sub_
  · replace hc3 := nm_ hc3
    refine awp_exit ?_
    refine aThen_exit ?_
    refine aThen_exit ?_
    refine aBlock_hit ?_
    refine awp_seq ?_
    refine awp_region (by kernel_rfl) ?_
    iterate 2 (refine aL_S rfl rfl v_ ?_)
    refine aL_nil ?_
    refine awp_ret ?_
    refine aEnd_ret (σ' := σ) v_ sub_ ?_
    exact ⟨by rw [List.take_of_length_le (by omega)], rfl⟩
end Go.Proofs.YtbomkkjhafdhiaaGreatDoor
end

section
set_option linter.all false
set_option maxRecDepth 100000
namespace Go.Proofs.YtbomkkjhafdhiaaGreatDoor
open Go.Ab
theorem sameTexts_c {a : List ByteArray} {t1 t2 : Bool} {σ : Store} (hl : a.length ≤ 1000000) : ACalls Tryz.prog 11 [.sl 1 (a.map vStr) t1, .sl 1 (a.map vStr) t2] σ fun v σ' => v = vB true ∧ σ = σ' := by
  refine ACalls_of Tryz.func11 rfl Tryz.ntmps11 (congrArg Array.toList Tryz.results11) (by simp only [List.length_cons, List.length_nil]; decide) ?_; simp only [envOf_cons, envOf_nil, Nat.reduceAdd]
  refine awp_seq ?_
  refine awp_region (by kernel_rfl) ?_
  (refine aL_S rfl rfl v_ ?_)
  refine aL_nil ?_
  refine awp_seq ?_
  refine awp_seq ?_
  refine awp_region (by kernel_rfl) ?_
  iterate 5 (refine aL_S rfl rfl v_ ?_)
  refine aL_nil ?_
  refine awp_cond v_ (fun hc1 => ?_) (fun hc1 => ?_)
  · replace hc1 := nm_ hc1
    simp at hc1
  · replace hc1 := nm_ hc1
    refine awp_skip ?_
    refine awp_seq ?_
    refine awp_seq ?_
    refine awp_region (by kernel_rfl) ?_
    (refine aL_S rfl rfl v_ ?_)
    refine aL_nil ?_
    refine awp_block ?_
    refine awp_loop_env (ι := Nat) (fun k => a.length - k) (fun k => k ≤ a.length) (fun k => [(0, .sl 1 (a.map vStr) t1), (1, .sl 1 (a.map vStr) t2), (5, vInt k)]) (fun k => σ) 0 ?_ ?_ ?_ ?_
    · exact Nat.zero_le _
    · exact cv_
    · exact sub_
    rintro k hk
    simp only [envL_cons, envL_nil]
    refine awp_seq ?_
    refine awp_seq ?_
    refine awp_region (by kernel_rfl) ?_
    iterate 5 (refine aL_S rfl rfl v_ ?_)
    refine aL_GT rfl rfl v_ rfl vg_ ?_
    refine aL_GT rfl rfl v_ rfl vg_ ?_
    refine aL_GT rfl rfl v_ rfl vg_ ?_
    refine aL_GT rfl rfl v_ rfl vg_ ?_
    (refine aL_S rfl rfl v_ ?_)
    refine aL_nil ?_
    refine awp_cond v_ (fun hc4 => ?_) (fun hc4 => ?_)
    · replace hc4 := nm_ hc4
      refine awp_skip ?_
      refine awp_seq ?_
      refine awp_block ?_
      refine awp_seq ?_
      obtain ⟨x, hx⟩ := get_some (l := a) (k := k) (by omega)
      have R := hx
      refine awp_draw (.op 0 0 (.op 1 0 (.op 2 0 (.op 3 0 (.op 4 0 (.op 5 0 (.op 6 0 (.op 7 0 (.op 8 0 .nil))))))))) Tryz.mixed (by kernel_rfl) ?_
      iterate 9 (refine dR_S o_ (by rfl) (by rfl) v_ ?_)
      refine dR_nil ?_
      refine awp_cond v_ (fun hc6 => ?_) (fun hc6 => ?_)
      · replace hc6 := nm_ hc6
        simp at hc6
      · replace hc6 := nm_ hc6
        refine awp_skip ?_
        refine awp_region (by kernel_rfl) ?_
        iterate 3 (refine aL_S rfl rfl v_ ?_)
        refine aL_nil ?_
        refine aNext (ι := Nat) (i := k) (k + 1) ?_ ?_ ?_ ?_
        · omega
        · exact (by omega)
        · exact cv_
        · exact sub_
    · replace hc4 := nm_ hc4
      refine awp_exit ?_
      refine aThen_exit ?_
      refine aThen_exit ?_
      refine aBlock_hit ?_
      refine awp_seq ?_
      refine awp_region (by kernel_rfl) ?_
      (refine aL_S rfl rfl v_ ?_)
      refine aL_nil ?_
      refine awp_ret ?_
      refine aEnd_ret (σ' := σ) v_ sub_ ?_
      exact ⟨rfl, rfl⟩
abbrev tN : ByteArray := ⟨#[110, 49]⟩
abbrev tT : ByteArray := ⟨#[116]⟩
abbrev tS : ByteArray := ⟨#[115]⟩
abbrev eX : Ent := ⟨⟨#[116, 101, 110, 97, 110, 116, 47, 116, 47, 115, 101, 99, 114, 101, 116]⟩, 1, tN, tS⟩
abbrev eY : Ent := ⟨⟨#[116, 101, 110, 97, 110, 116, 47, 116, 47, 114, 97, 116, 101]⟩, 1, tN, ⟨#[51]⟩⟩
theorem itoa_3 : Lib.itoa 3 = [51] := by rw [show (3 : Int) = ((3 : Nat) : Int) from rfl, Lib.itoa_nonneg, dec_one (by decide)]; rfl
theorem num_3 : numS ⟨#[51]⟩ = some 3 := numS_some.2 ⟨by rw [itoa_3]; rfl, by decide, by decide⟩
theorem num_e : numS ⟨#[]⟩ = none := by kernel_rfl
theorem sec_x : secS [] tN tT tS = (eX, 0) := by kernel_rfl
theorem lim_y : limitS [] tN tT bsRate 3 = (eY, 0) := by unfold limitS; rw [itoa_3]; kernel_rfl
theorem lim_n : limitS [] tN tT bsRate (-1) = (zeroR, 1) := by kernel_rfl
theorem ok_1 : tenOk [eY, eX] tT = true := by kernel_rfl
theorem ok_2 : tenOk [eY] tT = false := by kernel_rfl
theorem ten_1 : tenS [eY, eX] tT = ⟨tT, tS, 1048576, 3, 16, 16⟩ := by
  have g1 : getS [eY, eX] (keyS tT bsSecret) = eX := by kernel_rfl
  have g2 : getS [eY, eX] (keyS tT bsRate) = eY := by kernel_rfl
  have g3 : getS [eY, eX] (keyS tT bsBytes) = zeroR := by kernel_rfl
  have g4 : getS [eY, eX] (keyS tT bsBurst) = zeroR := by kernel_rfl
  have g5 : getS [eY, eX] (keyS tT bsQueue) = zeroR := by kernel_rfl
  obtain ⟨b1, b2, b3, b4⟩ := bnd_vals
  rw [tenS, if_pos ok_1, limS, limS, limS, limS, g1, g2, g3, g4, g5, b1, b2, b3, b4]
  unfold limN
  rw [num_3, show numS zeroR.value = none from num_e]
  rfl
theorem all_1 : allS [eY, eX] = [tT] := by
  rw [← anR_eq]
  kernel_rfl
theorem key_x : keyS tT ⟨#[120]⟩ = ⟨#[116, 101, 110, 97, 110, 116, 47, 116, 47, 120]⟩ := by kernel_rfl
theorem eXY_sm : ∀ x ∈ [eY, eX], EntSm x ∧ x.key.size ≤ 400000 := fun x hx => by
  rcases List.mem_cons.1 hx with rfl | hx
  · exact ⟨⟨by decide, by decide, by decide⟩, by decide⟩
  · rw [List.mem_singleton.1 hx]; exact ⟨⟨by decide, by decide, by decide⟩, by decide⟩
theorem eY_sm : ∀ x ∈ [eY], EntSm x := fun x hx => (eXY_sm x (by rw [List.mem_singleton.1 hx]; exact .head _)).1
theorem nil_sm : ∀ x ∈ ([] : List Ent), EntSm x := fun x hx => (List.not_mem_nil hx).elim
theorem awake23_c {σ : Store} : ACalls Tryz.prog 8 [] σ fun v σ' => v = vB true ∧ σ = σ' := by
  refine ACalls_of Tryz.func8 rfl Tryz.ntmps8 (congrArg Array.toList Tryz.results8) (by simp only [List.length_cons, List.length_nil]; decide) ?_; simp only [envOf_cons, envOf_nil, Nat.reduceAdd]
  refine awp_seq ?_
  refine awp_region (by kernel_rfl) ?_
  (refine aL_S rfl rfl v_ ?_)
  refine aL_nil ?_
  refine awp_seq ?_
  refine awp_region (by kernel_rfl) ?_
  refine aL_X rfl rfl (AOp_use rfl rfl (.inr ⟨rfl, rfl, rfl⟩) g_ va_ (ACalls.wkA (args := [vNil, vStr tN, vStr tT, vStr tS]) (secret_c (l := []) (t := false) nil_sm (by decide) (by decide) (by decide)) rfl (fun j hj hj' => by match j, hj with | 0, _ => exact .nil _ _ | 1, _ => exact .refl _ | 2, _ => exact .refl _ | 3, _ => exact .refl _)) ?_); rintro _ _ ⟨rfl, rfl⟩
  rw [sec_x]
  iterate 3 (refine aL_S rfl rfl v_ ?_)
  refine aL_alloc rfl rfl rfl g_ gl_ fun o1 ho1 => ?_
  repeat (rw [none_set_iff] at ho1; obtain ⟨_, ho1⟩ := ho1)
  refine aL_store rfl rfl rfl v_ v_ h_ g_ rfl g_ c_ (by rfl) le_ v_ ?_
  (refine aL_S rfl rfl v_ ?_)
  refine aL_nil ?_
  refine awp_seq ?_
  refine awp_region (by kernel_rfl) ?_
  refine aL_X rfl rfl (AOp_use rfl rfl (.inr ⟨rfl, rfl, rfl⟩) g_ va_ (ACalls.wkA (args := [vNil, vStr tN, vStr tT, vStr bsRate, vInt 3]) (limit_c (l := []) (t := false) nil_sm (by decide) (by decide) (by decide) (by decide) (by decide) (by decide)) rfl (fun j hj hj' => by match j, hj with | 0, _ => exact .nil _ _ | 1, _ => exact .refl _ | 2, _ => exact .refl _ | 3, _ => exact .refl _ | 4, _ => exact .refl _)) ?_); rintro _ _ ⟨rfl, rfl⟩
  rw [lim_y]
  iterate 3 (refine aL_S rfl rfl v_ ?_)
  refine aL_alloc rfl rfl rfl g_ gl_ fun o3 ho3 => ?_
  repeat (rw [none_set_iff] at ho3; obtain ⟨_, ho3⟩ := ho3)
  refine aL_store rfl rfl rfl v_ v_ h_ g_ rfl g_ c_ (by rfl) le_ v_ ?_
  (refine aL_S rfl rfl v_ ?_)
  refine aL_nil ?_
  refine awp_seq ?_
  refine awp_region (by kernel_rfl) ?_
  refine aL_X rfl rfl (AOp_use rfl rfl (.inr ⟨rfl, rfl, rfl⟩) g_ va_ (ACalls.wkA (args := [vNil, vStr tN, vStr tT, vStr bsRate, vInt (-1)]) (limit_c (l := []) (t := false) nil_sm (by decide) (by decide) (by decide) (by decide) (by decide) (by decide)) rfl (fun j hj hj' => by match j, hj with | 0, _ => exact .nil _ _ | 1, _ => exact .refl _ | 2, _ => exact .refl _ | 3, _ => exact .refl _ | 4, _ => exact .refl _)) ?_); rintro _ _ ⟨rfl, rfl⟩
  rw [lim_n]
  iterate 3 (refine aL_S rfl rfl v_ ?_)
  refine aL_alloc rfl rfl rfl g_ gl_ fun o5 ho5 => ?_
  repeat (rw [none_set_iff] at ho5; obtain ⟨_, ho5⟩ := ho5)
  refine aL_store rfl rfl rfl v_ v_ h_ g_ rfl g_ c_ (by rfl) le_ v_ ?_
  (refine aL_S rfl rfl v_ ?_)
  refine aL_nil ?_
  refine awp_seq ?_
  refine awp_region (by kernel_rfl) ?_
  iterate 2 (refine aL_S rfl rfl v_ ?_)
  refine aL_buildSlice rfl rfl rfl g_ g_ rfl rfl h_ c2_ (by decide) ?_
  refine aL_X rfl rfl (AOp_use rfl rfl (.inr ⟨rfl, rfl, rfl⟩) g_ va_ (of_c (l := [eY, eX]) (t := true) (by decide) (fun x hx => (eXY_sm x hx).1) (by decide)) ?_); rintro _ _ ⟨rfl, rfl⟩
  rw [ok_1, ten_1]
  iterate 3 (refine aL_S rfl rfl v_ ?_)
  refine aL_alloc rfl rfl rfl g_ gl_ fun o7 ho7 => ?_
  repeat (rw [none_set_iff] at ho7; obtain ⟨_, ho7⟩ := ho7)
  refine aL_store rfl rfl rfl v_ v_ h_ g_ rfl g_ c_ (by rfl) le_ v_ ?_
  (refine aL_S rfl rfl v_ ?_)
  refine aL_nil ?_
  refine awp_seq ?_
  refine awp_region (by kernel_rfl) ?_
  (refine aL_S rfl rfl v_ ?_)
  refine aL_buildSlice rfl rfl rfl g_ g_ rfl rfl h_ c2_ (by decide) ?_
  refine aL_X rfl rfl (AOp_use rfl rfl (.inr ⟨rfl, rfl, rfl⟩) g_ va_ (of_c (l := [eY]) (t := true) (by decide) eY_sm (by decide)) ?_); rintro _ _ ⟨rfl, rfl⟩
  rw [ok_2]
  iterate 3 (refine aL_S rfl rfl v_ ?_)
  refine aL_alloc rfl rfl rfl g_ gl_ fun o9 ho9 => ?_
  repeat (rw [none_set_iff] at ho9; obtain ⟨_, ho9⟩ := ho9)
  refine aL_store rfl rfl rfl v_ v_ h_ g_ rfl g_ c_ (by rfl) le_ v_ ?_
  (refine aL_S rfl rfl v_ ?_)
  refine aL_nil ?_
  refine awp_seq ?_
  refine awp_region (by kernel_rfl) ?_
  iterate 3 (refine aL_S rfl rfl v_ ?_)
  refine aL_SY (wantedA_yes rfl rfl v_ (by rfl)) rfl v_ ?_
  refine aL_SY (wantedA_yes rfl rfl v_ (by rfl)) rfl v_ ?_
  iterate 2 (refine aL_S rfl rfl v_ ?_)
  refine aL_SY (wantedA_yes rfl rfl v_ (by rfl)) rfl v_ ?_
  refine aL_SY (wantedA_yes rfl rfl v_ (by rfl)) rfl v_ ?_
  iterate 2 (refine aL_S rfl rfl v_ ?_)
  refine aL_SY (wantedA_yes rfl rfl v_ (by rfl)) rfl v_ ?_
  iterate 2 (refine aL_S rfl rfl v_ ?_)
  refine aL_SY (wantedA_yes rfl rfl v_ (by rfl)) rfl v_ ?_
  refine aL_SY (wantedA_yes rfl rfl v_ (by rfl)) rfl v_ ?_
  iterate 2 (refine aL_S rfl rfl v_ ?_)
  refine aL_SY (wantedA_yes rfl rfl v_ (by rfl)) rfl v_ ?_
  refine aL_SY (wantedA_yes rfl rfl v_ (by rfl)) rfl v_ ?_
  refine aL_SY (wantedA_yes rfl rfl v_ (by rfl)) rfl v_ ?_
  iterate 2 (refine aL_S rfl rfl v_ ?_)
  refine aL_SY (wantedA_yes rfl rfl v_ (by rfl)) rfl v_ ?_
  refine aL_SY (wantedA_yes rfl rfl v_ (by rfl)) rfl v_ ?_
  refine aL_XY (wantedA_yes rfl rfl v_ (by rfl)) rfl (AOp_buildSlice' rfl g_ g_ rfl rfl h_ c2_ (by decide) ?_)
  refine aL_XY (wantedA_yes rfl rfl v_ (by rfl)) rfl (AOp_use rfl rfl (.inr ⟨rfl, rfl, rfl⟩) g_ va_ (all_c (l := [eY, eX]) (t := true) (by decide) (fun x hx => (eXY_sm x hx).1) (fun x hx => (eXY_sm x hx).2)) ?_); rintro _ _ ⟨rfl, rfl⟩
  rw [all_1]
  refine aL_XY (wantedA_yes rfl rfl v_ (by rfl)) rfl (AOp_buildSlice' rfl g_ g_ rfl rfl h_ c2_ (by decide) ?_)
  refine aL_XY (wantedA_yes rfl rfl v_ (by rfl)) rfl (AOp_use rfl rfl (.inr ⟨rfl, rfl, rfl⟩) g_ va_ (sameTexts_c (a := [tT]) (by decide)) ?_); rintro _ _ ⟨rfl, rfl⟩
  iterate 2 (refine aL_S rfl rfl v_ ?_)
  refine aL_XY (wantedA_yes rfl rfl v_ (by rfl)) rfl (AOp_use rfl rfl (.inr ⟨rfl, rfl, rfl⟩) g_ va_ (key_c (a := tT) (f := ⟨#[120]⟩) (by decide) (by decide)) ?_); rintro _ _ ⟨rfl, rfl⟩
  rw [key_x]
  refine aL_SY (wantedA_yes rfl rfl v_ (by rfl)) rfl v_ ?_
  iterate 2 (refine aL_S rfl rfl v_ ?_)
  refine aL_nil ?_
  refine awp_ret ?_
  refine aEnd_ret (σ' := σ) v_ sub_ ?_
  exact ⟨rfl, rfl⟩
end Go.Proofs.YtbomkkjhafdhiaaGreatDoor
end

section
set_option linter.all false
set_option maxRecDepth 100000
namespace Go.Proofs.YtbomkkjhafdhiaaGreatDoor
open Go.Ab
theorem tenantOf_c {l : List Ent} {t : Bool} {a f : ByteArray} {σ : Store} : ACalls Tryz.prog 3 [.sl 4 (l.map sEnt) t, vStr a, vStr f] σ fun v σ' => v = vB true ∧ σ = σ' := by
  refine ACalls_of Tryz.func3 rfl Tryz.ntmps3 (congrArg Array.toList Tryz.results3) (by simp only [List.length_cons, List.length_nil]; decide) ?_; simp only [envOf_cons, envOf_nil, Nat.reduceAdd]
  refine awp_seq ?_
  refine awp_region (by kernel_rfl) ?_
  (refine aL_S rfl rfl v_ ?_)
  refine aL_nil ?_
  refine awp_seq ?_
  refine awp_seq ?_
  refine awp_region (by kernel_rfl) ?_
  (refine aL_S rfl rfl v_ ?_)
  refine aL_X rfl rfl (AOp_use rfl rfl (.inr ⟨rfl, rfl, rfl⟩) g_ va_ (fewEn_c (n := 30) (by decide)) ?_); rintro _ _ ⟨rfl, rfl⟩
  iterate 2 (refine aL_S rfl rfl v_ ?_)
  refine aL_GF rfl rfl v_ rfl vg_ ?_
  refine aL_GF rfl rfl v_ rfl vg_ ?_
  refine aL_GF rfl rfl v_ rfl vg_ ?_
  iterate 2 (refine aL_S rfl rfl v_ ?_)
  refine aL_GF rfl rfl v_ rfl vg_ ?_
  refine aL_GF rfl rfl v_ rfl vg_ ?_
  refine aL_GF rfl rfl v_ rfl vg_ ?_
  (refine aL_S rfl rfl v_ ?_)
  refine aL_nil ?_
  refine awp_cond v_ (fun hc1 => ?_) (fun hc1 => ?_)
  · replace hc1 := nm_ hc1
    refine awp_seq ?_
    refine awp_region (by kernel_rfl) ?_
    refine aL_X rfl rfl (AOp_use rfl rfl (.inr ⟨rfl, rfl, rfl⟩) g_ va_ (awake23_c) ?_); rintro _ _ ⟨rfl, rfl⟩
    (refine aL_S rfl rfl v_ ?_)
    refine aL_nil ?_
    refine awp_ret ?_
    refine aEnd_ret (σ' := σ) v_ sub_ ?_
    exact ⟨rfl, rfl⟩
  · replace hc1 := nm_ hc1
    obtain ⟨nl, hs, hk⟩ := fewEn_sm hc1.1.1
    have ha : a.size ≤ 100 := by omega
    have hf : f.size ≤ 100 := by omega
    have hk4 : ∀ x ∈ l, x.key.size ≤ 400000 := fun x hx => by have := (hk x hx).1; omega
    have hal := all_len l
    refine awp_skip ?_
    refine awp_seq ?_
    refine awp_region (by kernel_rfl) ?_
    iterate 2 (refine aL_S rfl rfl v_ ?_)
    refine aL_X rfl rfl (AOp_use rfl rfl (.inr ⟨rfl, rfl, rfl⟩) g_ va_ (of_c (by omega) hs (by omega)) ?_); rintro _ _ ⟨rfl, rfl⟩
    iterate 3 (refine aL_S rfl rfl v_ ?_)
    refine aL_alloc rfl rfl rfl g_ gl_ fun o7 ho7 => ?_
    repeat (rw [none_set_iff] at ho7; obtain ⟨_, ho7⟩ := ho7)
    refine aL_store rfl rfl rfl v_ v_ h_ g_ rfl g_ c_ (by rfl) le_ v_ ?_
    (refine aL_S rfl rfl v_ ?_)
    refine aL_nil ?_
    refine awp_seq ?_
    refine awp_region (by kernel_rfl) ?_
    iterate 2 (refine aL_S rfl rfl v_ ?_)
    refine aL_X rfl rfl (AOp_use rfl rfl (.inr ⟨rfl, rfl, rfl⟩) g_ va_ (rOf_c (by omega) hs (by omega)) ?_); rintro _ _ ⟨rfl, rfl⟩
    iterate 3 (refine aL_S rfl rfl v_ ?_)
    refine aL_alloc rfl rfl rfl g_ gl_ fun o9 ho9 => ?_
    repeat (rw [none_set_iff] at ho9; obtain ⟨_, ho9⟩ := ho9)
    refine aL_store rfl rfl rfl v_ v_ h_ g_ rfl g_ c_ (by rfl) le_ v_ ?_
    (refine aL_S rfl rfl v_ ?_)
    refine aL_nil ?_
    refine awp_seq ?_
    refine awp_region (by kernel_rfl) ?_
    iterate 4 (refine aL_S rfl rfl v_ ?_)
    refine aL_SY (wantedA_yes rfl rfl v_ (by rfl)) rfl v_ ?_
    refine aL_SY (wantedA_yes rfl rfl v_ (by rfl)) rfl v_ ?_
    refine aL_SY (wantedA_yes rfl rfl v_ (by rfl)) rfl v_ ?_
    iterate 2 (refine aL_S rfl rfl v_ ?_)
    refine aL_SY (wantedA_yes rfl rfl v_ (by rfl)) rfl v_ ?_
    refine aL_XY (wantedA_yes rfl rfl v_ (by rfl)) rfl (AOp_use rfl rfl (.inr ⟨rfl, rfl, rfl⟩) g_ va_ (all_c (by omega) hs hk4) ?_); rintro _ _ ⟨rfl, rfl⟩
    refine aL_SY (wantedA_yes rfl rfl v_ (by rfl)) rfl v_ ?_
    refine aL_XY (wantedA_yes rfl rfl v_ (by rfl)) rfl (AOp_use rfl rfl (.inr ⟨rfl, rfl, rfl⟩) g_ va_ (rAll_c (by omega) hs hk4) ?_); rintro _ _ ⟨rfl, rfl⟩
    refine aL_XY (wantedA_yes rfl rfl v_ (by rfl)) rfl (AOp_use rfl rfl (.inr ⟨rfl, rfl, rfl⟩) g_ va_ (sameTexts_c (by omega)) ?_); rintro _ _ ⟨rfl, rfl⟩
    iterate 2 (refine aL_S rfl rfl v_ ?_)
    refine aL_SY (wantedA_yes rfl rfl v_ (by rfl)) rfl v_ ?_
    refine aL_SY (wantedA_yes rfl rfl v_ (by rfl)) rfl v_ ?_
    refine aL_XY (wantedA_yes rfl rfl v_ (by rfl)) rfl (AOp_use rfl rfl (.inr ⟨rfl, rfl, rfl⟩) g_ va_ (key_c (by omega) (by omega)) ?_); rintro _ _ ⟨rfl, rfl⟩
    refine aL_SY (wantedA_yes rfl rfl v_ (by rfl)) rfl v_ ?_
    refine aL_SY (wantedA_yes rfl rfl v_ (by rfl)) rfl v_ ?_
    refine aL_XY (wantedA_yes rfl rfl v_ (by rfl)) rfl (AOp_use rfl rfl (.inr ⟨rfl, rfl, rfl⟩) g_ va_ (rKey_c (by omega) (by omega)) ?_); rintro _ _ ⟨rfl, rfl⟩
    refine aL_SY (wantedA_yes rfl rfl v_ (by rfl)) rfl v_ ?_
    iterate 2 (refine aL_S rfl rfl v_ ?_)
    refine aL_XY (wantedA_yes rfl rfl v_ (by rfl)) rfl (AOp_use rfl rfl (.inr ⟨rfl, rfl, rfl⟩) g_ va_ (awake23_c) ?_); rintro _ _ ⟨rfl, rfl⟩
    iterate 2 (refine aL_S rfl rfl v_ ?_)
    refine aL_nil ?_
    refine awp_ret ?_
    refine aEnd_ret (σ' := σ) v_ sub_ ?_
    exact ⟨rfl, rfl⟩
theorem tenantSets_c {l : List Ent} {t : Bool} {x0 x1 x2 x3 : ByteArray} {n : Int} {σ : Store} (h0 : -9223372036854775808 ≤ n) (h1 : n ≤ 9223372036854775807) : ACalls Tryz.prog 4 [.sl 4 (l.map sEnt) t, .agg [vStr x0, vStr x1, vStr x2, vStr x3], vInt n] σ fun v σ' => v = vB true ∧ σ = σ' := by
  refine ACalls_of Tryz.func4 rfl Tryz.ntmps4 (congrArg Array.toList Tryz.results4) (by simp only [List.length_cons, List.length_nil]; decide) ?_; simp only [envOf_cons, envOf_nil, Nat.reduceAdd]
  refine awp_seq ?_
  refine awp_region (by kernel_rfl) ?_
  refine aL_box rfl rfl rfl v_ rfl g_ fun o4 ho4 => ?_
  repeat (rw [none_set_iff] at ho4; obtain ⟨_, ho4⟩ := ho4)
  (refine aL_S rfl rfl v_ ?_)
  refine aL_nil ?_
  refine awp_seq ?_
  refine awp_seq ?_
  refine awp_region (by kernel_rfl) ?_
  (refine aL_S rfl rfl v_ ?_)
  refine aL_X rfl rfl (AOp_use rfl rfl (.inr ⟨rfl, rfl, rfl⟩) g_ va_ (fewEn_c (n := 30) (by decide)) ?_); rintro _ _ ⟨rfl, rfl⟩
  (refine aL_S rfl rfl v_ ?_)
  refine aL_nil ?_
  refine awp_cond v_ (fun hc1 => ?_) (fun hc1 => ?_)
  · replace hc1 := nm_ hc1
    refine awp_seq ?_
    refine awp_region (by kernel_rfl) ?_
    refine aL_X rfl rfl (AOp_use rfl rfl (.inr ⟨rfl, rfl, rfl⟩) g_ va_ (awake23_c) ?_); rintro _ _ ⟨rfl, rfl⟩
    (refine aL_S rfl rfl v_ ?_)
    refine aL_nil ?_
    refine awp_ret ?_
    refine aEnd_ret (σ' := σ) v_ sub_ ?_
    exact ⟨rfl, rfl⟩
  · replace hc1 := nm_ hc1
    refine awp_skip ?_
    refine awp_seq ?_
    refine awp_seq ?_
    refine awp_region (by kernel_rfl) ?_
    (refine aL_S rfl rfl v_ ?_)
    refine aL_nil ?_
    refine awp_block ?_
    refine awp_loop_env (ι := Nat) (fun i => 4 - i) (fun i => i ≤ 4 ∧ ∀ j x, j < i → [x0, x1, x2, x3][j]? = some x → x.size ≤ 100) (fun i => [(0, .sl 4 (l.map sEnt) t), (2, vInt n), (4, .ref o4 0), (7, vInt i)]) (fun i => (σ.set o4 (.cells [vStr x0, vStr x1, vStr x2, vStr x3]))) 0 ?_ ?_ ?_ ?_
    · exact ⟨Nat.zero_le _, fun j x h => by omega⟩
    · exact cv_
    · exact Store.Wk.refl _
    rintro i ⟨hi, hx⟩
    simp only [envL_cons, envL_nil]
    refine awp_seq ?_
    refine awp_seq ?_
    refine awp_region (by kernel_rfl) ?_
    iterate 2 (refine aL_S rfl rfl v_ ?_)
    refine aL_nil ?_
    refine awp_cond v_ (fun hc4 => ?_) (fun hc4 => ?_)
    · replace hc4 := nm_ hc4
      refine awp_skip ?_
      refine awp_seq ?_
      refine awp_block ?_
      refine awp_seq ?_
      obtain ⟨x, hxi⟩ := get_some (l := [x0, x1, x2, x3]) (k := i) (by show i < 4; omega)
      have hxv : ([vStr x0, vStr x1, vStr x2, vStr x3] : List AVal)[i]? = some (vStr x) := by
        have := congrArg (Option.map vStr) hxi
        rw [← List.getElem?_map] at this
        exact this
      have R := hxv
      refine awp_region (by kernel_rfl) ?_
      iterate 5 (refine aL_S rfl rfl v_ ?_)
      refine aL_nil ?_
      refine awp_cond v_ (fun hc6 => ?_) (fun hc6 => ?_)
      · replace hc6 := nm_ hc6
        refine awp_seq ?_
        refine awp_region (by kernel_rfl) ?_
        refine aL_X rfl rfl (AOp_use rfl rfl (.inr ⟨rfl, rfl, rfl⟩) g_ va_ (awake23_c) ?_); rintro _ _ ⟨rfl, rfl⟩
        (refine aL_S rfl rfl v_ ?_)
        refine aL_nil ?_
        refine awp_ret ?_
        refine aEnd_ret (σ' := σ) v_ sub_ ?_
        exact ⟨rfl, rfl⟩
      · replace hc6 := nm_ hc6
        refine awp_skip ?_
        refine awp_region (by kernel_rfl) ?_
        iterate 3 (refine aL_S rfl rfl v_ ?_)
        refine aL_nil ?_
        refine aNext (ι := Nat) (i := i) (i + 1) ?_ ?_ ?_ ?_
        · omega
        · exact ⟨by omega, fun j y hj hy => by rcases Nat.lt_or_eq_of_le (Nat.le_of_lt_succ hj) with h | h; exact hx j y h hy; rw [h, hxi] at hy; obtain rfl := Option.some.inj hy; omega⟩
        · exact cv_
        · exact sub_
    · replace hc4 := nm_ hc4
      refine awp_exit ?_
      refine aThen_exit ?_
      refine aThen_exit ?_
      refine aBlock_hit ?_
      refine awp_seq ?_
      obtain rfl : i = 4 := by omega
      obtain ⟨nl, hs, hk⟩ := fewEn_sm (show fewEn l 30 = true from by simpa using hc1)
      have z0 := hx 0 x0 (by decide) rfl
      have z1 := hx 1 x1 (by decide) rfl
      have z2 := hx 2 x2 (by decide) rfl
      have z3 := hx 3 x3 (by decide) rfl
      refine awp_region (by kernel_rfl) ?_
      iterate 7 (refine aL_S rfl rfl v_ ?_)
      refine aL_X rfl rfl (AOp_use rfl rfl (.inr ⟨rfl, rfl, rfl⟩) g_ va_ (secret_c hs (by omega) (by omega) (by omega)) ?_); rintro _ _ ⟨rfl, rfl⟩
      iterate 3 (refine aL_S rfl rfl v_ ?_)
      refine aL_alloc rfl rfl rfl g_ gl_ fun o8 ho8 => ?_
      repeat (rw [none_set_iff] at ho8; obtain ⟨_, ho8⟩ := ho8)
      refine aL_store rfl rfl rfl v_ v_ h_ g_ rfl g_ c_ (by rfl) le_ v_ ?_
      (refine aL_S rfl rfl v_ ?_)
      refine aL_nil ?_
      refine awp_seq ?_
      refine awp_region (by kernel_rfl) ?_
      iterate 7 (refine aL_S rfl rfl v_ ?_)
      refine aL_X rfl rfl (AOp_use rfl rfl (.inr ⟨rfl, rfl, rfl⟩) g_ va_ (rSecret_c hs (by omega) (by omega) (by omega)) ?_); rintro _ _ ⟨rfl, rfl⟩
      iterate 3 (refine aL_S rfl rfl v_ ?_)
      refine aL_alloc rfl rfl rfl g_ gl_ fun o10 ho10 => ?_
      repeat (rw [none_set_iff] at ho10; obtain ⟨_, ho10⟩ := ho10)
      refine aL_store rfl rfl rfl v_ v_ h_ g_ rfl g_ c_ (by rfl) le_ v_ ?_
      (refine aL_S rfl rfl v_ ?_)
      refine aL_nil ?_
      refine awp_seq ?_
      refine awp_region (by kernel_rfl) ?_
      iterate 8 (refine aL_S rfl rfl v_ ?_)
      refine aL_X rfl rfl (AOp_use rfl rfl (.inr ⟨rfl, rfl, rfl⟩) g_ va_ (limit_c hs (by omega) (by omega) (by omega) (by omega) h0 h1) ?_); rintro _ _ ⟨rfl, rfl⟩
      iterate 3 (refine aL_S rfl rfl v_ ?_)
      refine aL_alloc rfl rfl rfl g_ gl_ fun o12 ho12 => ?_
      repeat (rw [none_set_iff] at ho12; obtain ⟨_, ho12⟩ := ho12)
      refine aL_store rfl rfl rfl v_ v_ h_ g_ rfl g_ c_ (by rfl) le_ v_ ?_
      (refine aL_S rfl rfl v_ ?_)
      refine aL_nil ?_
      refine awp_seq ?_
      refine awp_region (by kernel_rfl) ?_
      iterate 8 (refine aL_S rfl rfl v_ ?_)
      refine aL_X rfl rfl (AOp_use rfl rfl (.inr ⟨rfl, rfl, rfl⟩) g_ va_ (rLimit_c hs (by omega) (by omega) (by omega) (by omega) h0 h1) ?_); rintro _ _ ⟨rfl, rfl⟩
      iterate 3 (refine aL_S rfl rfl v_ ?_)
      refine aL_alloc rfl rfl rfl g_ gl_ fun o14 ho14 => ?_
      repeat (rw [none_set_iff] at ho14; obtain ⟨_, ho14⟩ := ho14)
      refine aL_store rfl rfl rfl v_ v_ h_ g_ rfl g_ c_ (by rfl) le_ v_ ?_
      (refine aL_S rfl rfl v_ ?_)
      refine aL_nil ?_
      refine awp_seq ?_
      refine awp_region (by kernel_rfl) ?_
      iterate 4 (refine aL_S rfl rfl v_ ?_)
      refine aL_SY (wantedA_yes rfl rfl v_ (by rfl)) rfl v_ ?_
      refine aL_SY (wantedA_yes rfl rfl v_ (by rfl)) rfl v_ ?_
      refine aL_SY (wantedA_yes rfl rfl v_ (by rfl)) rfl v_ ?_
      iterate 2 (refine aL_S rfl rfl v_ ?_)
      refine aL_SY (wantedA_yes rfl rfl v_ (by rfl)) rfl v_ ?_
      refine aL_SY (wantedA_yes rfl rfl v_ (by rfl)) rfl v_ ?_
      refine aL_SY (wantedA_yes rfl rfl v_ (by rfl)) rfl v_ ?_
      iterate 2 (refine aL_S rfl rfl v_ ?_)
      refine aL_SY (wantedA_yes rfl rfl v_ (by rfl)) rfl v_ ?_
      refine aL_SY (wantedA_yes rfl rfl v_ (by rfl)) rfl v_ ?_
      refine aL_SY (wantedA_yes rfl rfl v_ (by rfl)) rfl v_ ?_
      iterate 2 (refine aL_S rfl rfl v_ ?_)
      refine aL_XY (wantedA_yes rfl rfl v_ (by rfl)) rfl (AOp_use rfl rfl (.inr ⟨rfl, rfl, rfl⟩) g_ va_ (awake23_c) ?_); rintro _ _ ⟨rfl, rfl⟩
      iterate 2 (refine aL_S rfl rfl v_ ?_)
      refine aL_nil ?_
      refine awp_ret ?_
      refine aEnd_ret (σ' := σ) v_ sub_ ?_
      exact ⟨rfl, rfl⟩
end Go.Proofs.YtbomkkjhafdhiaaGreatDoor
end
