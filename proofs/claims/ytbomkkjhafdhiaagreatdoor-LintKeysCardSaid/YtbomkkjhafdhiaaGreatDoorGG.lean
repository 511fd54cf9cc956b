/-
  Tenants: what is said of one, and the entries that say it. Both sides; What is said of a tenant; all tenants. Both sides; Rows that grow while other objects come and go (no deeds); All tenants. Both sides; What must come of tenants, whatever the arguments are. Own work (an AI agent).
-/
import Derived.Test.YtbomkkjhafdhiaaGreatDoorGF
import Derived.Test.YtbomkkjhafdhiaaGreatDoorGE
import Derived.Test.YtbomkkjhafdhiaaGreatDoorGD

section
set_option linter.all false
set_option maxRecDepth 100000
namespace Go.Proofs.YtbomkkjhafdhiaaGreatDoor
open Go.Ab
theorem path_c {l : List ByteArray} {t : Bool} {σ : Store} (hL : l.length ≤ 1000000) (hT : (l.flatMap Lb).length ≤ 1000000) : ACalls Tryz.prog 41 [.sl 1 (l.map vStr) t] σ fun v σ' => v = vStr (pathS l) ∧ σ = σ' := by
  refine ACalls_of Tryz.func41 rfl Tryz.ntmps41 (congrArg Array.toList Tryz.results41) (by simp only [List.length_cons, List.length_nil]; decide) ?_; simp only [envOf_cons, envOf_nil, Nat.reduceAdd]
  refine awp_seq ?_
  refine awp_region (by kernel_rfl) ?_
  (refine aL_S rfl rfl v_ ?_)
  refine aL_nil ?_
  refine awp_seq ?_
  refine awp_region (by kernel_rfl) ?_
  (refine aL_S rfl rfl v_ ?_)
  refine aL_X rfl rfl (AOp_use rfl rfl (.inr ⟨rfl, rfl, rfl⟩) g_ va_ (joinP_c hL hT) ?_); rintro _ _ ⟨rfl, rfl⟩
  (refine aL_S rfl rfl v_ ?_)
  refine aL_nil ?_
  refine awp_ret ?_
  refine aEnd_ret (σ' := σ) v_ sub_ ?_
  exact ⟨rfl, rfl⟩
theorem key_c {a f : ByteArray} {σ : Store} (ha : a.size ≤ 400000) (hf : f.size ≤ 400000) : ACalls Tryz.prog 14 [vStr a, vStr f] σ fun v σ' => v = vStr (keyS a f) ∧ σ = σ' := by
  refine ACalls_of Tryz.func14 rfl Tryz.ntmps14 (congrArg Array.toList Tryz.results14) (by simp only [List.length_cons, List.length_nil]; decide) ?_; simp only [envOf_cons, envOf_nil, Nat.reduceAdd]
  refine awp_seq ?_
  refine awp_region (by kernel_rfl) ?_
  (refine aL_S rfl rfl v_ ?_)
  refine aL_nil ?_
  refine awp_seq ?_
  refine awp_region (by kernel_rfl) ?_
  iterate 2 (refine aL_S rfl rfl v_ ?_)
  refine aL_buildSlice rfl rfl rfl g_ g_ rfl rfl h_ c2_ (by decide) ?_
  refine aL_X rfl rfl (AOp_use rfl rfl (.inr ⟨rfl, rfl, rfl⟩) g_ va_ (path_c (l := [bsTenant, a, f]) (by simp) (by simp [Lb_length, show (Lb bsTenant).length = 6 from rfl]; omega)) ?_); rintro _ _ ⟨rfl, rfl⟩
  (refine aL_S rfl rfl v_ ?_)
  refine aL_nil ?_
  refine awp_ret ?_
  refine aEnd_ret (σ' := σ) v_ sub_ ?_
  exact ⟨rfl, rfl⟩
theorem isSecret_c {s : ByteArray} {σ : Store} : ACalls Tryz.prog 33 [vStr s] σ fun v σ' => v = vB (secOk s) ∧ σ = σ' := by
  have h0 := ne0 s
  refine ACalls_of Tryz.func33 rfl Tryz.ntmps33 (congrArg Array.toList Tryz.results33) (by simp only [List.length_cons, List.length_nil]; decide) ?_; simp only [envOf_cons, envOf_nil, Nat.reduceAdd]
  refine awp_seq ?_
  refine awp_region (by kernel_rfl) ?_
  (refine aL_S rfl rfl v_ ?_)
  refine aL_nil ?_
  refine awp_seq ?_
  have R := h0
  refine awp_region (by kernel_rfl) ?_
  iterate 3 (refine aL_S rfl rfl v_ ?_)
  refine aL_GT rfl rfl v_ rfl vg_ ?_
  refine aL_GT rfl rfl v_ rfl vg_ ?_
  refine aL_GT rfl rfl v_ rfl vg_ ?_
  iterate 2 (refine aL_S rfl rfl v_ ?_)
  refine aL_nil ?_
  refine awp_ret ?_
  refine aEnd_ret (σ' := σ) v_ sub_ ?_
  refine ⟨?_, rfl⟩
  unfold secOk
  by_cases h1 : s.size = 0 <;> by_cases h2 : s.size ≤ 64 <;> simp [h1, h2, h0] <;> omega
theorem bounds_c {f : ByteArray} {σ : Store} : ACalls Tryz.prog 30 [vStr f] σ fun v σ' => v = .tup [.agg [vInt (bndS f).1, vInt (bndS f).2.1], vB (bndS f).2.2] ∧ σ = σ' := by
  refine ACalls_of Tryz.func30 rfl Tryz.ntmps30 (congrArg Array.toList Tryz.results30) (by simp only [List.length_cons, List.length_nil]; decide) ?_; simp only [envOf_cons, envOf_nil, Nat.reduceAdd]
  refine awp_seq ?_
  refine awp_region (by kernel_rfl) ?_
  refine aL_alloc rfl rfl rfl g_ gl_ fun o2 ho2 => ?_
  repeat (rw [none_set_iff] at ho2; obtain ⟨_, ho2⟩ := ho2)
  (refine aL_S rfl rfl v_ ?_)
  refine aL_nil ?_
  refine awp_seq ?_
  refine awp_seq ?_
  refine awp_region (by kernel_rfl) ?_
  (refine aL_S rfl rfl v_ ?_)
  refine aL_nil ?_
  refine awp_block ?_
  refine awp_seq ?_
  refine awp_region (by kernel_rfl) ?_
  iterate 2 (refine aL_S rfl rfl v_ ?_)
  refine aL_nil ?_
  refine awp_cond v_ (fun hc2 => ?_) (fun hc2 => ?_)
  · replace hc2 := nm_ hc2
    refine awp_seq ?_
    refine awp_region (by kernel_rfl) ?_
    (refine aL_S rfl rfl v_ ?_)
    refine aL_store rfl rfl rfl v_ v_ h_ g_ rfl g_ c_ (by rfl) le_ v_ ?_
    (refine aL_S rfl rfl v_ ?_)
    refine aL_nil ?_
    refine awp_ret ?_
    refine aEnd_ret (σ' := σ) v_ sub_ ?_
    exact ⟨by rw [bndS, if_pos (show f = bsBytes from hc2)], rfl⟩
  · replace hc2 := nm_ hc2
    refine awp_seq ?_
    refine awp_region (by kernel_rfl) ?_
    iterate 2 (refine aL_S rfl rfl v_ ?_)
    refine aL_nil ?_
    refine awp_cond v_ (fun hc4 => ?_) (fun hc4 => ?_)
    · replace hc4 := nm_ hc4
      refine awp_seq ?_
      refine awp_region (by kernel_rfl) ?_
      (refine aL_S rfl rfl v_ ?_)
      refine aL_store rfl rfl rfl v_ v_ h_ g_ rfl g_ c_ (by rfl) le_ v_ ?_
      (refine aL_S rfl rfl v_ ?_)
      refine aL_nil ?_
      refine awp_ret ?_
      refine aEnd_ret (σ' := σ) v_ sub_ ?_
      exact ⟨by rw [bndS, if_neg (show ¬ f = bsBytes from hc2), if_pos (show f = bsRate from hc4)], rfl⟩
    · replace hc4 := nm_ hc4
      refine awp_seq ?_
      refine awp_region (by kernel_rfl) ?_
      iterate 2 (refine aL_S rfl rfl v_ ?_)
      refine aL_nil ?_
      refine awp_cond v_ (fun hc6 => ?_) (fun hc6 => ?_)
      · replace hc6 := nm_ hc6
        refine awp_seq ?_
        refine awp_region (by kernel_rfl) ?_
        (refine aL_S rfl rfl v_ ?_)
        refine aL_store rfl rfl rfl v_ v_ h_ g_ rfl g_ c_ (by rfl) le_ v_ ?_
        (refine aL_S rfl rfl v_ ?_)
        refine aL_nil ?_
        refine awp_ret ?_
        refine aEnd_ret (σ' := σ) v_ sub_ ?_
        exact ⟨by rw [bndS, if_neg (show ¬ f = bsBytes from hc2), if_neg (show ¬ f = bsRate from hc4), if_pos (show f = bsBurst from hc6)], rfl⟩
      · replace hc6 := nm_ hc6
        refine awp_seq ?_
        refine awp_region (by kernel_rfl) ?_
        iterate 2 (refine aL_S rfl rfl v_ ?_)
        refine aL_nil ?_
        refine awp_cond v_ (fun hc8 => ?_) (fun hc8 => ?_)
        · replace hc8 := nm_ hc8
          refine awp_seq ?_
          refine awp_region (by kernel_rfl) ?_
          (refine aL_S rfl rfl v_ ?_)
          refine aL_store rfl rfl rfl v_ v_ h_ g_ rfl g_ c_ (by rfl) le_ v_ ?_
          (refine aL_S rfl rfl v_ ?_)
          refine aL_nil ?_
          refine awp_ret ?_
          refine aEnd_ret (σ' := σ) v_ sub_ ?_
          exact ⟨by rw [bndS, if_neg (show ¬ f = bsBytes from hc2), if_neg (show ¬ f = bsRate from hc4), if_neg (show ¬ f = bsBurst from hc6), if_pos (show f = bsQueue from hc8)], rfl⟩
        · replace hc8 := nm_ hc8
          refine awp_skip ?_
          refine awp_seq ?_
          refine awp_region (by kernel_rfl) ?_
          (refine aL_S rfl rfl v_ ?_)
          refine aL_store rfl rfl rfl v_ v_ h_ g_ rfl g_ c_ (by rfl) le_ v_ ?_
          (refine aL_S rfl rfl v_ ?_)
          refine aL_nil ?_
          refine awp_ret ?_
          refine aEnd_ret (σ' := σ) v_ sub_ ?_
          exact ⟨by rw [bndS, if_neg (show ¬ f = bsBytes from hc2), if_neg (show ¬ f = bsRate from hc4), if_neg (show ¬ f = bsBurst from hc6), if_neg (show ¬ f = bsQueue from hc8)], rfl⟩
/-! ### entries -/
end Go.Proofs.YtbomkkjhafdhiaaGreatDoor
end

section
set_option linter.all false
set_option maxRecDepth 100000
namespace Go.Proofs.YtbomkkjhafdhiaaGreatDoor
open Go.Ab
abbrev fOf1 (a b : Nat) : AVal := .fn (.func 27) [] [.ref a 0, .ref b 0]
theorem of1_c {p q : Nat} {l : List Ent} {t : Bool} {a f : ByteArray} {σ : Store} (hp : σ.heap p = some (.cells [.sl 4 (l.map sEnt) t])) (hq : σ.heap q = some (.cells [vStr a])) (hl : l.length ≤ 1000000) (ha : a.size ≤ 400000) (hf : f.size ≤ 400000) : ACalls Tryz.prog 27 [vStr f, .ref p 0, .ref q 0] σ fun v σ' => v = vStr (getS l (keyS a f)).value ∧ σ = σ' := by
  refine ACalls_of Tryz.func27 rfl Tryz.ntmps27 (congrArg Array.toList Tryz.results27) (by simp only [List.length_cons, List.length_nil]; decide) ?_; simp only [envOf_cons, envOf_nil, Nat.reduceAdd]
  refine awp_seq ?_
  refine awp_region (by kernel_rfl) ?_
  (refine aL_S rfl rfl v_ ?_)
  refine aL_nil ?_
  refine awp_seq ?_
  have R := And.intro hp hq
  refine awp_draw (.op 0 0 (.op 1 0 (.op 2 0 (.op 3 1 (.op 4 1 (.op 5 0 (.op 6 0 .nil))))))) Tryz.mixed (by kernel_rfl) ?_
  iterate 3 (refine dR_S o_ (by rfl) (by rfl) v_ ?_)
  refine dR_X o_ (by rfl) (by rfl) (AOp_use (by rfl) (by rfl) (.inr ⟨by rfl, by rfl, by rfl⟩) g_ va_ (key_c ha hf) ?_); rintro _ _ ⟨rfl, rfl⟩; refine ⟨sub_, ?_⟩
  refine dR_X o_ (by rfl) (by rfl) (AOp_use (by rfl) (by rfl) (.inr ⟨by rfl, by rfl, by rfl⟩) g_ va_ (get_c hl) ?_); rintro _ _ ⟨rfl, rfl⟩; refine ⟨sub_, ?_⟩
  iterate 2 (refine dR_S o_ (by rfl) (by rfl) v_ ?_)
  refine dR_nil ?_
  refine awp_ret ?_
  refine aEnd_ret (σ' := σ) v_ sub_ ?_
  exact ⟨rfl, rfl⟩
theorem limN_1 {s : ByteArray} {m o : Int} (h : ((numS s).isSome = false ∨ (numS s).getD 0 < 0) ∨ m < (numS s).getD 0) : limN s m o = o := by
  unfold limN
  cases hn : numS s with
  | none => rfl
  | some n =>
    rw [hn] at h
    simp only [Option.isSome_some, Option.getD_some] at h ⊢
    rw [if_neg]
    rcases h with (h | h) | h
    · cases h
    · omega
    · omega
theorem limN_2 {s : ByteArray} {m o : Int} (h : ((numS s).isSome = true ∧ 0 ≤ (numS s).getD 0) ∧ (numS s).getD 0 ≤ m) : limN s m o = (numS s).getD 0 := by
  unfold limN
  cases hn : numS s with
  | none => rw [hn] at h; exact absurd h.1.1 (by simp)
  | some n =>
    rw [hn] at h
    simp only [Option.getD_some] at h ⊢
    rw [if_pos ⟨h.1.2, h.2⟩]
theorem of2_c {p q g : Nat} {l : List Ent} {t : Bool} {a f : ByteArray} {σ : Store} (hp : σ.heap p = some (.cells [.sl 4 (l.map sEnt) t])) (hq : σ.heap q = some (.cells [vStr a])) (hg : σ.heap g = some (.cells [fOf1 p q])) (hl : l.length ≤ 1000000) (hs : ∀ x ∈ l, EntSm x) (ha : a.size ≤ 400000) (hf : f.size ≤ 400000) : ACalls Tryz.prog 29 [vStr f, .ref g 0] σ fun v σ' => v = vInt (limS l a f) ∧ σ = σ' := by
  have hv := (getS_sm hs (keyS a f)).2
  obtain ⟨r, hr⟩ : ∃ r, numS (getS l (keyS a f)).value = r := ⟨_, rfl⟩
  refine ACalls_of Tryz.func29 rfl Tryz.ntmps29 (congrArg Array.toList Tryz.results29) (by simp only [List.length_cons, List.length_nil]; decide) ?_; simp only [envOf_cons, envOf_nil, Nat.reduceAdd]
  refine awp_seq ?_
  refine awp_region (by kernel_rfl) ?_
  (refine aL_S rfl rfl v_ ?_)
  refine aL_nil ?_
  refine awp_seq ?_
  refine awp_region (by kernel_rfl) ?_
  (refine aL_S rfl rfl v_ ?_)
  refine aL_X rfl rfl (AOp_use rfl rfl (.inr ⟨rfl, rfl, rfl⟩) g_ va_ (bounds_c) ?_); rintro _ _ ⟨rfl, rfl⟩
  iterate 3 (refine aL_S rfl rfl v_ ?_)
  refine aL_alloc rfl rfl rfl g_ gl_ fun o4 ho4 => ?_
  repeat (rw [none_set_iff] at ho4; obtain ⟨_, ho4⟩ := ho4)
  refine aL_store rfl rfl rfl v_ v_ h_ g_ rfl g_ c_ (by rfl) le_ v_ ?_
  (refine aL_S rfl rfl v_ ?_)
  refine aL_nil ?_
  have n1 := ne_of_heap hg ho4; have n2 := ne_of_heap hp ho4; have n3 := ne_of_heap hq ho4
  refine awp_seq ?_
  have R := hg
  refine awp_region (by kernel_rfl) ?_
  iterate 2 (refine aL_S rfl rfl v_ ?_)
  refine aL_X rfl rfl (AOp_use rfl rfl (.inl v_) g_ va_ (of1_c (p := p) (q := q) (by rw [Store.set_ne _ _ n2, Store.set_ne _ _ n2]; exact hp) (by rw [Store.set_ne _ _ n3, Store.set_ne _ _ n3]; exact hq) hl ha hf) ?_); rintro _ _ ⟨rfl, rfl⟩
  refine aL_X rfl rfl (AOp_use rfl rfl (.inr ⟨rfl, rfl, rfl⟩) g_ va_ (num_c hv) ?_); rintro _ _ ⟨rfl, rfl⟩
  iterate 5 (refine aL_S rfl rfl v_ ?_)
  refine aL_nil ?_
  refine awp_seq ?_
  refine awp_seq ?_
  refine awp_region (by kernel_rfl) ?_
  iterate 3 (refine aL_S rfl rfl v_ ?_)
  refine aL_GF rfl rfl v_ rfl vg_ ?_
  refine aL_GF rfl rfl v_ rfl vg_ ?_
  iterate 2 (refine aL_S rfl rfl v_ ?_)
  refine aL_GF rfl rfl v_ rfl vg_ ?_
  refine aL_GF rfl rfl v_ rfl vg_ ?_
  refine aL_GF rfl rfl v_ rfl vg_ ?_
  refine aL_GF rfl rfl v_ rfl vg_ ?_
  (refine aL_S rfl rfl v_ ?_)
  refine aL_nil ?_
  refine awp_cond v_ (fun hc3 => ?_) (fun hc3 => ?_)
  · replace hc3 := nm_ hc3
    refine awp_seq ?_
    refine awp_region (by kernel_rfl) ?_
    iterate 3 (refine aL_S rfl rfl v_ ?_)
    refine aL_nil ?_
    refine awp_ret ?_
    refine aEnd_ret (σ' := σ) v_ sub_ ?_
    exact ⟨by rw [limS, limN_1 hc3], rfl⟩
  · replace hc3 := nm_ hc3
    refine awp_skip ?_
    refine awp_seq ?_
    refine awp_region (by kernel_rfl) ?_
    iterate 2 (refine aL_S rfl rfl v_ ?_)
    refine aL_nil ?_
    refine awp_ret ?_
    refine aEnd_ret (σ' := σ) v_ sub_ ?_
    exact ⟨by rw [limS, limN_2 hc3], rfl⟩
theorem tenS_no {l : List Ent} {a : ByteArray} (h : nameOk a = false ∨ secOk (getS l (keyS a bsSecret)).value = false) : tenOk l a = false := by
  unfold tenOk; rcases h with h | h <;> simp [h]
theorem tenS_yes {l : List Ent} {a : ByteArray} (h : nameOk a = true ∧ secOk (getS l (keyS a bsSecret)).value = true) : tenOk l a = true := by
  unfold tenOk; rw [h.1, h.2]; rfl
theorem of_c {l : List Ent} {t : Bool} {a : ByteArray} {σ : Store} (hl : l.length ≤ 1000000) (hs : ∀ x ∈ l, EntSm x) (ha : a.size ≤ 400000) : ACalls Tryz.prog 9 [.sl 4 (l.map sEnt) t, vStr a] σ fun v σ' => v = .tup [sTen (tenS l a), vB (tenOk l a)] ∧ σ = σ' := by
  refine ACalls_of Tryz.func9 rfl Tryz.ntmps9 (congrArg Array.toList Tryz.results9) (by simp only [List.length_cons, List.length_nil]; decide) ?_; simp only [envOf_cons, envOf_nil, Nat.reduceAdd]
  refine awp_seq ?_
  refine awp_region (by kernel_rfl) ?_
  refine aL_box rfl rfl rfl v_ rfl g_ fun o2 ho2 => ?_
  repeat (rw [none_set_iff] at ho2; obtain ⟨_, ho2⟩ := ho2)
  refine aL_box rfl rfl rfl v_ rfl g_ fun o3 ho3 => ?_
  repeat (rw [none_set_iff] at ho3; obtain ⟨_, ho3⟩ := ho3)
  refine aL_alloc rfl rfl rfl g_ gl_ fun o4 ho4 => ?_
  repeat (rw [none_set_iff] at ho4; obtain ⟨_, ho4⟩ := ho4)
  (refine aL_S rfl rfl v_ ?_)
  refine aL_nil ?_
  refine awp_seq ?_
  refine awp_region (by kernel_rfl) ?_
  (refine aL_S rfl rfl v_ ?_)
  refine aL_alloc rfl rfl rfl g_ gl_ fun o6 ho6 => ?_
  repeat (rw [none_set_iff] at ho6; obtain ⟨_, ho6⟩ := ho6)
  refine aL_store rfl rfl rfl v_ v_ h_ g_ rfl g_ c_ (by rfl) le_ v_ ?_
  refine aL_nil ?_
  refine awp_seq ?_
  refine awp_region (by kernel_rfl) ?_
  iterate 2 (refine aL_S rfl rfl v_ ?_)
  refine aL_nil ?_
  refine awp_seq ?_
  refine awp_seq ?_
  refine awp_region (by kernel_rfl) ?_
  (refine aL_S rfl rfl v_ ?_)
  refine aL_X rfl rfl (AOp_use rfl rfl (.inr ⟨rfl, rfl, rfl⟩) g_ va_ (nameIs_c (by omega)) ?_); rintro _ _ ⟨rfl, rfl⟩
  iterate 2 (refine aL_S rfl rfl v_ ?_)
  refine aL_GF rfl rfl v_ rfl vg_ ?_
  refine aL_GFX rfl rfl v_ rfl (fun hb => AOp_useV (by rfl) (by rfl) (.inl vh_) g_ cg_ (of1_c (f := bsSecret) h_ h_ hl ha (by decide))) ?_
  refine aL_GFX rfl rfl v_ rfl (fun hb => AOp_useV (by rfl) (by rfl) (.inr ⟨by rfl, by rfl, by rfl⟩) g_ cg_ (isSecret_c)) ?_
  refine aL_GF rfl rfl v_ rfl vg_ ?_
  (refine aL_S rfl rfl v_ ?_)
  refine aL_nil ?_
  refine awp_cond v_ (fun hc3 => ?_) (fun hc3 => ?_)
  · replace hc3 := nm_ hc3
    refine awp_seq ?_
    refine awp_region (by kernel_rfl) ?_
    (refine aL_S rfl rfl v_ ?_)
    refine aL_store rfl rfl rfl v_ v_ h_ g_ rfl g_ c_ (by rfl) le_ v_ ?_
    (refine aL_S rfl rfl v_ ?_)
    refine aL_nil ?_
    refine awp_ret ?_
    refine aEnd_ret (σ' := σ) v_ sub_ ?_
    exact ⟨by rw [tenS, if_neg (by rw [tenS_no hc3]; simp), tenS_no hc3]; rfl, rfl⟩
  · replace hc3 := nm_ hc3
    refine awp_skip ?_
    refine awp_seq ?_
    refine awp_draw (.op 0 0 (.op 1 0 (.op 3 0 (.op 5 0 (.op 7 0 (.op 9 0 (.op 2 1 (.op 4 1 (.op 6 1 (.op 8 1 (.op 10 1 (.op 11 0 (.op 12 2 (.op 13 0 .nil)))))))))))))) Tryz.mixed (by kernel_rfl) ?_
    iterate 6 (refine dR_S o_ (by rfl) (by rfl) v_ ?_)
    refine dR_X o_ (by rfl) (by rfl) (AOp_use (by rfl) (by rfl) (.inl v_) g_ va_ (of1_c (f := bsSecret) h_ h_ hl ha (by decide)) ?_); rintro _ _ ⟨rfl, rfl⟩; refine ⟨sub_, ?_⟩
    refine dR_X o_ (by rfl) (by rfl) (AOp_use (by rfl) (by rfl) (.inl v_) g_ va_ (of2_c (p := o2) (q := o3) (g := o6) (f := bsBytes) h_ h_ h_ hl hs ha (by decide)) ?_); rintro _ _ ⟨rfl, rfl⟩; refine ⟨sub_, ?_⟩
    refine dR_X o_ (by rfl) (by rfl) (AOp_use (by rfl) (by rfl) (.inl v_) g_ va_ (of2_c (p := o2) (q := o3) (g := o6) (f := bsRate) h_ h_ h_ hl hs ha (by decide)) ?_); rintro _ _ ⟨rfl, rfl⟩; refine ⟨sub_, ?_⟩
    refine dR_X o_ (by rfl) (by rfl) (AOp_use (by rfl) (by rfl) (.inl v_) g_ va_ (of2_c (p := o2) (q := o3) (g := o6) (f := bsBurst) h_ h_ h_ hl hs ha (by decide)) ?_); rintro _ _ ⟨rfl, rfl⟩; refine ⟨sub_, ?_⟩
    refine dR_X o_ (by rfl) (by rfl) (AOp_use (by rfl) (by rfl) (.inl v_) g_ va_ (of2_c (p := o2) (q := o3) (g := o6) (f := bsQueue) h_ h_ h_ hl hs ha (by decide)) ?_); rintro _ _ ⟨rfl, rfl⟩; refine ⟨sub_, ?_⟩
    (refine dR_S o_ (by rfl) (by rfl) v_ ?_)
    refine dR_store o_ (by rfl) (by rfl) (by rfl) v_ v_ h_ g_ rfl g_ c_ (by rfl) le_ v_ ?_
    (refine dR_S o_ (by rfl) (by rfl) v_ ?_)
    refine dR_nil ?_
    refine awp_ret ?_
    refine aEnd_ret (σ' := σ) v_ sub_ ?_
    exact ⟨by rw [tenS, if_pos (tenS_yes hc3), tenS_yes hc3], rfl⟩
end Go.Proofs.YtbomkkjhafdhiaaGreatDoor
end

section
set_option linter.all false
set_option maxRecDepth 100000
namespace Go.Ab
end Go.Ab
namespace Go.Proofs.YtbomkkjhafdhiaaGreatDoor
open Go.Ab
theorem set_swap {σ : Store} {i j : Nat} {x y : AObj} (h : i ≠ j) : (σ.set i x).set j y = (σ.set j y).set i x := by
  unfold Store.set
  congr 1
  funext k
  by_cases h1 : k = j
  · subst h1; simp [Ne.symm h]
  · by_cases h2 : k = i
    · subst h2; simp [h]
    · simp [h1, h2]
theorem cbp_set {σ0 σ : Store} {sz : Nat} {l : List AVal} {a : AVal} (h : CBp σ0 σ sz l a) {i : Nat} {x : AObj} (hi : σ.heap i = none) : CBp (σ0.set i x) (σ.set i x) sz l a := by
  rcases h with ⟨h1, h2, rfl⟩ | ⟨o, ho, h1, rfl⟩
  · exact .inl ⟨h1, h2, rfl⟩
  · have hne : i ≠ o := fun hh => by rw [hh, Store.set_get] at hi; cases hi
    exact .inr ⟨o, by rw [Store.set_ne _ _ (Ne.symm hne)]; exact ho, h1, set_swap (Ne.symm hne)⟩
theorem cbp_set2 {σ0 σ : Store} {sz : Nat} {l : List AVal} {a : AVal} (h : CBp σ0 σ sz l a) {i : Nat} {x y : AObj} (hi : σ.heap i = none) : CBp (σ0.set i y) ((σ.set i x).set i y) sz l a := by
  rw [Store.set_set]; exact cbp_set h hi
theorem cbp_drop {σ σ' : Store} {sz : Nat} {l : List AVal} {a : AVal} {i : Nat} {y : AObj} (h : CBp (σ.set i y) σ' sz l a) (hi : σ.heap i = none) : ∃ τ, CBp σ τ sz l a ∧ τ.Sub σ' := by
  have hsub : ∀ τ : Store, τ.heap i = none → τ.Sub (τ.set i y) := fun τ hτ => ⟨fun j x hx => by rw [Store.set_ne _ _ (fun hh => by rw [hh, hτ] at hx; cases hx)]; exact hx, fun _ _ h => h⟩
  rcases h with ⟨h1, h2, rfl⟩ | ⟨o, ho, h1, rfl⟩
  · exact ⟨σ, .inl ⟨h1, h2, rfl⟩, hsub σ hi⟩
  · have hne : o ≠ i := fun hh => by rw [hh, Store.set_get] at ho; cases ho
    rw [Store.set_ne _ _ hne] at ho
    refine ⟨σ.set o (.cells (flat l)), .inr ⟨o, ho, h1, rfl⟩, ?_⟩
    rw [set_swap (Ne.symm hne)]
    exact hsub _ (by rw [Store.set_ne _ _ (Ne.symm hne)]; exact hi)
theorem frozenS {P : Program} {f : FuncId} {args : List AVal} {σ : Store} {sz : Nat} {l : List AVal} (h : ACalls P f args σ fun v σ' => ∃ σ1, CBp σ1 σ' sz l v ∧ σ.Sub σ1) (hs : ∀ x ∈ l, x.cells.length = sz) : ACalls P f args σ fun v σ' => v = .sl sz l false ∧ σ = σ' := by
  refine h.after ?_
  rintro κ a σ' cv hI hr ⟨σ1, hC, hsub⟩
  rcases hC with ⟨rfl, rfl, rfl⟩ | ⟨o, ho, rfl, rfl⟩
  · exact ⟨κ, _, _, rfl, .refl κ, hI.sub hsub, hr.wk (.nil sz false), rfl, rfl⟩
  · obtain ⟨κ', h1, h2, h3, h4⟩ := Ab.freeze hI hr (Store.set_get ..) (l := l) (by rw [List.take_of_length_le (by rw [flat_length hs]; exact Nat.le_refl _)]) rfl hs
    rw [Store.set_del ho] at h3
    exact ⟨κ', _, _, h1, h2, h3.sub hsub, h4, rfl, rfl⟩
theorem heap_none {σ0 σ : Store} {sz : Nat} {l : List AVal} {a : AVal} (h : CBp σ0 σ sz l a) {i : Nat} (hi : σ.heap i = none) : σ0.heap i = none := by
  cases hh : σ0.heap i with
  | none => rfl
  | some y => have := h.sub.heap i y hh; rw [hi] at this; cases this
end Go.Proofs.YtbomkkjhafdhiaaGreatDoor
end

section
set_option linter.all false
set_option maxRecDepth 100000
namespace Go.Proofs.YtbomkkjhafdhiaaGreatDoor
open Go.Ab
theorem get_if {α : Type} [Inhabited α] (l : List α) (k : Nat) : ∃ x : α, k < l.length → l[k]? = some x := by
  by_cases h : k < l.length
  · exact ⟨l[k], fun _ => List.getElem?_eq_getElem h⟩
  · exact ⟨default, fun h' => absurd h' h⟩
def hpS (s p : ByteArray) : Bool := decide (p.size ≤ s.size) && decide (s.extract 0 p.size = p)
theorem slHasPrefix_c {s p : ByteArray} {σ : Store} : ACalls Tryz.prog 83 [vStr s, vStr p] σ fun v σ' => v = vB (hpS s p) ∧ σ = σ' := by
  refine ACalls_of Tryz.func83 rfl Tryz.ntmps83 (congrArg Array.toList Tryz.results83) (by simp only [List.length_cons, List.length_nil]; decide) ?_; simp only [envOf_cons, envOf_nil, Nat.reduceAdd]
  refine awp_seq ?_
  refine awp_region (by kernel_rfl) ?_
  (refine aL_S rfl rfl v_ ?_)
  refine aL_nil ?_
  refine awp_seq ?_
  refine awp_region (by kernel_rfl) ?_
  iterate 6 (refine aL_S rfl rfl v_ ?_)
  refine aL_GT rfl rfl v_ rfl vg_ ?_
  refine aL_GT rfl rfl v_ rfl vg_ ?_
  refine aL_GT rfl rfl v_ rfl vg_ ?_
  refine aL_GT rfl rfl v_ rfl vg_ ?_
  refine aL_GT rfl rfl v_ rfl vg_ ?_
  refine aL_GT rfl rfl v_ rfl vg_ ?_
  iterate 2 (refine aL_S rfl rfl v_ ?_)
  refine aL_nil ?_
  refine awp_ret ?_
  refine aEnd_ret (σ' := σ) v_ sub_ ?_
  refine ⟨?_, rfl⟩
  unfold hpS
  by_cases h1 : p.size ≤ s.size <;> simp [h1]
theorem hasPrefix_c {s p : ByteArray} {σ : Store} : ACalls Tryz.prog 63 [vStr s, vStr p] σ fun v σ' => v = vB (hpS s p) ∧ σ = σ' := by
  refine ACalls_of Tryz.func63 rfl Tryz.ntmps63 (congrArg Array.toList Tryz.results63) (by simp only [List.length_cons, List.length_nil]; decide) ?_; simp only [envOf_cons, envOf_nil, Nat.reduceAdd]
  refine awp_seq ?_
  refine awp_region (by kernel_rfl) ?_
  (refine aL_S rfl rfl v_ ?_)
  refine aL_nil ?_
  refine awp_seq ?_
  refine awp_region (by kernel_rfl) ?_
  iterate 2 (refine aL_S rfl rfl v_ ?_)
  refine aL_X rfl rfl (AOp_use rfl rfl (.inr ⟨rfl, rfl, rfl⟩) g_ va_ (slHasPrefix_c) ?_); rintro _ _ ⟨rfl, rfl⟩
  (refine aL_S rfl rfl v_ ?_)
  refine aL_nil ?_
  refine awp_ret ?_
  refine aEnd_ret (σ' := σ) v_ sub_ ?_
  exact ⟨rfl, rfl⟩
theorem hpS_iff {s : ByteArray} {p : List UInt8} : hpS s (B p) = true ↔ ∃ r, Lb s = p ++ r := by
  unfold hpS
  rw [Bool.and_eq_true, decide_eq_true_eq, decide_eq_true_eq, B_size]
  constructor
  · rintro ⟨h1, h2⟩
    have := congrArg Lb h2
    rw [extract_B, Lb_B, Lb_B, List.drop_zero] at this
    exact ⟨(Lb s).drop p.length, by conv => rhs; rw [← this]
                                    rw [List.length_take, Nat.min_eq_left (by rw [Lb_length]; exact h1), List.take_append_drop]⟩
  · rintro ⟨r, h⟩
    refine ⟨by rw [← Lb_length, h, List.length_append]; omega, ?_⟩
    apply Lb_inj
    rw [extract_B, Lb_B, Lb_B, List.drop_zero, h, List.take_left]
theorem under1_c {q : Nat} {x : Ent} {s : ByteArray} {σ : Store} (hq : σ.heap q = some (.cells [vStr s])) (hs : s.size ≤ 1000000) : ACalls Tryz.prog 62 [sEnt x, .ref q 0] σ fun v σ' => v = vB (!hpS x.key (s ++ ⟨#[47]⟩)) ∧ σ = σ' := by
  have e1 := astr_add' s ⟨#[47]⟩ (by rw [show (ByteArray.mk #[47]).size = 1 from rfl]; omega)
  refine ACalls_of Tryz.func62 rfl Tryz.ntmps62 (congrArg Array.toList Tryz.results62) (by simp only [List.length_cons, List.length_nil]; decide) ?_; simp only [envOf_cons, envOf_nil, Nat.reduceAdd]
  refine awp_seq ?_
  refine awp_region (by kernel_rfl) ?_
  refine aL_box rfl rfl rfl v_ rfl g_ fun o2 ho2 => ?_
  repeat (rw [none_set_iff] at ho2; obtain ⟨_, ho2⟩ := ho2)
  (refine aL_S rfl rfl v_ ?_)
  refine aL_nil ?_
  have n3 := ne_of_heap hq ho2
  refine awp_seq ?_
  have R := And.intro hq e1
  refine awp_region (by kernel_rfl) ?_
  iterate 4 (refine aL_S rfl rfl v_ ?_)
  refine aL_X rfl rfl (AOp_use rfl rfl (.inr ⟨rfl, rfl, rfl⟩) g_ va_ (hasPrefix_c) ?_); rintro _ _ ⟨rfl, rfl⟩
  iterate 2 (refine aL_S rfl rfl v_ ?_)
  refine aL_nil ?_
  refine awp_ret ?_
  refine aEnd_ret (σ' := σ) v_ sub_ ?_
  exact ⟨rfl, rfl⟩
theorem pfUnder {q : Nat} {s : ByteArray} {σ : Store} (hq : σ.heap q = some (.cells [vStr s])) (hs : s.size ≤ 1000000) : PFEn 62 [.ref q 0] σ fun x => !hpS x.key (s ++ ⟨#[47]⟩) := ⟨by kernel_rfl, fun τ h x => under1_c (h _ _ hq) hs⟩
def undS (l : List Ent) (s : ByteArray) : List Ent := l.filter fun x => hpS x.key (s ++ ⟨#[47]⟩)
theorem under_c {l : List Ent} {t : Bool} {s : ByteArray} {σ : Store} (hl : l.length ≤ 1000000) (hs : s.size ≤ 1000000) : ACalls Tryz.prog 37 [.sl 4 (l.map sEnt) t, vStr s] σ fun v σ' => v = .sl 4 ((undS l s).map sEnt) false ∧ σ = σ' := by
  refine ACalls_of Tryz.func37 rfl Tryz.ntmps37 (congrArg Array.toList Tryz.results37) (by simp only [List.length_cons, List.length_nil]; decide) ?_; simp only [envOf_cons, envOf_nil, Nat.reduceAdd]
  refine awp_seq ?_
  refine awp_region (by kernel_rfl) ?_
  refine aL_box rfl rfl rfl v_ rfl g_ fun o3 ho3 => ?_
  repeat (rw [none_set_iff] at ho3; obtain ⟨_, ho3⟩ := ho3)
  (refine aL_S rfl rfl v_ ?_)
  refine aL_nil ?_
  refine awp_seq ?_
  refine awp_region (by kernel_rfl) ?_
  (refine aL_S rfl rfl v_ ?_)
  refine aL_X rfl rfl (AOp_use rfl rfl (.inr ⟨rfl, rfl, rfl⟩) g_ va_ (cloneEn hl) ?_); rintro _ τ0 hC0
  (refine aL_S rfl rfl v_ ?_)
  refine aL_X rfl rfl (AOp_use rfl rfl (.inr ⟨rfl, rfl, rfl⟩) g_ va_ (deleteEn (pfUnder (s := s) h_ hs) hC0 hl) ?_); rintro _ _ ⟨rfl, rfl⟩
  (refine aL_S rfl rfl v_ ?_)
  refine aL_nil ?_
  refine awp_ret ?_
  refine aEnd_ret (σ' := σ) v_ sub_ ?_
  exact ⟨by simp [undS], rfl⟩
/-! ### names of tenants -/
def tnU (l : List Ent) (k : ByteArray) : Option ByteArray := match partsS k with | [_, b, c] => if c = bsSecret ∧ tenOk l b = true then some b else none | _ => none
theorem tn_pre {l : List Ent} {k : ByteArray} : tnK l k = if hpS k (bsTenant ++ ⟨#[47]⟩) = true then tnU l k else none := by
  have e0 : bsTenant ++ ⟨#[47]⟩ = B (Lb bsTenant ++ [47]) := by rw [← B_append, B_Lb]; rfl
  have h47 : ∀ c ∈ Lb bsTenant, c ≠ 47 := by decide
  rw [e0]
  unfold tnK tnU
  by_cases hp : hpS k (B (Lb bsTenant ++ [47])) = true
  · rw [if_pos hp]
    obtain ⟨r, hr⟩ := hpS_iff.1 hp
    have hk : k = B (Lb bsTenant ++ 47 :: Lb (B r)) := by apply Lb_inj; rw [hr, Lb_B, Lb_B]; simp
    rw [hk, partsS_at h47]
    split
    · rename_i a b c he
      injection he with h1 h2
      rw [← h1, h2]
      simp
    · rename_i hno
      split
      · rename_i a b c he
        exact absurd he (hno _ _ _)
      · rfl
  · rw [if_neg hp]
    split
    · rename_i a b c he
      rw [if_neg]
      rintro ⟨rfl, _⟩
      apply hp
      unfold partsS at he
      split at he
      · cases he
      · cases hs : splitL (Lb k) with
        | nil => exact absurd hs (splitL_ne _)
        | cons p q =>
          cases q with
          | nil => rw [hs] at he; cases he
          | cons q r =>
            rw [hs] at he
            simp only [List.map_cons] at he
            injection he with h1 h2
            obtain ⟨b', e1, _⟩ := splitL_two hs
            have e2 : p = Lb bsTenant := by rw [← h1, Lb_B]
            exact hpS_iff.2 ⟨b', by rw [e1, e2]; simp⟩
    · rfl
theorem fm_filter {α β : Type} {p : α → Bool} {f g : α → Option β} (h : ∀ x, g x = if p x = true then f x else none) : ∀ l : List α, (l.filter p).filterMap f = l.filterMap g
  | [] => rfl
  | x :: l => by
    rw [List.filterMap_cons, h x]
    cases hp : p x with
    | true => rw [List.filter_cons_of_pos hp, List.filterMap_cons, if_pos rfl, fm_filter h l]
    | false => rw [List.filter_cons_of_neg (by simp [hp]), if_neg (by simp), fm_filter h l]
theorem und_names (l : List Ent) : (undS l bsTenant).filterMap (fun x => tnU l x.key) = l.filterMap fun x => tnK l x.key := fm_filter (fun x => tn_pre) l
theorem tnU_some {l : List Ent} {k b c : ByteArray} (h3 : (partsS k).length = 3) (h1 : (partsS k)[1]? = some b) (h2 : (partsS k)[2]? = some c) : tnU l k = if c = bsSecret ∧ tenOk l b = true then some b else none := by
  unfold tnU
  obtain ⟨a', b', c', e⟩ : ∃ a b c, partsS k = [a, b, c] := by
    match hp : partsS k, h3 with
    | [a, b, c], _ => exact ⟨a, b, c, rfl⟩
  rw [e] at h1 h2 ⊢
  simp only [List.getElem?_cons_succ, List.getElem?_cons_zero, Option.some.injEq] at h1 h2
  subst h1; subst h2; rfl
theorem tnU_none {l : List Ent} {k : ByteArray} (h3 : ¬(partsS k).length = 3) : tnU l k = none := by
  unfold tnU
  split
  · rename_i a b c e; rw [e] at h3; simp at h3
  · rfl
theorem fm_snoc {α β : Type} {f : α → Option β} {l : List α} {k : Nat} {x : α} (h : l[k]? = some x) : (l.take (k + 1)).filterMap f = (l.take k).filterMap f ++ (f x).toList := by
  rw [take_snoc h, List.filterMap_append, List.filterMap_cons]
  cases f x <;> rfl
theorem und_len (l : List Ent) (s : ByteArray) : (undS l s).length ≤ l.length := List.length_filter_le ..
theorem und_sm {l : List Ent} {s : ByteArray} (h : ∀ x ∈ l, EntSm x) : ∀ x ∈ undS l s, EntSm x := fun x hx => h x (List.mem_filter.1 hx).1
set_option maxHeartbeats 2000000 in
theorem all_c {l : List Ent} {t : Bool} {σ : Store} (hl : l.length ≤ 1000000) (hs : ∀ x ∈ l, EntSm x) (hks : ∀ x ∈ l, x.key.size ≤ 400000) : ACalls Tryz.prog 12 [.sl 4 (l.map sEnt) t] σ fun v σ' => v = .sl 1 ((allS l).map vStr) false ∧ σ = σ' := by
  obtain ⟨U, hU⟩ : ∃ U, undS l bsTenant = U := ⟨_, rfl⟩
  have hUl := und_len l bsTenant
  have hUs := und_sm (s := bsTenant) hs
  have hsub : ∀ x ∈ undS l bsTenant, x ∈ l := fun x hx => (List.mem_filter.1 hx).1
  rw [hU] at hUl hUs hsub
  have hall : compactL (sortSS (U.filterMap fun x => tnU l x.key)) = allS l := by rw [← hU, und_names]; rfl
  refine ACalls_of Tryz.func12 rfl Tryz.ntmps12 (congrArg Array.toList Tryz.results12) (by simp only [List.length_cons, List.length_nil]; decide) ?_; simp only [envOf_cons, envOf_nil, Nat.reduceAdd]
  refine awp_seq ?_
  refine awp_region (by kernel_rfl) ?_
  (refine aL_S rfl rfl v_ ?_)
  refine aL_nil ?_
  refine awp_seq ?_
  refine awp_region (by kernel_rfl) ?_
  (refine aL_S rfl rfl v_ ?_)
  refine aL_nil ?_
  refine awp_seq ?_
  refine awp_seq ?_
  refine awp_region (by kernel_rfl) ?_
  (refine aL_S rfl rfl v_ ?_)
  refine aL_X rfl rfl (AOp_use rfl rfl (.inr ⟨rfl, rfl, rfl⟩) g_ va_ (under_c (s := bsTenant) hl (by decide)) ?_); rintro _ _ ⟨rfl, rfl⟩
  iterate 2 (refine aL_S rfl rfl v_ ?_)
  refine aL_nil ?_
  rw [hU]
  refine awp_block ?_
  refine awp_loop_env (ι := Store × AVal × Nat) (fun ⟨τ, g, k⟩ => U.length - k) (fun ⟨τ, g, k⟩ => k ≤ U.length ∧ CBp σ τ 1 (((U.take k).filterMap fun x => tnU l x.key).map vStr) g) (fun ⟨τ, g, k⟩ => [(0, .sl 4 (l.map sEnt) t), (3, g), (10, .sl 4 (U.map sEnt) false), (11, vInt U.length), (12, vInt k)]) (fun ⟨τ, g, k⟩ => τ) (σ, vNil, 0) ?_ ?_ ?_ ?_
  · exact ⟨Nat.zero_le _, .inl ⟨rfl, rfl, rfl⟩⟩
  · exact cv_
  · exact Store.Wk.refl _
  rintro ⟨τ, g, k⟩ ⟨hk, hC⟩
  simp only [envL_cons, envL_nil]
  refine awp_seq ?_
  refine awp_region (by kernel_rfl) ?_
  (refine aL_S rfl rfl v_ ?_)
  refine aL_nil ?_
  refine awp_seq ?_
  refine awp_cond v_ (fun hc3 => ?_) (fun hc3 => ?_)
  · replace hc3 := nm_ hc3
    refine awp_skip ?_
    refine awp_seq ?_
    refine awp_block ?_
    refine awp_seq ?_
    obtain ⟨x, hx⟩ := get_some (l := U) (k := k) (by omega)
    have hxs := hUs x (List.mem_of_getElem? hx)
    have hsn := fm_snoc (f := fun x : Ent => tnU l x.key) hx
    have hle : ((U.take k).filterMap fun x => tnU l x.key).length ≤ U.length := Nat.le_trans (List.length_filterMap_le ..) (by rw [List.length_take]; omega)
    have hpl := partsS_len x.key
    have hkz := hxs.key
    obtain ⟨b, hb⟩ := get_if (partsS x.key) 1
    obtain ⟨c, hc⟩ := get_if (partsS x.key) 2
    have R := hx
    refine awp_region (by kernel_rfl) ?_
    iterate 2 (refine aL_S rfl rfl v_ ?_)
    refine aL_alloc rfl rfl rfl g_ gl_ fun o5 ho5 => ?_
    repeat (rw [none_set_iff] at ho5; obtain ⟨_, ho5⟩ := ho5)
    refine aL_store rfl rfl rfl v_ v_ h_ g_ rfl g_ c_ (by rfl) le_ v_ ?_
    refine aL_nil ?_
    skip
    have n5 := heap_none hC ho5
    have hC1 := cbp_set2 (x := .cells [.lit (.string ⟨#[]⟩), vInt 0, .lit (.string ⟨#[]⟩), .lit (.string ⟨#[]⟩)]) (y := .cells (sEnt x).cells) hC ho5
    refine awp_seq ?_
    refine awp_region (by kernel_rfl) ?_
    iterate 2 (refine aL_S rfl rfl v_ ?_)
    refine aL_X rfl rfl (AOp_use rfl rfl (.inr ⟨rfl, rfl, rfl⟩) g_ va_ (parts_c hkz) ?_); rintro _ _ ⟨rfl, rfl⟩
    (refine aL_S rfl rfl v_ ?_)
    refine aL_nil ?_
    refine awp_seq ?_
    refine awp_seq ?_
    have R := hc
    refine awp_region (by kernel_rfl) ?_
    iterate 4 (refine aL_S rfl rfl v_ ?_)
    refine aL_GF rfl rfl v_ rfl vg_ ?_
    refine aL_GF rfl rfl v_ rfl vg_ ?_
    refine aL_GF rfl rfl v_ rfl vg_ ?_
    refine aL_GF rfl rfl v_ rfl vg_ ?_
    (refine aL_S rfl rfl v_ ?_)
    refine aL_nil ?_
    refine awp_cond v_ (fun hc6 => ?_) (fun hc6 => ?_)
    · replace hc6 := nm_ hc6
      skip
      have hcov : (U.take (k + 1)).filterMap (fun x => tnU l x.key) = (U.take k).filterMap fun x => tnU l x.key := by
        rw [hsn]
        by_cases h3 : (partsS x.key).length = 3
        · rw [tnU_some h3 (hb (by omega)) (hc (by omega)), if_neg (fun hh => by rcases hc6 with h | h; omega; exact h hh.1)]; simp
        · rw [tnU_none h3]; simp
      refine awp_exit ?_
      refine aThen_exit ?_
      refine aBlock_hit ?_
      refine awp_region (by kernel_rfl) ?_
      iterate 2 (refine aL_S rfl rfl v_ ?_)
      refine aL_nil ?_
      refine aNext (ι := Store × AVal × Nat) (i := ⟨τ, g, k⟩) (τ, g, k + 1) ?_ ?_ ?_ ?_
      · show U.length - (k + 1) < U.length - k; omega
      · exact ⟨by show k + 1 ≤ U.length; omega, by rw [hcov]; exact hC⟩
      · exact cv_
      · exact sub_
    · replace hc6 := nm_ hc6
      have h3 : (partsS x.key).length = 3 := by omega
      have hb' := hb (by omega)
      have hbs : b.size ≤ 400000 := Nat.le_trans (partsS_mem (List.mem_of_getElem? hb')).2 (hks x (hsub x (List.mem_of_getElem? hx)))
      have htn := tnU_some (l := l) h3 hb' (hc (by omega))
      refine awp_skip ?_
      refine awp_seq ?_
      have R := hb'
      refine awp_region (by kernel_rfl) ?_
      iterate 4 (refine aL_S rfl rfl v_ ?_)
      refine aL_X rfl rfl (AOp_use rfl rfl (.inr ⟨rfl, rfl, rfl⟩) g_ va_ (of_c hl hs hbs) ?_); rintro _ _ ⟨rfl, rfl⟩
      iterate 3 (refine aL_S rfl rfl v_ ?_)
      refine aL_alloc rfl rfl rfl g_ gl_ fun o7 ho7 => ?_
      repeat (rw [none_set_iff] at ho7; obtain ⟨_, ho7⟩ := ho7)
      refine aL_store rfl rfl rfl v_ v_ h_ g_ rfl g_ c_ (by rfl) le_ v_ ?_
      (refine aL_S rfl rfl v_ ?_)
      refine aL_nil ?_
      skip
      have n7 := heap_none hC1 (i := o7) (by rw [Store.set_ne _ _ (by assumption), Store.set_ne _ _ (by assumption)]; exact ho7)
      have hC2 := cbp_set2 (x := .cells [.lit (.string ⟨#[]⟩), .lit (.string ⟨#[]⟩), vInt 0, vInt 0, vInt 0, vInt 0]) (y := .cells (sTen (tenS l b)).cells) hC1 (i := o7) (by rw [Store.set_ne _ _ (by assumption), Store.set_ne _ _ (by assumption)]; exact ho7)
      refine awp_seq ?_
      refine awp_region (by kernel_rfl) ?_
      (refine aL_S rfl rfl v_ ?_)
      refine aL_nil ?_
      refine awp_cond v_ (fun hc8 => ?_) (fun hc8 => ?_)
      · replace hc8 := nm_ hc8
        have hcov : (U.take (k + 1)).filterMap (fun x => tnU l x.key) = (U.take k).filterMap (fun x => tnU l x.key) ++ [b] := by rw [hsn, htn, if_pos ⟨hc6.2, hc8⟩]; rfl
        have R := hb'
        refine awp_region (by kernel_rfl) ?_
        iterate 4 (refine aL_S rfl rfl v_ ?_)
        refine aL_buildSlice rfl rfl rfl g_ g_ rfl rfl h_ c2_ (by decide) ?_
        refine aL_X rfl rfl (AOp_appendC rfl g_ g_ hC2 va_ (fun y hy => by obtain ⟨s, _, rfl⟩ := List.mem_map.1 hy; rfl) va_ c_ (by simp; omega) fun a' σ' hC3 => ?_)
        rw [show ((U.take k).filterMap fun x => tnU l x.key).map vStr ++ [vStr b] = ((U.take k).filterMap (fun x => tnU l x.key) ++ [b]).map vStr from by simp] at hC3
        obtain ⟨τ1, hC4, hs1⟩ := cbp_drop hC3 n7
        obtain ⟨τ2, hC5, hs2⟩ := cbp_drop hC4 n5
        (refine aL_S rfl rfl v_ ?_)
        refine aL_nil ?_
        refine awp_region (by kernel_rfl) ?_
        iterate 2 (refine aL_S rfl rfl v_ ?_)
        refine aL_nil ?_
        refine aNext (ι := Store × AVal × Nat) (i := ⟨τ, g, k⟩) (τ2, a', k + 1) ?_ ?_ ?_ ?_
        · show U.length - (k + 1) < U.length - k; omega
        · exact ⟨by show k + 1 ≤ U.length; omega, by rw [hcov]; exact hC5⟩
        · exact cv_
        · exact (hs2.trans hs1).wk
      · replace hc8 := nm_ hc8
        have hcov : (U.take (k + 1)).filterMap (fun x => tnU l x.key) = (U.take k).filterMap fun x => tnU l x.key := by rw [hsn, htn, if_neg (by simp [hc8])]; simp
        refine awp_skip ?_
        refine awp_region (by kernel_rfl) ?_
        iterate 2 (refine aL_S rfl rfl v_ ?_)
        refine aL_nil ?_
        refine aNext (ι := Store × AVal × Nat) (i := ⟨τ, g, k⟩) (τ, g, k + 1) ?_ ?_ ?_ ?_
        · show U.length - (k + 1) < U.length - k; omega
        · exact ⟨by show k + 1 ≤ U.length; omega, by rw [hcov]; exact hC⟩
        · exact cv_
        · exact sub_
  · replace hc3 := nm_ hc3
    refine awp_exit ?_
    refine aThen_exit ?_
    refine aThen_exit ?_
    refine aBlock_hit ?_
    refine awp_seq ?_
    obtain rfl : k = U.length := by omega
    rw [List.take_length] at hC
    have hle : (U.filterMap fun x => tnU l x.key).length ≤ U.length := List.length_filterMap_le ..
    refine awp_region (by kernel_rfl) ?_
    (refine aL_S rfl rfl v_ ?_)
    refine aL_X rfl rfl (AOp_use rfl rfl (.inr ⟨rfl, rfl, rfl⟩) g_ va_ (sortStrC hC (by omega)) ?_); rintro _ τ1 ⟨rfl, hC4⟩
    refine aL_nil ?_
    refine awp_seq ?_
    refine awp_region (by kernel_rfl) ?_
    (refine aL_S rfl rfl v_ ?_)
    refine aL_X rfl rfl (AOp_use rfl rfl (.inr ⟨rfl, rfl, rfl⟩) g_ va_ (compactStrC (ss := sortSS (U.filterMap fun x => tnU l x.key)) hC4 (by simp [sortSS]; omega) (by refine Nat.le_trans (compact_le _) (by simp))) ?_); rintro _ _ ⟨rfl, rfl⟩
    (refine aL_S rfl rfl v_ ?_)
    refine aL_nil ?_
    refine awp_ret ?_
    refine aEnd_ret v_ (Store.Wk.refl _) ?_
    exact ⟨by rw [hall], rfl⟩
def anR (l m : List Ent) : List ByteArray := (m.filterMap fun x => tnK l x.key).foldl (fun acc s => insS s acc) []
theorem anR_eq (l : List Ent) : anR l l = allS l := ins_once _
end Go.Proofs.YtbomkkjhafdhiaaGreatDoor
end

section
set_option linter.all false
set_option maxRecDepth 100000
namespace Go.Proofs.YtbomkkjhafdhiaaGreatDoor
open Go.Ab
theorem sameTexts_c {a : List ByteArray} {t1 t2 : Bool} {σ : Store} (hl : a.length ≤ 1000000) : ACalls Tryz.prog 11 [.sl 1 (a.map vStr) t1, .sl 1 (a.map vStr) t2] σ fun v σ' => v = vB true ∧ σ = σ' := by
  refine ACalls_of Tryz.func11 rfl Tryz.ntmps11 (congrArg Array.toList Tryz.results11) (by simp only [List.length_cons, List.length_nil]; decide) ?_; simp only [envOf_cons, envOf_nil, Nat.reduceAdd]
  refine awp_seq ?_
  refine awp_region (by kernel_rfl) ?_
  (refine aL_S rfl rfl v_ ?_)
  refine aL_nil ?_
  refine awp_seq ?_
  refine awp_seq ?_
  refine awp_region (by kernel_rfl) ?_
  iterate 5 (refine aL_S rfl rfl v_ ?_)
  refine aL_nil ?_
  refine awp_cond v_ (fun hc1 => ?_) (fun hc1 => ?_)
  · replace hc1 := nm_ hc1
    simp at hc1
  · replace hc1 := nm_ hc1
    refine awp_skip ?_
    refine awp_seq ?_
    refine awp_seq ?_
    refine awp_region (by kernel_rfl) ?_
    (refine aL_S rfl rfl v_ ?_)
    refine aL_nil ?_
    refine awp_block ?_
    refine awp_loop_env (ι := Nat) (fun k => a.length - k) (fun k => k ≤ a.length) (fun k => [(0, .sl 1 (a.map vStr) t1), (1, .sl 1 (a.map vStr) t2), (5, vInt k)]) (fun k => σ) 0 ?_ ?_ ?_ ?_
    · exact Nat.zero_le _
    · exact cv_
    · exact sub_
    rintro k hk
    simp only [envL_cons, envL_nil]
    refine awp_seq ?_
    refine awp_seq ?_
    refine awp_region (by kernel_rfl) ?_
    iterate 5 (refine aL_S rfl rfl v_ ?_)
    refine aL_GT rfl rfl v_ rfl vg_ ?_
    refine aL_GT rfl rfl v_ rfl vg_ ?_
    refine aL_GT rfl rfl v_ rfl vg_ ?_
    refine aL_GT rfl rfl v_ rfl vg_ ?_
    (refine aL_S rfl rfl v_ ?_)
    refine aL_nil ?_
    refine awp_cond v_ (fun hc4 => ?_) (fun hc4 => ?_)
    · replace hc4 := nm_ hc4
      refine awp_skip ?_
      refine awp_seq ?_
      refine awp_block ?_
      refine awp_seq ?_
      obtain ⟨x, hx⟩ := get_some (l := a) (k := k) (by omega)
      have R := hx
      refine awp_draw (.op 0 0 (.op 1 0 (.op 2 0 (.op 3 0 (.op 4 0 (.op 5 0 (.op 6 0 (.op 7 0 (.op 8 0 .nil))))))))) Tryz.mixed (by kernel_rfl) ?_
      iterate 9 (refine dR_S o_ (by rfl) (by rfl) v_ ?_)
      refine dR_nil ?_
      refine awp_cond v_ (fun hc6 => ?_) (fun hc6 => ?_)
      · replace hc6 := nm_ hc6
        simp at hc6
      · replace hc6 := nm_ hc6
        refine awp_skip ?_
        refine awp_region (by kernel_rfl) ?_
        iterate 3 (refine aL_S rfl rfl v_ ?_)
        refine aL_nil ?_
        refine aNext (ι := Nat) (i := k) (k + 1) ?_ ?_ ?_ ?_
        · omega
        · exact (by omega)
        · exact cv_
        · exact sub_
    · replace hc4 := nm_ hc4
      refine awp_exit ?_
      refine aThen_exit ?_
      refine aThen_exit ?_
      refine aBlock_hit ?_
      refine awp_seq ?_
      refine awp_region (by kernel_rfl) ?_
      (refine aL_S rfl rfl v_ ?_)
      refine aL_nil ?_
      refine awp_ret ?_
      refine aEnd_ret (σ' := σ) v_ sub_ ?_
      exact ⟨rfl, rfl⟩
abbrev tT : ByteArray := ⟨#[116]⟩
theorem itoa_3 : Lib.itoa 3 = [51] := by rw [show (3 : Int) = ((3 : Nat) : Int) from rfl, Lib.itoa_nonneg, dec_one (by decide)]; rfl
theorem num_3 : numS ⟨#[51]⟩ = some 3 := numS_some.2 ⟨by rw [itoa_3]; rfl, by decide, by decide⟩
theorem num_e : numS ⟨#[]⟩ = none := by kernel_rfl
end Go.Proofs.YtbomkkjhafdhiaaGreatDoor
end
