/-
  CONTEXTS AND OBJECTS, as they come in; MESSAGES, as they come in; The values that live: last.Live; the document's; How many must answer: quorum; How many must answer: the document's quorum; Which values are told: last, and the document's; WHAT A WRITE's CONTEXT KNEW IS REPLACED, plainly: what stays true of each copy, whatever is done. Own work (an AI agent).
-/
import Derived.Test.YtbcgkbdacijoiaaGreatGG
import Derived.Test.YtbcgkbdacijoiaaGreatGD
import Derived.Test.YtbcgkbdacijoiaaGreatGE
import Derived.Test.YtbcgkbdacijoiaaGreatGH

section
set_option linter.all false
set_option maxRecDepth 100000
namespace Go.Ab
abbrev shInts : Sh := .sl false (.int .i64)
abbrev shDot : Sh := .pair .str (.pair (.int .i64) .unit)
abbrev shSeen : Sh := .pair .str (.pair (.int .i64) (.pair shInts .unit))
abbrev shSib : Sh := .pair shDot (.pair .str (.pair .bool (.pair (.int .i64) .unit)))
abbrev shCtx : Sh := .sl true shSeen
abbrev shObj : Sh := .pair shCtx (.pair (.sl true shSib) .unit)
theorem rd_ints {c : List AVal} (h : shInts.ok c) : ∃ l : List Int, c = [.sl 1 (l.map vInt) false] := by
  obtain ⟨l, rfl, _, hl⟩ := h
  obtain ⟨zs, rfl⟩ := lits_of hl
  exact ⟨zs, rfl⟩
theorem rd_seen {c : List AVal} (h : shSeen.ok c) : ∃ x : Seen, .agg c = sSeen x := by
  obtain ⟨_, _, rfl, ⟨s, rfl, _⟩, _, _, rfl, ⟨n, rfl, _⟩, _, _, rfl, h3, rfl⟩ := h
  obtain ⟨l, rfl⟩ := rd_ints h3
  exact ⟨⟨s, n, l⟩, rfl⟩
theorem rd_sib {c : List AVal} (h : shSib.ok c) : ∃ x : Sib, .agg c = sSib x := by
  obtain ⟨_, _, rfl, ⟨_, _, rfl, ⟨s, rfl, _⟩, _, _, rfl, ⟨n, rfl, _⟩, rfl⟩, _, _, rfl, ⟨v, rfl, _⟩, _, _, rfl, ⟨g, rfl⟩, _, _, rfl, ⟨t, rfl, _⟩, rfl⟩ := h
  exact ⟨⟨s, n, v, g, t⟩, rfl⟩
theorem rd_sl {α : Type} (f : α → AVal) {e : Sh} (he : ∀ c, e.ok c → ∃ a, .agg c = f a) {c : List AVal} (h : (Sh.sl true e).ok c) : ∃ zs : List α, c = [.sl e.size (zs.map f) false] := by
  obtain ⟨l, rfl, _, hl⟩ := h
  obtain ⟨zs, rfl⟩ := list_of f (l := l) fun x hx => by
    obtain ⟨c, hc, e⟩ := hl x hx
    simp only [if_true] at e
    rw [e]; exact he c hc
  exact ⟨zs, rfl⟩
theorem rd_ctx {c : List AVal} (h : shCtx.ok c) : ∃ l : List Seen, c = [.sl 3 (l.map sSeen) false] := rd_sl sSeen (fun c hc => rd_seen hc) h
end Go.Ab
end

section
set_option linter.all false
set_option maxRecDepth 100000
namespace Go.Ab
end Go.Ab
end

section
set_option linter.all false
set_option maxRecDepth 100000
namespace Go.Proofs.YtbcgkbdacijoiaaGreat
open Go.Ab
abbrev fLive : AVal := .lit (.func (.func 219) #[] #[])
theorem live1_c {x : Sib} {σ : Store} : ACalls Tryz.prog 219 [sSib x] σ fun v σ' => v = vB x.gone ∧ σ = σ' := by
  refine ACalls_of Tryz.func219 rfl Tryz.ntmps219 (congrArg Array.toList Tryz.results219) (by simp only [List.length_cons, List.length_nil]; decide) ?_; simp only [envOf_cons, envOf_nil, Nat.reduceAdd]
  refine awp_seq ?_
  refine awp_region (by kernel_rfl) ?_
  refine aL_box rfl rfl rfl v_ rfl g_ fun o1 ho1 => ?_
  repeat (rw [none_set_iff] at ho1; obtain ⟨_, ho1⟩ := ho1)
  (refine aL_S rfl rfl v_ ?_)
  refine aL_nil ?_
  refine awp_seq ?_
  refine awp_region (by kernel_rfl) ?_
  iterate 3 (refine aL_S rfl rfl v_ ?_)
  refine aL_nil ?_
  refine awp_ret ?_
  refine aEnd_ret (σ' := σ) v_ sub_ ?_
  exact ⟨rfl, rfl⟩
theorem idx0L_c {σ : Store} : ACalls Tryz.prog 285 [.sl 5 [] false, fLive] σ fun v σ' => v = vInt (-1) ∧ σ = σ' := by
  refine ACalls_of Tryz.func285 rfl Tryz.ntmps285 (congrArg Array.toList Tryz.results285) (by simp only [List.length_cons, List.length_nil]; decide) ?_; simp only [envOf_cons, envOf_nil, Nat.reduceAdd]
  refine awp_seq ?_
  refine awp_region (by kernel_rfl) ?_
  (refine aL_S rfl rfl v_ ?_)
  refine aL_nil ?_
  refine awp_seq ?_
  refine awp_seq ?_
  refine awp_region (by kernel_rfl) ?_
  iterate 3 (refine aL_S rfl rfl v_ ?_)
  refine aL_nil ?_
  refine awp_block ?_
  refine awp_loop_env (ι := Nat) (fun k => 0) (fun k => k = 0) (fun k => [(0, .sl 5 [] false), (1, fLive), (7, vInt 0), (8, vInt k)]) (fun k => σ) 0 ?_ ?_ ?_ ?_
  · rfl
  · exact cv_
  · exact sub_
  rintro k hk
  simp only [envL_cons, envL_nil]
  refine awp_seq ?_
  refine awp_region (by kernel_rfl) ?_
  (refine aL_S rfl rfl v_ ?_)
  refine aL_nil ?_
  refine awp_seq ?_
  refine awp_cond v_ (fun hc2 => ?_) (fun hc2 => ?_)
  · replace hc2 := nm_ hc2
    omega
  · replace hc2 := nm_ hc2
    refine awp_exit ?_
    refine aThen_exit ?_
    refine aThen_exit ?_
    refine aBlock_hit ?_
    refine awp_seq ?_
    refine awp_region (by kernel_rfl) ?_
    (refine aL_S rfl rfl v_ ?_)
    refine aL_nil ?_
    refine awp_ret ?_
    refine aEnd_ret (σ' := σ) v_ sub_ ?_
    exact ⟨rfl, rfl⟩
theorem idxML_c {o : Nat} {L : List Sib} {σ : Store} (ho : σ.heap o = some (.cells (flat (L.map sSib)))) (hl : L.length ≤ 1000000) : ACalls Tryz.prog 285 [.msl o 5 0 L.length, fLive] σ fun v σ' => (∃ r : Int, v = vInt r ∧ (r = -1 → L.filter live = L) ∧ (r ≠ -1 → ∃ j : Nat, r = j ∧ j < L.length ∧ (L.take (j + 1)).filter live = L.take j)) ∧ σ = σ' := by
  have hfl := flat_sib_len L
  refine ACalls_of Tryz.func285 rfl Tryz.ntmps285 (congrArg Array.toList Tryz.results285) (by simp only [List.length_cons, List.length_nil]; decide) ?_; simp only [envOf_cons, envOf_nil, Nat.reduceAdd]
  refine awp_seq ?_
  refine awp_region (by kernel_rfl) ?_
  (refine aL_S rfl rfl v_ ?_)
  refine aL_nil ?_
  refine awp_seq ?_
  refine awp_seq ?_
  refine awp_region (by kernel_rfl) ?_
  iterate 3 (refine aL_S rfl rfl v_ ?_)
  refine aL_nil ?_
  refine awp_block ?_
  refine awp_loop_env (ι := Nat) (fun k => L.length - k) (fun k => k ≤ L.length ∧ (L.take k).filter live = L.take k) (fun k => [(0, .msl o 5 0 L.length), (1, fLive), (7, vInt L.length), (8, vInt k)]) (fun k => σ) 0 ?_ ?_ ?_ ?_
  · exact ⟨Nat.zero_le _, rfl⟩
  · exact cv_
  · exact sub_
  rintro k ⟨hk, hf⟩
  simp only [envL_cons, envL_nil]
  refine awp_seq ?_
  refine awp_region (by kernel_rfl) ?_
  (refine aL_S rfl rfl v_ ?_)
  refine aL_nil ?_
  refine awp_seq ?_
  refine awp_cond v_ (fun hc2 => ?_) (fun hc2 => ?_)
  · replace hc2 := nm_ hc2
    refine awp_skip ?_
    refine awp_seq ?_
    refine awp_block ?_
    refine awp_seq ?_
    refine awp_region (by kernel_rfl) ?_
    iterate 2 (refine aL_S rfl rfl v_ ?_)
    refine aL_nil ?_
    refine awp_seq ?_
    obtain ⟨x, hx⟩ := get_some (l := L) (k := k) (by omega)
    have px := flat_part hx
    have R := And.intro px (And.intro ho hfl)
    refine awp_region (by kernel_rfl) ?_
    iterate 5 (refine aL_S rfl rfl v_ ?_)
    refine aL_X rfl rfl (AOp_use rfl rfl (.inr ⟨va_, rfl, rfl⟩) g_ va_ (live1_c) ?_); rintro _ _ ⟨rfl, rfl⟩
    refine aL_nil ?_
    refine awp_cond v_ (fun hc4 => ?_) (fun hc4 => ?_)
    · replace hc4 := nm_ hc4
      refine awp_seq ?_
      refine awp_region (by kernel_rfl) ?_
      iterate 2 (refine aL_S rfl rfl v_ ?_)
      refine aL_nil ?_
      refine awp_ret ?_
      refine aEnd_ret (σ' := σ) v_ sub_ ?_
      exact ⟨⟨k, rfl, fun h => by omega, fun _ => ⟨k, rfl, by omega, by rw [take_snoc hx, List.filter_append, hf]; simp [live, hc4]⟩⟩, rfl⟩
    · replace hc4 := nm_ hc4
      refine awp_skip ?_
      refine awp_region (by kernel_rfl) ?_
      iterate 2 (refine aL_S rfl rfl v_ ?_)
      refine aL_nil ?_
      refine aNext (ι := Nat) (i := k) (k + 1) ?_ ?_ ?_ ?_
      · omega
      · exact ⟨by omega, by rw [take_snoc hx, List.filter_append, hf]; simp [live, hc4]⟩
      · exact cv_
      · exact sub_
  · replace hc2 := nm_ hc2
    refine awp_exit ?_
    refine aThen_exit ?_
    refine aThen_exit ?_
    refine aBlock_hit ?_
    refine awp_seq ?_
    refine awp_region (by kernel_rfl) ?_
    (refine aL_S rfl rfl v_ ?_)
    refine aL_nil ?_
    refine awp_ret ?_
    refine aEnd_ret (σ' := σ) v_ sub_ ?_
    exact ⟨⟨-1, rfl, fun _ => by rwa [List.take_of_length_le (by omega)] at hf, fun h => absurd rfl h⟩, rfl⟩
theorem delete0L_c {σ : Store} : ACalls Tryz.prog 217 [.sl 5 [] false, fLive] σ fun v σ' => v = .sl 5 [] false ∧ σ = σ' := by
  refine ACalls_of Tryz.func217 rfl Tryz.ntmps217 (congrArg Array.toList Tryz.results217) (by simp only [List.length_cons, List.length_nil]; decide) ?_; simp only [envOf_cons, envOf_nil, Nat.reduceAdd]
  refine awp_seq ?_
  refine awp_region (by kernel_rfl) ?_
  (refine aL_S rfl rfl v_ ?_)
  refine aL_nil ?_
  refine awp_seq ?_
  refine awp_region (by kernel_rfl) ?_
  iterate 2 (refine aL_S rfl rfl v_ ?_)
  refine aL_X rfl rfl (AOp_use rfl rfl (.inr ⟨rfl, rfl, rfl⟩) g_ va_ (idx0L_c) ?_); rintro _ _ ⟨rfl, rfl⟩
  (refine aL_S rfl rfl v_ ?_)
  refine aL_nil ?_
  refine awp_seq ?_
  refine awp_seq ?_
  refine awp_region (by kernel_rfl) ?_
  iterate 2 (refine aL_S rfl rfl v_ ?_)
  refine aL_nil ?_
  refine awp_cond v_ (fun hc2 => ?_) (fun hc2 => ?_)
  · replace hc2 := nm_ hc2
    refine awp_seq ?_
    refine awp_region (by kernel_rfl) ?_
    iterate 2 (refine aL_S rfl rfl v_ ?_)
    refine aL_nil ?_
    refine awp_ret ?_
    refine aEnd_ret (σ' := σ) v_ sub_ ?_
    exact ⟨rfl, rfl⟩
  · replace hc2 := nm_ hc2
    first | omega | (simp at hc2; done) | cases hc2
set_option maxHeartbeats 2000000 in
theorem deleteML_c {o : Nat} {L : List Sib} {σ : Store} (ho : σ.heap o = some (.cells (flat (L.map sSib)))) (hl : L.length ≤ 1000000) :
    ACalls Tryz.prog 217 [.msl o 5 0 L.length, fLive] σ fun v σ' => ∃ zs : List AVal, v = .msl o 5 0 (L.filter live).length ∧ σ' = σ.set o (.cells (flat ((L.filter live).map sSib) ++ zs)) := by
  have hfl := flat_sib_len L
  refine ACalls_of Tryz.func217 rfl Tryz.ntmps217 (congrArg Array.toList Tryz.results217) (by simp only [List.length_cons, List.length_nil]; decide) ?_; simp only [envOf_cons, envOf_nil, Nat.reduceAdd]
  refine awp_seq ?_
  refine awp_region (by kernel_rfl) ?_
  (refine aL_S rfl rfl v_ ?_)
  refine aL_nil ?_
  refine awp_seq ?_
  refine awp_region (by kernel_rfl) ?_
  iterate 2 (refine aL_S rfl rfl v_ ?_)
  refine aL_X rfl rfl (AOp_use rfl rfl (.inr ⟨rfl, rfl, rfl⟩) g_ va_ (idxML_c ho hl) ?_); rintro _ _ ⟨⟨r, rfl, h1, h2⟩, rfl⟩
  (refine aL_S rfl rfl v_ ?_)
  refine aL_nil ?_
  refine awp_seq ?_
  refine awp_seq ?_
  refine awp_region (by kernel_rfl) ?_
  iterate 2 (refine aL_S rfl rfl v_ ?_)
  refine aL_nil ?_
  refine awp_cond v_ (fun hc2 => ?_) (fun hc2 => ?_)
  · replace hc2 := nm_ hc2
    refine awp_seq ?_
    refine awp_region (by kernel_rfl) ?_
    iterate 2 (refine aL_S rfl rfl v_ ?_)
    refine aL_nil ?_
    refine awp_ret ?_
    refine aEnd_ret v_ (Store.Wk.refl _) ?_
    exact ⟨[], by rw [h1 hc2], by rw [h1 hc2, List.append_nil, Store.set_same ho]⟩
  · replace hc2 := nm_ hc2
    obtain ⟨j0, rfl, hj0, hf0⟩ := h2 hc2
    have hI0 : DlI L (j0 + 1) j0 L := ⟨rfl, hf0.symm, by rw [hf0, List.length_take]; omega, by omega, by omega, rfl⟩
    refine awp_skip ?_
    refine awp_seq ?_
    refine awp_seq ?_
    refine awp_region (by kernel_rfl) ?_
    iterate 3 (refine aL_S rfl rfl v_ ?_)
    refine aL_nil ?_
    refine awp_block ?_
    refine awp_loop_env (ι := Nat × Nat × List Sib) (fun ⟨j, i, M⟩ => L.length - j) (fun ⟨j, i, M⟩ => DlI L j i M) (fun ⟨j, i, M⟩ => [(0, .msl o 5 0 L.length), (1, fLive), (5, vInt i), (6, vInt j)]) (fun ⟨j, i, M⟩ => (σ.set o (.cells (flat (M.map sSib))))) (j0 + 1, j0, L) ?_ ?_ ?_ ?_
    · exact hI0
    · exact cv_
    · (try dsimp only); rw [Store.set_same ho]; exact Store.Wk.refl _
    rintro ⟨j, i, M⟩ hI
    simp only [envL_cons, envL_nil]
    refine awp_seq ?_
    refine awp_seq ?_
    refine awp_region (by kernel_rfl) ?_
    iterate 4 (refine aL_S rfl rfl v_ ?_)
    refine aL_nil ?_
    refine awp_cond v_ (fun hc5 => ?_) (fun hc5 => ?_)
    · replace hc5 := nm_ hc5
      refine awp_skip ?_
      refine awp_seq ?_
      refine awp_block ?_
      refine awp_seq ?_
      have hjl : j < L.length := by omega
      obtain ⟨x, hx⟩ := get_some (l := L) (k := j) hjl
      have hMx : M[j]? = some x := by rw [drop_get hI.dr (Nat.le_refl _)]; exact hx
      have px := flat_part hMx
      have hflM := flat_sib_len M
      rw [hI.len] at hflM
      have hil := hI.lt
      have R := And.intro px hflM
      refine awp_region (by kernel_rfl) ?_
      iterate 4 (refine aL_S rfl rfl v_ ?_)
      refine aL_alloc rfl rfl rfl g_ gl_ fun o7 ho7 => ?_
      repeat (rw [none_set_iff] at ho7; obtain ⟨_, ho7⟩ := ho7)
      refine aL_store rfl rfl rfl v_ v_ h_ g_ rfl g_ c_ (by rfl) le_ v_ ?_
      refine aL_nil ?_
      refine awp_seq ?_
      refine awp_region (by kernel_rfl) ?_
      iterate 2 (refine aL_S rfl rfl v_ ?_)
      refine aL_X rfl rfl (AOp_use rfl rfl (.inr ⟨va_, rfl, rfl⟩) g_ va_ (live1_c) ?_); rintro _ _ ⟨rfl, rfl⟩
      (refine aL_S rfl rfl v_ ?_)
      refine aL_nil ?_
      refine awp_cond v_ (fun hc8 => ?_) (fun hc8 => ?_)
      · replace hc8 := nm_ hc8
        refine awp_seq ?_
        have R := hflM
        refine awp_region (by kernel_rfl) ?_
        iterate 4 (refine aL_S rfl rfl v_ ?_)
        refine aL_store rfl rfl rfl v_ v_ h_ g_ rfl g_ c_ (by rfl) (by rw [hflM]; omega) (aput_flat (by rw [hI.len]; omega)) ?_
        refine aL_nil ?_
        refine awp_region (by kernel_rfl) ?_
        iterate 3 (refine aL_S rfl rfl v_ ?_)
        refine aL_nil ?_
        refine awp_region (by kernel_rfl) ?_
        iterate 3 (refine aL_S rfl rfl v_ ?_)
        refine aL_nil ?_
        refine aNext (ι := Nat × Nat × List Sib) (i := ⟨j, i, M⟩) (j + 1, i + 1, M.set i x) ?_ ?_ ?_ ?_
        · show L.length - (j + 1) < L.length - j; omega
        · exact hI.put hx hc8
        · exact cv_
        · exact sub_
      · replace hc8 := nm_ hc8
        refine awp_skip ?_
        refine awp_region (by kernel_rfl) ?_
        iterate 3 (refine aL_S rfl rfl v_ ?_)
        refine aL_nil ?_
        refine aNext (ι := Nat × Nat × List Sib) (i := ⟨j, i, M⟩) (j + 1, i, M) ?_ ?_ ?_ ?_
        · show L.length - (j + 1) < L.length - j; omega
        · exact hI.skip hx hc8
        · exact cv_
        · exact sub_
    · replace hc5 := nm_ hc5
      refine awp_exit ?_
      refine aThen_exit ?_
      refine aThen_exit ?_
      refine aBlock_hit ?_
      refine awp_seq ?_
      have hil := hI.lt
      have hle := hI.le
      have hflM := flat_sib_len M
      rw [hI.len] at hflM
      have hcnt := hI.cnt
      have htk := hI.tk
      rw [show j = L.length by omega, List.take_length] at hcnt htk
      refine awp_region (by kernel_rfl) ?_
      iterate 3 (refine aL_S rfl rfl v_ ?_)
      refine aL_X0 rfl rfl (AOp_clear (sz := 5) rfl g_ g_ (by rfl) (by decide) va_ h_ (by rw [hflM]; omega) fun zs hz => ?_)
      refine aL_nil ?_
      refine awp_seq ?_
      refine awp_region (by kernel_rfl) ?_
      iterate 4 (refine aL_S rfl rfl v_ ?_)
      refine aL_nil ?_
      refine awp_ret ?_
      refine aEnd_ret v_ (Store.Wk.refl _) ?_
      exact ⟨zs ++ (flat (M.map sSib)).drop (i * 5 + zs.length), by rw [hcnt]; rfl, by rw [Store.set_set, take_flat, htk]⟩
theorem deleteCL {σ0 σ : Store} {L : List Sib} {a : AVal} (h : CBq σ0 σ L a) (hl : L.length ≤ 1000000) :
    ACalls Tryz.prog 217 [a, fLive] σ fun v σ' => v = .sl 5 ((L.filter live).map sSib) false ∧ σ0 = σ' := by
  rcases h with ⟨rfl, rfl, rfl⟩ | ⟨o, ho, rfl, rfl⟩
  · exact delete0L_c
  · refine (deleteML_c (Store.set_get ..) hl).after ?_
    rintro κ _ _ cv hI hr ⟨zs, rfl, rfl⟩
    obtain ⟨κ', h1, h2, h3, h4⟩ := Ab.freeze hI hr (Store.set_get ..) (l := (L.filter live).map sSib) (by rw [List.take_left' (by rw [flat_sib_len])]) (by simp) (szSib _)
    rw [Store.set_set, Store.set_del ho] at h3
    exact ⟨κ', _, _, h1, h2, h3, h4, rfl, rfl⟩
theorem live_c {L : List Sib} {t : Bool} {σ : Store} (hl : L.length ≤ 1000000) : ACalls Tryz.prog 134 [.sl 5 (L.map sSib) t] σ fun v σ' => v = .sl 5 ((L.filter live).map sSib) false ∧ σ = σ' := by
  refine ACalls_of Tryz.func134 rfl Tryz.ntmps134 (congrArg Array.toList Tryz.results134) (by simp only [List.length_cons, List.length_nil]; decide) ?_; simp only [envOf_cons, envOf_nil, Nat.reduceAdd]
  refine awp_seq ?_
  refine awp_region (by kernel_rfl) ?_
  (refine aL_S rfl rfl v_ ?_)
  refine aL_nil ?_
  refine awp_seq ?_
  refine awp_region (by kernel_rfl) ?_
  (refine aL_S rfl rfl v_ ?_)
  refine aL_X rfl rfl (AOp_use rfl rfl (.inr ⟨rfl, rfl, rfl⟩) g_ va_ (cloneC hl) ?_); rintro _ τ0 hC0
  refine aL_X rfl rfl (AOp_use rfl rfl (.inr ⟨rfl, rfl, rfl⟩) g_ va_ (deleteCL hC0 hl) ?_); rintro _ _ ⟨rfl, rfl⟩
  (refine aL_S rfl rfl v_ ?_)
  refine aL_nil ?_
  refine awp_ret ?_
  refine aEnd_ret (σ' := σ) v_ sub_ ?_
  exact ⟨rfl, rfl⟩
theorem rLive_c {L : List Sib} {t : Bool} {σ : Store} (hl : L.length ≤ 1000000) : ACalls Tryz.prog 136 [.sl 5 (L.map sSib) t] σ fun v σ' => v = .sl 5 ((L.filter live).map sSib) false ∧ σ = σ' := by
  refine ACalls_of Tryz.func136 rfl Tryz.ntmps136 (congrArg Array.toList Tryz.results136) (by simp only [List.length_cons, List.length_nil]; decide) ?_; simp only [envOf_cons, envOf_nil, Nat.reduceAdd]
  refine awp_seq ?_
  refine awp_region (by kernel_rfl) ?_
  (refine aL_S rfl rfl v_ ?_)
  refine aL_nil ?_
  refine awp_seq ?_
  refine awp_region (by kernel_rfl) ?_
  refine aL_nilOwn 102 5 rfl rfl rfl (by rfl) fun k3 hk3 => ?_
  refine aL_nil ?_
  refine awp_seq ?_
  refine awp_seq ?_
  refine awp_region (by kernel_rfl) ?_
  (refine aL_S rfl rfl v_ ?_)
  refine aL_nil ?_
  refine awp_block ?_
  refine awp_loop_env (ι := Nat × Nat) (fun ⟨tk, k⟩ => L.length - k) (fun ⟨tk, k⟩ => k ≤ L.length ∧ σ.tok tk = none) (fun ⟨tk, k⟩ => [(0, .sl 5 (L.map sSib) t), (3, .own tk 5 (((L.take k).filter live).map sSib)), (4, vInt k)]) (fun ⟨tk, k⟩ => (σ.newTok none tk (102, 5))) (k3, 0) ?_ ?_ ?_ ?_
  · exact ⟨Nat.zero_le _, hk3⟩
  · exact cv_
  · exact Store.Wk.refl _
  rintro ⟨tk, k⟩ ⟨hk, htk⟩
  simp only [envL_cons, envL_nil]
  refine awp_seq ?_
  refine awp_seq ?_
  refine awp_region (by kernel_rfl) ?_
  iterate 4 (refine aL_S rfl rfl v_ ?_)
  refine aL_nil ?_
  refine awp_cond v_ (fun hc3 => ?_) (fun hc3 => ?_)
  · replace hc3 := nm_ hc3
    refine awp_skip ?_
    refine awp_seq ?_
    refine awp_block ?_
    refine awp_seq ?_
    obtain ⟨x, hx⟩ := get_some (l := L) (k := k) (by omega)
    have hlen : ((L.take k).filter live).length ≤ k := Nat.le_trans (List.length_filter_le ..) (by simp; omega)
    have R := hx
    refine awp_region (by kernel_rfl) ?_
    iterate 6 (refine aL_S rfl rfl v_ ?_)
    refine aL_nil ?_
    refine awp_cond v_ (fun hc5 => ?_) (fun hc5 => ?_)
    · replace hc5 := nm_ hc5
      have hcov : ((L.take (k + 1)).filter live).map sSib = ((L.take k).filter live).map sSib ++ [sSib x] := by rw [take_snoc hx, List.filter_append, List.map_append]; simp [live, hc5]
      have R := hx
      refine awp_region (by kernel_rfl) ?_
      iterate 5 (refine aL_S rfl rfl v_ ?_)
      refine aL_buildSlice rfl rfl rfl g_ g_ rfl rfl h_ c2_ (by decide) ?_
      refine aL_append rfl rfl rfl g_ g_ v_ h_ v_ c_ (by simp; omega) fun k23 hk23 => ?_
      (refine aL_S rfl rfl v_ ?_)
      refine aL_nil ?_
      refine awp_region (by kernel_rfl) ?_
      iterate 3 (refine aL_S rfl rfl v_ ?_)
      refine aL_nil ?_
      refine aNext (ι := Nat × Nat) (i := ⟨tk, k⟩) (k23, k + 1) ?_ ?_ ?_ ?_
      · show L.length - (k + 1) < L.length - k; omega
      · exact ⟨by show k + 1 ≤ L.length; omega, (newTok_none hk23).2⟩
      · have R := hcov; exact cv_
      · exact sub_
    · replace hc5 := nm_ hc5
      have hcov : ((L.take (k + 1)).filter live).map sSib = ((L.take k).filter live).map sSib := by rw [take_snoc hx, List.filter_append, List.map_append]; simp [live, hc5]
      refine awp_skip ?_
      refine awp_region (by kernel_rfl) ?_
      iterate 3 (refine aL_S rfl rfl v_ ?_)
      refine aL_nil ?_
      refine aNext (ι := Nat × Nat) (i := ⟨tk, k⟩) (tk, k + 1) ?_ ?_ ?_ ?_
      · show L.length - (k + 1) < L.length - k; omega
      · exact ⟨by show k + 1 ≤ L.length; omega, htk⟩
      · have R := hcov; exact cv_
      · exact sub_
  · replace hc3 := nm_ hc3
    refine awp_exit ?_
    refine aThen_exit ?_
    refine aThen_exit ?_
    refine aBlock_hit ?_
    refine awp_seq ?_
    obtain rfl : k = L.length := by omega
    rw [List.take_length]
    refine awp_region (by kernel_rfl) ?_
    iterate 2 (refine aL_S rfl rfl v_ ?_)
    refine aL_nil ?_
    refine awp_ret ?_
    exact aEnd_retW (v := .sl 5 ((L.filter live).map sSib) false) (v' := .own tk 5 ((L.filter live).map sSib)) va_ (.own1 _ _ _) sub_ ⟨rfl, rfl⟩
end Go.Proofs.YtbcgkbdacijoiaaGreat
end

section
set_option linter.all false
set_option maxRecDepth 100000
namespace Go.Proofs.YtbcgkbdacijoiaaGreat
open Go.Ab
structure Ch where
  node : ByteArray
  prim : Bool
@[reducible] def sCh (x : Ch) : AVal := .agg [vStr x.node, vB x.prim]
def hasQ (l : List ByteArray) (s : ByteArray) : Bool := l.any fun y => decide (y = s)
def cntS (l : List Ch) (so : ByteArray → Bool) : Nat := (l.filter fun x => so x.node).length
def clmS (l : List Ch) (so : ByteArray → Bool) : Nat := (l.filter fun x => so x.node && x.prim).length
theorem cntS_yes {l : List Ch} {so : ByteArray → Bool} {k : Nat} {x : Ch} (h : l[k]? = some x) (hx : so x.node = true) : cntS (l.take (k + 1)) so = cntS (l.take k) so + 1 := by
  rw [take_snoc h, cntS, List.filter_append, List.length_append]; simp [cntS, hx]
theorem cntS_no {l : List Ch} {so : ByteArray → Bool} {k : Nat} {x : Ch} (h : l[k]? = some x) (hx : so x.node = false) : cntS (l.take (k + 1)) so = cntS (l.take k) so := by
  rw [take_snoc h, cntS, List.filter_append, List.length_append]; simp [cntS, hx]
theorem clmS_yes {l : List Ch} {so : ByteArray → Bool} {k : Nat} {x : Ch} (h : l[k]? = some x) (hx : so x.node = true) (hp : x.prim = true) : clmS (l.take (k + 1)) so = clmS (l.take k) so + 1 := by
  rw [take_snoc h, clmS, List.filter_append, List.length_append]; simp [clmS, hx, hp]
theorem clmS_no {l : List Ch} {so : ByteArray → Bool} {k : Nat} {x : Ch} (h : l[k]? = some x) (hx : so x.node = false ∨ x.prim = false) : clmS (l.take (k + 1)) so = clmS (l.take k) so := by
  rw [take_snoc h, clmS, List.filter_append, List.length_append]; rcases hx with h | h <;> simp [clmS, h]
theorem cntS_le (l : List Ch) (so : ByteArray → Bool) : cntS l so ≤ l.length := List.length_filter_le ..
theorem clmS_le (l : List Ch) (so : ByteArray → Bool) : clmS l so ≤ l.length := List.length_filter_le ..
/-- a function of names, that asks only what stands in the store -/
def SoF (F : FuncId) (caps : List AVal) (σ : Store) (so : ByteArray → Bool) : Prop := isGo Tryz.prog F = true ∧ ∀ τ : Store, (∀ i y, σ.heap i = some y → τ.heap i = some y) → ∀ s, ACalls Tryz.prog F (vStr s :: caps) τ fun v τ' => v = vB (so s) ∧ τ = τ'
theorem SoF.at_ {F : FuncId} {caps : List AVal} {σ τ : Store} {so : ByteArray → Bool} (h : SoF F caps σ so) (ht : ∀ i y, σ.heap i = some y → τ.heap i = some y) (s : ByteArray) : ACalls Tryz.prog F (vStr s :: caps) τ fun v τ' => v = vB (so s) ∧ τ = τ' := h.2 τ ht s
theorem SoF.mono {F : FuncId} {caps : List AVal} {σ τ : Store} {so : ByteArray → Bool} (h : SoF F caps σ so) (ht : ∀ i y, σ.heap i = some y → τ.heap i = some y) : SoF F caps τ so := ⟨h.1, fun υ hu s => h.2 υ (fun i y hy => hu i y (ht i y hy)) s⟩
theorem keep_new {σ : Store} {o : Nat} {x : AObj} (ho : σ.heap o = none) : ∀ i y, σ.heap i = some y → (σ.set o x).heap i = some y := fun i y hy => by
  rw [Store.set_ne _ _ (fun hh => by rw [hh, ho] at hy; cases hy)]; exact hy
theorem keep_new2 {σ : Store} {o : Nat} {x z : AObj} (ho : σ.heap o = none) : ∀ i y, σ.heap i = some y → ((σ.set o x).set o z).heap i = some y := fun i y hy => by
  have hne : i ≠ o := fun hh => by rw [hh, ho] at hy; cases hy
  rw [Store.set_ne _ _ hne, Store.set_ne _ _ hne]; exact hy
abbrev fnV (F : Nat) (caps : List AVal) : AVal := .fn (.func F) [] caps
theorem count_c {F : Nat} {caps : List AVal} {so : ByteArray → Bool} {l : List Ch} {t : Bool} {σ : Store} (hso : SoF F caps σ so) (hn : l.length ≤ 1000000) :
    ACalls Tryz.prog 264 [.sl 2 (l.map sCh) t, fnV F caps] σ fun v σ' => v = .tup [vInt (cntS l so), vInt (clmS l so)] ∧ σ = σ' := by
  have hF := hso.1
  refine ACalls_of Tryz.func264 rfl Tryz.ntmps264 (congrArg Array.toList Tryz.results264) (by simp only [List.length_cons, List.length_nil]; decide) ?_; simp only [envOf_cons, envOf_nil, Nat.reduceAdd]
  refine awp_seq ?_
  refine awp_region (by kernel_rfl) ?_
  iterate 2 (refine aL_S rfl rfl v_ ?_)
  refine aL_nil ?_
  refine awp_seq ?_
  refine awp_region (by kernel_rfl) ?_
  iterate 2 (refine aL_S rfl rfl v_ ?_)
  refine aL_nil ?_
  refine awp_seq ?_
  refine awp_seq ?_
  refine awp_region (by kernel_rfl) ?_
  iterate 3 (refine aL_S rfl rfl v_ ?_)
  refine aL_nil ?_
  refine awp_block ?_
  refine awp_loop_env (ι := Nat) (fun k => l.length - k) (fun k => k ≤ l.length) (fun k => [(1, fnV F caps), (6, vInt (cntS (l.take k) so)), (7, vInt (clmS (l.take k) so)), (10, .sl 2 (l.map sCh) t), (11, vInt l.length), (12, vInt k)]) (fun k => σ) 0 ?_ ?_ ?_ ?_
  · exact Nat.zero_le _
  · exact cv_
  · exact sub_
  rintro k hk
  simp only [envL_cons, envL_nil]
  refine awp_seq ?_
  refine awp_region (by kernel_rfl) ?_
  (refine aL_S rfl rfl v_ ?_)
  refine aL_nil ?_
  refine awp_seq ?_
  refine awp_cond v_ (fun hc3 => ?_) (fun hc3 => ?_)
  · replace hc3 := nm_ hc3
    refine awp_skip ?_
    refine awp_seq ?_
    refine awp_block ?_
    refine awp_seq ?_
    obtain ⟨x, hx⟩ := get_some (l := l) (k := k) (by omega)
    have l1 := cntS_le (l.take k) so; have l2 := clmS_le (l.take k) so
    rw [List.length_take] at l1 l2
    have R := hx
    refine awp_region (by kernel_rfl) ?_
    iterate 2 (refine aL_S rfl rfl v_ ?_)
    refine aL_alloc rfl rfl rfl g_ gl_ fun o9 ho9 => ?_
    repeat (rw [none_set_iff] at ho9; obtain ⟨_, ho9⟩ := ho9)
    refine aL_store rfl rfl rfl v_ v_ h_ g_ rfl g_ c_ (by rfl) le_ v_ ?_
    refine aL_nil ?_
    refine awp_seq ?_
    refine awp_seq ?_
    refine awp_region (by kernel_rfl) ?_
    iterate 3 (refine aL_S rfl rfl v_ ?_)
    refine aL_X rfl rfl (AOp_use rfl rfl (.inl v_) g_ va_ (hso.at_ (keep_new2 ho9) x.node) ?_); rintro _ _ ⟨rfl, rfl⟩
    (refine aL_S rfl rfl v_ ?_)
    refine aL_nil ?_
    refine awp_cond v_ (fun hc5 => ?_) (fun hc5 => ?_)
    · replace hc5 := nm_ hc5
      have q1 := cntS_no (so := so) hx (by simpa using hc5)
      have q2 := clmS_no (so := so) hx (.inl (by simpa using hc5))
      refine awp_exit ?_
      refine aThen_exit ?_
      refine aBlock_hit ?_
      refine awp_region (by kernel_rfl) ?_
      iterate 2 (refine aL_S rfl rfl v_ ?_)
      refine aL_nil ?_
      refine aNext (ι := Nat) (i := k) (k + 1) ?_ ?_ ?_ ?_
      · omega
      · exact (by omega)
      · have R := And.intro q1 q2; exact cv_
      · exact sub_
    · replace hc5 := nm_ hc5
      have hs5 : so x.node = true := by simpa using hc5
      have q1 : ((cntS (l.take (k + 1)) so : Nat) : Int) = (cntS (l.take k) so : Int) + 1 := by rw [cntS_yes hx hs5]; rfl
      refine awp_skip ?_
      refine awp_seq ?_
      refine awp_region (by kernel_rfl) ?_
      iterate 3 (refine aL_S rfl rfl v_ ?_)
      refine aL_nil ?_
      refine awp_seq ?_
      refine awp_region (by kernel_rfl) ?_
      iterate 2 (refine aL_S rfl rfl v_ ?_)
      refine aL_nil ?_
      refine awp_cond v_ (fun hc7 => ?_) (fun hc7 => ?_)
      · replace hc7 := nm_ hc7
        have q2 : ((clmS (l.take (k + 1)) so : Nat) : Int) = (clmS (l.take k) so : Int) + 1 := by rw [clmS_yes hx hs5 hc7]; rfl
        refine awp_region (by kernel_rfl) ?_
        iterate 3 (refine aL_S rfl rfl v_ ?_)
        refine aL_nil ?_
        refine awp_region (by kernel_rfl) ?_
        iterate 2 (refine aL_S rfl rfl v_ ?_)
        refine aL_nil ?_
        refine aNext (ι := Nat) (i := k) (k + 1) ?_ ?_ ?_ ?_
        · omega
        · exact (by omega)
        · have R := And.intro q1 q2; exact cv_
        · exact sub_
      · replace hc7 := nm_ hc7
        have q2 := clmS_no (so := so) hx (.inr hc7)
        refine awp_skip ?_
        refine awp_region (by kernel_rfl) ?_
        iterate 2 (refine aL_S rfl rfl v_ ?_)
        refine aL_nil ?_
        refine aNext (ι := Nat) (i := k) (k + 1) ?_ ?_ ?_ ?_
        · omega
        · exact (by omega)
        · have R := And.intro q1 q2; exact cv_
        · exact sub_
  · replace hc3 := nm_ hc3
    refine awp_exit ?_
    refine aThen_exit ?_
    refine aThen_exit ?_
    refine aBlock_hit ?_
    refine awp_seq ?_
    refine awp_region (by kernel_rfl) ?_
    iterate 4 (refine aL_S rfl rfl v_ ?_)
    refine aL_nil ?_
    refine awp_ret ?_
    refine aEnd_ret (σ' := σ) v_ sub_ ?_
    exact ⟨by rw [List.take_of_length_le (by omega)], rfl⟩
def enS (l : List Ch) (so : ByteArray → Bool) (a c : Int) : Bool := decide (a ≤ cntS l so) && decide (c ≤ clmS l so)
theorem enough_c {F : Nat} {caps : List AVal} {so : ByteArray → Bool} {l : List Ch} {t : Bool} {a c : Int} {σ : Store} (hso : SoF F caps σ so) (hn : l.length ≤ 1000000) :
    ACalls Tryz.prog 198 [.sl 2 (l.map sCh) t, fnV F caps, vInt a, vInt c] σ fun v σ' => v = vB (enS l so a c) ∧ σ = σ' := by
  refine ACalls_of Tryz.func198 rfl Tryz.ntmps198 (congrArg Array.toList Tryz.results198) (by simp only [List.length_cons, List.length_nil]; decide) ?_; simp only [envOf_cons, envOf_nil, Nat.reduceAdd]
  refine awp_seq ?_
  refine awp_region (by kernel_rfl) ?_
  (refine aL_S rfl rfl v_ ?_)
  refine aL_nil ?_
  refine awp_seq ?_
  refine awp_region (by kernel_rfl) ?_
  iterate 2 (refine aL_S rfl rfl v_ ?_)
  refine aL_X rfl rfl (AOp_use rfl rfl (.inr ⟨rfl, rfl, rfl⟩) g_ va_ (count_c hso hn) ?_); rintro _ _ ⟨rfl, rfl⟩
  iterate 5 (refine aL_S rfl rfl v_ ?_)
  refine aL_nil ?_
  refine awp_seq ?_
  refine awp_region (by kernel_rfl) ?_
  iterate 4 (refine aL_S rfl rfl v_ ?_)
  refine aL_GT rfl rfl v_ rfl vg_ ?_
  refine aL_GT rfl rfl v_ rfl vg_ ?_
  refine aL_GT rfl rfl v_ rfl vg_ ?_
  iterate 2 (refine aL_S rfl rfl v_ ?_)
  refine aL_nil ?_
  refine awp_ret ?_
  refine aEnd_ret (σ' := σ) v_ sub_ ?_
  exact ⟨rfl, rfl⟩
abbrev slS (l : List ByteArray) : AVal := .sl 1 (l.map vStr) false
theorem of11_c {o : Nat} {s : ByteArray} {l : List ByteArray} {σ : Store} (ho : σ.heap o = some (.cells [vStr s])) (hn : l.length ≤ 1000000) : ACalls Tryz.prog 263 [slS l, .ref o 0] σ fun v σ' => v = vB (hasQ l s) ∧ σ = σ' := by
  refine ACalls_of Tryz.func263 rfl Tryz.ntmps263 (congrArg Array.toList Tryz.results263) (by simp only [List.length_cons, List.length_nil]; decide) ?_; simp only [envOf_cons, envOf_nil, Nat.reduceAdd]
  refine awp_seq ?_
  have R := ho
  refine awp_region (by kernel_rfl) ?_
  (refine aL_S rfl rfl v_ ?_)
  refine aL_nil ?_
  refine awp_seq ?_
  have R := ho
  refine awp_region (by kernel_rfl) ?_
  iterate 2 (refine aL_S rfl rfl v_ ?_)
  refine aL_X rfl rfl (AOp_use rfl rfl (.inr ⟨rfl, rfl, rfl⟩) g_ va_ (containsStr_c hn) ?_); rintro _ _ ⟨rfl, rfl⟩
  (refine aL_S rfl rfl v_ ?_)
  refine aL_nil ?_
  refine awp_ret ?_
  refine aEnd_ret (σ' := σ) v_ sub_ ?_
  exact ⟨rfl, rfl⟩
theorem idxQ_c {o : Nat} {s : ByteArray} {Ls : List (List ByteArray)} {t : Bool} {σ : Store} (ho : σ.heap o = some (.cells [vStr s])) (hn : ∀ l ∈ Ls, l.length ≤ 1000000) (hL : Ls.length ≤ 1000000) :
    ACalls Tryz.prog 309 [.sl 1 (Ls.map slS) t, fnV 263 [.ref o 0]] σ fun v σ' => (∃ r, v = vInt r ∧ decide (0 ≤ r) = Ls.any (fun l => hasQ l s)) ∧ σ = σ' := by
  refine ACalls_of Tryz.func309 rfl Tryz.ntmps309 (congrArg Array.toList Tryz.results309) (by simp only [List.length_cons, List.length_nil]; decide) ?_; simp only [envOf_cons, envOf_nil, Nat.reduceAdd]
  refine awp_seq ?_
  refine awp_region (by kernel_rfl) ?_
  (refine aL_S rfl rfl v_ ?_)
  refine aL_nil ?_
  refine awp_seq ?_
  refine awp_seq ?_
  refine awp_region (by kernel_rfl) ?_
  iterate 3 (refine aL_S rfl rfl v_ ?_)
  refine aL_nil ?_
  refine awp_block ?_
  refine awp_loop_env (ι := Nat) (fun k => Ls.length - k) (fun k => k ≤ Ls.length ∧ (Ls.take k).any (fun l => hasQ l s) = false) (fun k => [(0, .sl 1 (Ls.map slS) t), (1, fnV 263 [.ref o 0]), (7, vInt Ls.length), (8, vInt k)]) (fun k => σ) 0 ?_ ?_ ?_ ?_
  · exact ⟨Nat.zero_le _, rfl⟩
  · exact cv_
  · exact sub_
  rintro k ⟨hk, ha⟩
  simp only [envL_cons, envL_nil]
  refine awp_seq ?_
  refine awp_region (by kernel_rfl) ?_
  (refine aL_S rfl rfl v_ ?_)
  refine aL_nil ?_
  refine awp_seq ?_
  refine awp_cond v_ (fun hc2 => ?_) (fun hc2 => ?_)
  · replace hc2 := nm_ hc2
    refine awp_skip ?_
    refine awp_seq ?_
    refine awp_block ?_
    refine awp_seq ?_
    refine awp_region (by kernel_rfl) ?_
    iterate 2 (refine aL_S rfl rfl v_ ?_)
    refine aL_nil ?_
    refine awp_seq ?_
    obtain ⟨x, hx⟩ := get_some (l := Ls) (k := k) (by omega)
    have R := hx
    refine awp_region (by kernel_rfl) ?_
    iterate 5 (refine aL_S rfl rfl v_ ?_)
    refine aL_X rfl rfl (AOp_use rfl rfl (.inl v_) g_ va_ (of11_c (l := x) ho (hn x (List.mem_of_getElem? hx))) ?_); rintro _ _ ⟨rfl, rfl⟩
    refine aL_nil ?_
    refine awp_cond v_ (fun hc4 => ?_) (fun hc4 => ?_)
    · replace hc4 := nm_ hc4
      refine awp_seq ?_
      refine awp_region (by kernel_rfl) ?_
      iterate 2 (refine aL_S rfl rfl v_ ?_)
      refine aL_nil ?_
      refine awp_ret ?_
      refine aEnd_ret (σ' := σ) v_ sub_ ?_
      exact ⟨⟨(k : Int), rfl, by rw [decide_eq_true (by omega)]; exact (any_yes hx hc4).symm⟩, rfl⟩
    · replace hc4 := nm_ hc4
      refine awp_skip ?_
      refine awp_region (by kernel_rfl) ?_
      iterate 2 (refine aL_S rfl rfl v_ ?_)
      refine aL_nil ?_
      refine aNext (ι := Nat) (i := k) (k + 1) ?_ ?_ ?_ ?_
      · omega
      · exact ⟨by omega, any_next hx hc4 ha⟩
      · exact cv_
      · exact sub_
  · replace hc2 := nm_ hc2
    refine awp_exit ?_
    refine aThen_exit ?_
    refine aThen_exit ?_
    refine aBlock_hit ?_
    refine awp_seq ?_
    refine awp_region (by kernel_rfl) ?_
    (refine aL_S rfl rfl v_ ?_)
    refine aL_nil ?_
    refine awp_ret ?_
    refine aEnd_ret (σ' := σ) v_ sub_ ?_
    exact ⟨⟨-1, rfl, (any_end (by omega) ha).symm⟩, rfl⟩
theorem contQ_c {o : Nat} {s : ByteArray} {Ls : List (List ByteArray)} {t : Bool} {σ : Store} (ho : σ.heap o = some (.cells [vStr s])) (hn : ∀ l ∈ Ls, l.length ≤ 1000000) (hL : Ls.length ≤ 1000000) :
    ACalls Tryz.prog 262 [.sl 1 (Ls.map slS) t, fnV 263 [.ref o 0]] σ fun v σ' => v = vB (Ls.any fun l => hasQ l s) ∧ σ = σ' := by
  refine ACalls_of Tryz.func262 rfl Tryz.ntmps262 (congrArg Array.toList Tryz.results262) (by simp only [List.length_cons, List.length_nil]; decide) ?_; simp only [envOf_cons, envOf_nil, Nat.reduceAdd]
  refine awp_seq ?_
  refine awp_region (by kernel_rfl) ?_
  (refine aL_S rfl rfl v_ ?_)
  refine aL_nil ?_
  refine awp_seq ?_
  refine awp_region (by kernel_rfl) ?_
  iterate 2 (refine aL_S rfl rfl v_ ?_)
  refine aL_X rfl rfl (AOp_use rfl rfl (.inr ⟨rfl, rfl, rfl⟩) g_ va_ (idxQ_c ho hn hL) ?_); rintro _ _ ⟨⟨r, rfl, hr⟩, rfl⟩
  iterate 2 (refine aL_S rfl rfl v_ ?_)
  refine aL_nil ?_
  refine awp_ret ?_
  refine aEnd_ret (σ' := σ) v_ sub_ ?_
  exact ⟨by rw [← hr], rfl⟩
theorem of1_c {o : Nat} {s : ByteArray} {Ls : List (List ByteArray)} {t : Bool} {σ : Store} (ho : σ.heap o = some (.cells [.sl 1 (Ls.map slS) t])) (hn : ∀ l ∈ Ls, l.length ≤ 1000000) (hL : Ls.length ≤ 1000000) :
    ACalls Tryz.prog 261 [vStr s, .ref o 0] σ fun v σ' => v = vB (Ls.any fun l => hasQ l s) ∧ σ = σ' := by
  refine ACalls_of Tryz.func261 rfl Tryz.ntmps261 (congrArg Array.toList Tryz.results261) (by simp only [List.length_cons, List.length_nil]; decide) ?_; simp only [envOf_cons, envOf_nil, Nat.reduceAdd]
  refine awp_seq ?_
  refine awp_region (by kernel_rfl) ?_
  refine aL_box rfl rfl rfl v_ rfl g_ fun o2 ho2 => ?_
  repeat (rw [none_set_iff] at ho2; obtain ⟨_, ho2⟩ := ho2)
  (refine aL_S rfl rfl v_ ?_)
  refine aL_nil ?_
  have n2 := ne_of_heap ho ho2
  refine awp_seq ?_
  have R := ho
  refine awp_region (by kernel_rfl) ?_
  iterate 2 (refine aL_S rfl rfl v_ ?_)
  refine aL_X rfl rfl (AOp_use rfl rfl (.inr ⟨rfl, rfl, rfl⟩) g_ va_ (contQ_c (Store.set_get ..) hn hL) ?_); rintro _ _ ⟨rfl, rfl⟩
  (refine aL_S rfl rfl v_ ?_)
  refine aL_nil ?_
  refine awp_ret ?_
  refine aEnd_ret (σ' := σ) v_ sub_ ?_
  exact ⟨rfl, rfl⟩
def anyQ (Ls : List (List ByteArray)) (s : ByteArray) : Bool := Ls.any fun l => hasQ l s
theorem qOf_c {Ls : List (List ByteArray)} {t : Bool} {σ : Store} : ACalls Tryz.prog 196 [.sl 1 (Ls.map slS) t] σ fun v σ' => ∃ o, σ.heap o = none ∧ v = fnV 261 [.ref o 0] ∧ σ' = σ.set o (.cells [.sl 1 (Ls.map slS) t]) := by
  refine ACalls_of Tryz.func196 rfl Tryz.ntmps196 (congrArg Array.toList Tryz.results196) (by simp only [List.length_cons, List.length_nil]; decide) ?_; simp only [envOf_cons, envOf_nil, Nat.reduceAdd]
  refine awp_seq ?_
  refine awp_region (by kernel_rfl) ?_
  refine aL_box rfl rfl rfl v_ rfl g_ fun o1 ho1 => ?_
  repeat (rw [none_set_iff] at ho1; obtain ⟨_, ho1⟩ := ho1)
  (refine aL_S rfl rfl v_ ?_)
  refine aL_nil ?_
  refine awp_seq ?_
  refine awp_region (by kernel_rfl) ?_
  iterate 2 (refine aL_S rfl rfl v_ ?_)
  refine aL_nil ?_
  refine awp_ret ?_
  refine aEnd_ret v_ (Store.Wk.refl _) ?_
  exact ⟨o1, ho1, rfl, rfl⟩
theorem of_so {o : Nat} {Ls : List (List ByteArray)} {t : Bool} {σ : Store} (ho : σ.heap o = some (.cells [.sl 1 (Ls.map slS) t])) (hn : ∀ l ∈ Ls, l.length ≤ 1000000) (hL : Ls.length ≤ 1000000) : SoF 261 [.ref o 0] σ (anyQ Ls) :=
  ⟨by kernel_rfl, fun τ ht s => of1_c (ht o _ ho) hn hL⟩
theorem qCount_c {l : List Ch} {ns : List ByteArray} {t : Bool} {σ : Store} (hn : l.length ≤ 1000000) (h2 : ns.length ≤ 1000000) : ACalls Tryz.prog 197 [.sl 2 (l.map sCh) t, slS ns] σ fun v σ' => v = .tup [vInt (cntS l (hasQ ns)), vInt (clmS l (hasQ ns))] ∧ σ = σ' := by
  have e : anyQ [ns] = hasQ ns := by funext s; simp [anyQ]
  rw [← e]
  refine ACalls_of Tryz.func197 rfl Tryz.ntmps197 (congrArg Array.toList Tryz.results197) (by simp only [List.length_cons, List.length_nil]; decide) ?_; simp only [envOf_cons, envOf_nil, Nat.reduceAdd]
  refine awp_seq ?_
  refine awp_region (by kernel_rfl) ?_
  iterate 2 (refine aL_S rfl rfl v_ ?_)
  refine aL_nil ?_
  refine awp_seq ?_
  refine awp_region (by kernel_rfl) ?_
  iterate 2 (refine aL_S rfl rfl v_ ?_)
  refine aL_buildSlice rfl rfl rfl g_ g_ rfl rfl h_ c2_ (by decide) ?_
  refine aL_X rfl rfl (AOp_use rfl rfl (.inr ⟨rfl, rfl, rfl⟩) g_ va_ (qOf_c (Ls := [ns]) (t := true)) ?_); rintro _ τ0 ⟨o, ho, rfl, rfl⟩
  refine aL_X rfl rfl (AOp_use rfl rfl (.inr ⟨rfl, rfl, rfl⟩) g_ va_ (count_c (of_so (Store.set_get ..) (fun l hl => by rw [List.mem_singleton.1 hl]; exact h2) (by simp)) hn) ?_); rintro _ _ ⟨rfl, rfl⟩
  iterate 4 (refine aL_S rfl rfl v_ ?_)
  refine aL_nil ?_
  refine awp_ret ?_
  refine aEnd_ret (σ' := σ) v_ sub_ ?_
  exact ⟨rfl, rfl⟩
theorem poss1_c {o1 o2 F1 F2 : Nat} {c1 c2 : List AVal} {so an : ByteArray → Bool} {s : ByteArray} {σ : Store} (h1 : σ.heap o1 = some (.cells [fnV F1 c1])) (h2 : σ.heap o2 = some (.cells [fnV F2 c2])) (hs : SoF F1 c1 σ so) (ha : SoF F2 c2 σ an) :
    ACalls Tryz.prog 265 [vStr s, .ref o1 0, .ref o2 0] σ fun v σ' => v = vB (so s || !an s) ∧ σ = σ' := by
  have hF1 := hs.1; have hF2 := ha.1
  refine ACalls_of Tryz.func265 rfl Tryz.ntmps265 (congrArg Array.toList Tryz.results265) (by simp only [List.length_cons, List.length_nil]; decide) ?_; simp only [envOf_cons, envOf_nil, Nat.reduceAdd]
  refine awp_seq ?_
  have R := And.intro h1 h2
  refine awp_region (by kernel_rfl) ?_
  (refine aL_S rfl rfl v_ ?_)
  refine aL_nil ?_
  refine awp_seq ?_
  have R := And.intro h1 h2
  refine awp_region (by kernel_rfl) ?_
  iterate 2 (refine aL_S rfl rfl v_ ?_)
  refine aL_X rfl rfl (AOp_use rfl rfl (.inl v_) g_ va_ (hs.at_ (fun _ _ h => h) s) ?_); rintro _ _ ⟨rfl, rfl⟩
  (refine aL_S rfl rfl v_ ?_)
  refine aL_GF rfl rfl v_ rfl vg_ ?_
  refine aL_GF rfl rfl v_ rfl vg_ ?_
  refine aL_GFX rfl rfl v_ rfl (fun hb => AOp_useV (by rfl) (by rfl) (.inl vh_) g_ cg_ (ha.at_ (fun _ _ h => h) s)) ?_
  refine aL_GF rfl rfl v_ rfl vg_ ?_
  iterate 2 (refine aL_S rfl rfl v_ ?_)
  refine aL_nil ?_
  refine awp_ret ?_
  refine aEnd_ret (σ' := σ) v_ sub_ ?_
  exact ⟨rfl, rfl⟩
theorem poss_so {o1 o2 F1 F2 : Nat} {c1 c2 : List AVal} {so an : ByteArray → Bool} {σ : Store} (h1 : σ.heap o1 = some (.cells [fnV F1 c1])) (h2 : σ.heap o2 = some (.cells [fnV F2 c2])) (hs : SoF F1 c1 σ so) (ha : SoF F2 c2 σ an) :
    SoF 265 [.ref o1 0, .ref o2 0] σ (fun s => so s || !an s) :=
  ⟨by kernel_rfl, fun τ ht s => poss1_c (ht _ _ h1) (ht _ _ h2) (hs.mono ht) (ha.mono ht)⟩
theorem possible_c {F1 F2 : Nat} {c1 c2 : List AVal} {so an : ByteArray → Bool} {l : List Ch} {t : Bool} {a c : Int} {σ : Store} (hs : SoF F1 c1 σ so) (ha : SoF F2 c2 σ an) (hn : l.length ≤ 1000000) :
    ACalls Tryz.prog 199 [.sl 2 (l.map sCh) t, fnV F1 c1, fnV F2 c2, vInt a, vInt c] σ fun v σ' => v = vB (enS l (fun s => so s || !an s) a c) ∧ σ = σ' := by
  refine ACalls_of Tryz.func199 rfl Tryz.ntmps199 (congrArg Array.toList Tryz.results199) (by simp only [List.length_cons, List.length_nil]; decide) ?_; simp only [envOf_cons, envOf_nil, Nat.reduceAdd]
  refine awp_seq ?_
  refine awp_region (by kernel_rfl) ?_
  refine aL_box rfl rfl rfl v_ rfl g_ fun o6 ho6 => ?_
  repeat (rw [none_set_iff] at ho6; obtain ⟨_, ho6⟩ := ho6)
  refine aL_box rfl rfl rfl v_ rfl g_ fun o7 ho7 => ?_
  repeat (rw [none_set_iff] at ho7; obtain ⟨_, ho7⟩ := ho7)
  (refine aL_S rfl rfl v_ ?_)
  refine aL_nil ?_
  have hk7 : ∀ i y, σ.heap i = some y → ((σ.set o6 (.cells [fnV F1 c1])).set o7 (.cells [fnV F2 c2])).heap i = some y := fun i y hy => by
    rw [Store.set_ne _ _ (fun hh => by rw [hh, ho7] at hy; cases hy), Store.set_ne _ _ (fun hh => by rw [hh, ho6] at hy; cases hy)]; exact hy
  have n67 : o6 ≠ o7 := by first | assumption | exact Ne.symm (by assumption)
  have g6 : ((σ.set o6 (.cells [fnV F1 c1])).set o7 (.cells [fnV F2 c2])).heap o6 = some (.cells [fnV F1 c1]) := by rw [Store.set_ne _ _ n67]; exact Store.set_get ..
  refine awp_seq ?_
  refine awp_region (by kernel_rfl) ?_
  iterate 4 (refine aL_S rfl rfl v_ ?_)
  refine aL_X rfl rfl (AOp_use rfl rfl (.inr ⟨rfl, rfl, rfl⟩) g_ va_ (enough_c (poss_so g6 (Store.set_get ..) (hs.mono hk7) (ha.mono hk7)) hn) ?_); rintro _ _ ⟨rfl, rfl⟩
  (refine aL_S rfl rfl v_ ?_)
  refine aL_nil ?_
  refine awp_ret ?_
  refine aEnd_ret (σ' := σ) v_ sub_ ?_
  exact ⟨rfl, rfl⟩
structure Prp where
  n : Int
  r : Int
  w : Int
  pr : Int
  pw : Int
  sev : Bool
  mis : Bool
  bas : Bool
abbrev cPrp (p : Prp) : List AVal := [vInt p.n, vInt p.r, vInt p.w, vInt p.pr, vInt p.pw, vB p.sev, vB p.mis, vB p.bas]
def whoS (p : Prp) (f m : List ByteArray) (s : ByteArray) : Bool := if p.mis then hasQ f s || hasQ m s else hasQ f s
def readQ (p : Prp) (l : List Ch) (f m n : List ByteArray) : Int :=
  if enS l (whoS p f m) p.r p.pr = true then (if 0 < cntS l (hasQ f) then 1 else 3)
  else if p.bas = true ∧ cntS l (hasQ f) = 0 ∧ l.length / 2 < cntS l (hasQ m) then 3
  else if enS l (fun s => whoS p f m s || !anyQ [f, m, n] s) p.r p.pr = true then 0 else 2
set_option maxHeartbeats 4000000 in
theorem qRead_c {p : Prp} {l : List Ch} {f m n : List ByteArray} {t : Bool} {σ : Store} (hl : l.length ≤ 1000000) (hf : f.length ≤ 1000000) (hm : m.length ≤ 1000000) (hn : n.length ≤ 1000000) :
    ACalls Tryz.prog 119 [.agg (cPrp p), .sl 2 (l.map sCh) t, slS f, slS m, slS n] σ fun v σ' => v = vInt (readQ p l f m n) ∧ σ = σ' := by
  have hq : IntKind.i64.wrap ((l.length : Int).tdiv 2) = ((l.length / 2 : Nat) : Int) := by
    rw [show ((l.length : Int).tdiv 2) = ((l.length / 2 : Nat) : Int) from rfl]
    exact wrap_i64 _ (by omega) (by omega)
  have m3 : ∀ x ∈ [f, m, n], x.length ≤ 1000000 := fun x hx => by
    simp only [List.mem_cons, List.not_mem_nil, or_false] at hx
    rcases hx with rfl | rfl | rfl <;> assumption
  have m2 : ∀ x ∈ [f, m], x.length ≤ 1000000 := fun x hx => m3 x (by simp only [List.mem_cons, List.not_mem_nil, or_false] at hx ⊢; rcases hx with h | h <;> simp [h])
  have m1 : ∀ x ∈ [f], x.length ≤ 1000000 := fun x hx => by rw [List.mem_singleton.1 hx]; exact hf
  refine ACalls_of Tryz.func119 rfl Tryz.ntmps119 (congrArg Array.toList Tryz.results119) (by simp only [List.length_cons, List.length_nil]; decide) ?_; simp only [envOf_cons, envOf_nil, Nat.reduceAdd]
  refine awp_seq ?_
  refine awp_region (by kernel_rfl) ?_
  refine aL_box rfl rfl rfl v_ rfl g_ fun o5 ho5 => ?_
  repeat (rw [none_set_iff] at ho5; obtain ⟨_, ho5⟩ := ho5)
  (refine aL_S rfl rfl v_ ?_)
  refine aL_nil ?_
  have h5 : (σ.set o5 (.cells (cPrp p))).heap o5 = some (.cells (cPrp p)) := Store.set_get ..
  refine awp_seq ?_
  refine awp_region (by kernel_rfl) ?_
  (refine aL_S rfl rfl v_ ?_)
  refine aL_buildSlice rfl rfl rfl g_ g_ rfl rfl h_ c2_ (by decide) ?_
  refine aL_X rfl rfl (AOp_use rfl rfl (.inr ⟨rfl, rfl, rfl⟩) g_ va_ (qOf_c (Ls := [f]) (t := true)) ?_); rintro _ τ0 ⟨oa, hoa, rfl, rfl⟩
  (refine aL_S rfl rfl v_ ?_)
  refine aL_nil ?_
  skip
  have n5 := ne_of_heap h5 hoa
  refine awp_gen fun S1 hS => ?_
  have g5 : S1.heap o5 = some (.cells (cPrp p)) := by rw [hS, Store.set_ne _ _ n5]; exact h5
  have ga : S1.heap oa = some (.cells [.sl 1 ([f].map slS) true]) := by rw [hS]; exact Store.set_get ..
  have hs1 : SubX [] σ S1 := by
    rw [hS]
    exact subx_new (by rwa [Store.set_ne _ _ (Ne.symm n5)] at hoa) (subx_new ho5 subx_refl)
  have w1 : SoF 261 [.ref oa 0] S1 (anyQ [f]) := of_so ga m1 (by simp)
  clear hS
  refine awp_seq_mid (ι := Store × Nat) (fun ⟨S, ow⟩ => S.heap o5 = some (.cells (cPrp p)) ∧ SubX [] σ S ∧ SoF 261 [.ref ow 0] S (whoS p f m)) (fun ⟨S, ow⟩ => [(1, .sl 2 (l.map sCh) t), (2, slS f), (3, slS m), (4, slS n), (5, .ref o5 0), (11, fnV 261 [.ref ow 0])]) (fun ⟨S, ow⟩ => S) ?_ ?_
  · refine awp_seq ?_
    have R := g5
    refine awp_region (by kernel_rfl) ?_
    iterate 2 (refine aL_S rfl rfl v_ ?_)
    refine aL_nil ?_
    refine awp_cond v_ (fun hc2 => ?_) (fun hc2 => ?_)
    · replace hc2 := nm_ hc2
      refine awp_region (by kernel_rfl) ?_
      iterate 2 (refine aL_S rfl rfl v_ ?_)
      refine aL_buildSlice rfl rfl rfl g_ g_ rfl rfl h_ c2_ (by decide) ?_
      refine aL_X rfl rfl (AOp_use rfl rfl (.inr ⟨rfl, rfl, rfl⟩) g_ va_ (qOf_c (Ls := [f, m]) (t := true)) ?_); rintro _ τ1 ⟨ob, hob, rfl, rfl⟩
      (refine aL_S rfl rfl v_ ?_)
      refine aL_nil ?_
      refine ⟨(S1.set ob (.cells [.sl 1 ([f, m].map slS) true]), ob), ?_, ?_, ?_⟩
      · exact ⟨by rw [Store.set_ne _ _ (ne_of_heap g5 hob)]; exact g5, subx_new (SubX.noObj hs1 hob (by simp)) hs1, by rw [show whoS p f m = anyQ [f, m] from by funext s; simp [whoS, hc2, anyQ]]; exact of_so (Store.set_get ..) m2 (by simp)⟩
      · exact cv_
      · exact Store.Wk.refl _
    · replace hc2 := nm_ hc2
      refine awp_skip ?_
      refine ⟨(S1, oa), ?_, ?_, ?_⟩
      · exact ⟨g5, hs1, by rw [show whoS p f m = anyQ [f] from by funext s; simp [whoS, hc2, anyQ]]; exact w1⟩
      · exact cv_
      · exact Store.Wk.refl _
  · rintro ⟨S, ow⟩ ⟨g5, hs, hw⟩
    simp only [envL_cons, envL_nil]
    refine awp_seq ?_
    refine awp_region (by kernel_rfl) ?_
    iterate 2 (refine aL_S rfl rfl v_ ?_)
    refine aL_X rfl rfl (AOp_use rfl rfl (.inr ⟨rfl, rfl, rfl⟩) g_ va_ (qCount_c hl hf) ?_); rintro _ _ ⟨rfl, rfl⟩
    iterate 5 (refine aL_S rfl rfl v_ ?_)
    refine aL_nil ?_
    refine awp_seq ?_
    refine awp_region (by kernel_rfl) ?_
    iterate 2 (refine aL_S rfl rfl v_ ?_)
    refine aL_X rfl rfl (AOp_use rfl rfl (.inr ⟨rfl, rfl, rfl⟩) g_ va_ (qCount_c hl hm) ?_); rintro _ _ ⟨rfl, rfl⟩
    iterate 5 (refine aL_S rfl rfl v_ ?_)
    refine aL_nil ?_
    refine awp_seq ?_
    refine awp_block ?_
    refine awp_seq ?_
    have R := g5
    refine awp_region (by kernel_rfl) ?_
    iterate 6 (refine aL_S rfl rfl v_ ?_)
    refine aL_X rfl rfl (AOp_use rfl rfl (.inr ⟨rfl, rfl, rfl⟩) g_ va_ (enough_c hw hl) ?_); rintro _ _ ⟨rfl, rfl⟩
    (refine aL_S rfl rfl v_ ?_)
    refine aL_GT rfl rfl v_ rfl vg_ ?_
    refine aL_GT rfl rfl v_ rfl vg_ ?_
    iterate 2 (refine aL_S rfl rfl v_ ?_)
    refine aL_nil ?_
    refine awp_cond v_ (fun hc6 => ?_) (fun hc6 => ?_)
    · replace hc6 := nm_ hc6
      refine awp_seq ?_
      refine awp_region (by kernel_rfl) ?_
      (refine aL_S rfl rfl v_ ?_)
      refine aL_nil ?_
      refine awp_ret ?_
      exact aEnd_ret va_ (subx_start hs) ⟨by rw [readQ, if_pos hc6.1, if_pos (by omega)], rfl⟩
    · replace hc6 := nm_ hc6
      refine awp_seq ?_
      refine awp_seq ?_
      have R := g5
      refine awp_region (by kernel_rfl) ?_
      iterate 6 (refine aL_S rfl rfl v_ ?_)
      refine aL_X rfl rfl (AOp_use rfl rfl (.inr ⟨rfl, rfl, rfl⟩) g_ va_ (enough_c hw hl) ?_); rintro _ _ ⟨rfl, rfl⟩
      (refine aL_S rfl rfl v_ ?_)
      refine aL_nil ?_
      refine awp_cond v_ (fun hc8 => ?_) (fun hc8 => ?_)
      · replace hc8 := nm_ hc8
        refine awp_skip ?_
        refine awp_cond v_ (fun hc8 => ?_) (fun hc8 => ?_)
        · replace hc8 := nm_ hc8
          refine awp_seq ?_
          refine awp_region (by kernel_rfl) ?_
          (refine aL_S rfl rfl v_ ?_)
          refine aL_nil ?_
          refine awp_ret ?_
          exact aEnd_ret va_ (subx_start hs) ⟨by rw [readQ, if_pos hc8, if_neg (by rcases hc6 with h | h; rw [hc8] at h; cases h; omega)], rfl⟩
        · replace hc8 := nm_ hc8
          simp_all
      · replace hc8 := nm_ hc8
        have R := g5
        refine awp_region (by kernel_rfl) ?_
        iterate 3 (refine aL_S rfl rfl v_ ?_)
        refine aL_GT rfl rfl v_ rfl vg_ ?_
        refine aL_GT rfl rfl v_ rfl vg_ ?_
        iterate 2 (refine aL_S rfl rfl v_ ?_)
        refine aL_GT rfl rfl v_ rfl vg_ ?_
        refine aL_GT rfl rfl v_ rfl vg_ ?_
        refine aL_GT rfl rfl v_ rfl vg_ ?_
        refine aL_GT rfl rfl v_ rfl vg_ ?_
        refine aL_GT rfl rfl v_ rfl vg_ ?_
        iterate 2 (refine aL_S rfl rfl v_ ?_)
        refine aL_nil ?_
        refine awp_cond v_ (fun hc9 => ?_) (fun hc9 => ?_)
        · replace hc9 := nm_ hc9
          refine awp_seq ?_
          refine awp_region (by kernel_rfl) ?_
          (refine aL_S rfl rfl v_ ?_)
          refine aL_nil ?_
          refine awp_ret ?_
          exact aEnd_ret va_ (subx_start hs) ⟨by rw [readQ, if_neg (by simp [hc8]), if_pos ⟨hc9.1.1, by omega, by omega⟩], rfl⟩
        · replace hc9 := nm_ hc9
          refine awp_seq ?_
          have R := g5
          refine awp_draw (.op 0 0 (.op 1 0 (.op 2 0 (.op 3 0 (.op 4 0 (.op 7 0 (.op 8 0 (.op 9 0 (.op 10 0 (.op 5 1 (.op 6 1 (.op 11 1 (.op 12 0 (.op 13 0 .nil)))))))))))))) Tryz.mixed (by kernel_rfl) ?_
          iterate 9 (refine dR_S o_ (by rfl) (by rfl) v_ ?_)
          refine dR_X o_ (by rfl) (by rfl) (AOp_buildSlice' (by rfl) g_ g_ (by rfl) (by rfl) h_ c2_ (by decide) ⟨sub_, ?_⟩)
          refine dR_X o_ (by rfl) (by rfl) (AOp_use (by rfl) (by rfl) (.inr ⟨by rfl, by rfl, by rfl⟩) g_ va_ (qOf_c (Ls := [f, m, n]) (t := true)) ?_); rintro _ τ2 ⟨oc, hoc, rfl, rfl⟩; refine ⟨sub_, ?_⟩
          refine dR_X o_ (by rfl) (by rfl) (AOp_use (by rfl) (by rfl) (.inr ⟨by rfl, by rfl, by rfl⟩) g_ va_ (possible_c (hw.mono (keep_new hoc)) (of_so (Store.set_get ..) m3 (by simp)) hl) ?_); rintro _ _ ⟨rfl, rfl⟩; refine ⟨sub_, ?_⟩
          iterate 2 (refine dR_S o_ (by rfl) (by rfl) v_ ?_)
          refine dR_nil ?_
          refine awp_cond v_ (fun hc11 => ?_) (fun hc11 => ?_)
          · replace hc11 := nm_ hc11
            refine awp_seq ?_
            refine awp_region (by kernel_rfl) ?_
            (refine aL_S rfl rfl v_ ?_)
            refine aL_nil ?_
            refine awp_ret ?_
            exact aEnd_ret va_ (subx_start (subx_new (SubX.noObj hs hoc (by simp)) hs)) ⟨by rw [readQ, if_neg (by simp [hc8]), if_neg (by rintro ⟨q1, q2, q3⟩; rcases hc9 with (h | h) | h; rw [q1] at h; cases h; omega; omega), if_neg (by simp [hc11])], rfl⟩
          · replace hc11 := nm_ hc11
            refine awp_skip ?_
            refine awp_seq ?_
            refine awp_region (by kernel_rfl) ?_
            (refine aL_S rfl rfl v_ ?_)
            refine aL_nil ?_
            refine awp_ret ?_
            exact aEnd_ret va_ (subx_start (subx_new (SubX.noObj hs hoc (by simp)) hs)) ⟨by rw [readQ, if_neg (by simp [hc8]), if_neg (by rintro ⟨q1, q2, q3⟩; rcases hc9 with (h | h) | h; rw [q1] at h; cases h; omega; omega), if_pos hc11], rfl⟩
end Go.Proofs.YtbcgkbdacijoiaaGreat
end

section
set_option linter.all false
set_option maxRecDepth 100000
namespace Go.Proofs.YtbcgkbdacijoiaaGreat
open Go.Ab
theorem rIn34_c {l : List ByteArray} {s : ByteArray} {t : Bool} {σ : Store} (hn : l.length ≤ 1000000) : ACalls Tryz.prog 202 [.sl 1 (l.map vStr) t, vStr s] σ fun v σ' => v = vB (hasQ l s) ∧ σ = σ' := by
  refine ACalls_of Tryz.func202 rfl Tryz.ntmps202 (congrArg Array.toList Tryz.results202) (by simp only [List.length_cons, List.length_nil]; decide) ?_; simp only [envOf_cons, envOf_nil, Nat.reduceAdd]
  refine awp_seq ?_
  refine awp_region (by kernel_rfl) ?_
  (refine aL_S rfl rfl v_ ?_)
  refine aL_nil ?_
  refine awp_seq ?_
  refine awp_seq ?_
  refine awp_region (by kernel_rfl) ?_
  (refine aL_S rfl rfl v_ ?_)
  refine aL_nil ?_
  refine awp_block ?_
  refine awp_loop_env (ι := Nat) (fun k => l.length - k) (fun k => k ≤ l.length ∧ (l.take k).any (fun y => decide (y = s)) = false) (fun k => [(0, .sl 1 (l.map vStr) t), (1, vStr s), (5, vInt k)]) (fun k => σ) 0 ?_ ?_ ?_ ?_
  · exact ⟨Nat.zero_le _, rfl⟩
  · exact cv_
  · exact sub_
  rintro k ⟨hk, ha⟩
  simp only [envL_cons, envL_nil]
  refine awp_seq ?_
  refine awp_seq ?_
  refine awp_region (by kernel_rfl) ?_
  iterate 4 (refine aL_S rfl rfl v_ ?_)
  refine aL_nil ?_
  refine awp_cond v_ (fun hc2 => ?_) (fun hc2 => ?_)
  · replace hc2 := nm_ hc2
    refine awp_skip ?_
    refine awp_seq ?_
    refine awp_block ?_
    refine awp_seq ?_
    obtain ⟨y, hy⟩ := get_some (l := l) (k := k) (by omega)
    have R := hy
    refine awp_region (by kernel_rfl) ?_
    iterate 6 (refine aL_S rfl rfl v_ ?_)
    refine aL_nil ?_
    refine awp_cond v_ (fun hc4 => ?_) (fun hc4 => ?_)
    · replace hc4 := nm_ hc4
      refine awp_seq ?_
      refine awp_region (by kernel_rfl) ?_
      (refine aL_S rfl rfl v_ ?_)
      refine aL_nil ?_
      refine awp_ret ?_
      refine aEnd_ret (σ' := σ) v_ sub_ ?_
      exact ⟨by rw [hasQ, any_yes hy (decide_eq_true hc4)], rfl⟩
    · replace hc4 := nm_ hc4
      refine awp_skip ?_
      refine awp_region (by kernel_rfl) ?_
      iterate 3 (refine aL_S rfl rfl v_ ?_)
      refine aL_nil ?_
      refine aNext (ι := Nat) (i := k) (k + 1) ?_ ?_ ?_ ?_
      · omega
      · exact ⟨by omega, any_next hy (decide_eq_false hc4) ha⟩
      · exact cv_
      · exact sub_
  · replace hc2 := nm_ hc2
    refine awp_exit ?_
    refine aThen_exit ?_
    refine aThen_exit ?_
    refine aBlock_hit ?_
    refine awp_seq ?_
    refine awp_region (by kernel_rfl) ?_
    (refine aL_S rfl rfl v_ ?_)
    refine aL_nil ?_
    refine awp_ret ?_
    refine aEnd_ret (σ' := σ) v_ sub_ ?_
    exact ⟨by rw [hasQ, any_end (by omega) ha], rfl⟩
theorem rCount_c {l : List Ch} {ns : List ByteArray} {t u : Bool} {σ : Store} (hn : l.length ≤ 1000000) (h2 : ns.length ≤ 1000000) : ACalls Tryz.prog 121 [.sl 2 (l.map sCh) t, .sl 1 (ns.map vStr) u] σ fun v σ' => v = .tup [vInt (cntS l (hasQ ns)), vInt (clmS l (hasQ ns))] ∧ σ = σ' := by
  refine ACalls_of Tryz.func121 rfl Tryz.ntmps121 (congrArg Array.toList Tryz.results121) (by simp only [List.length_cons, List.length_nil]; decide) ?_; simp only [envOf_cons, envOf_nil, Nat.reduceAdd]
  refine awp_seq ?_
  refine awp_region (by kernel_rfl) ?_
  iterate 2 (refine aL_S rfl rfl v_ ?_)
  refine aL_nil ?_
  refine awp_seq ?_
  refine awp_region (by kernel_rfl) ?_
  iterate 2 (refine aL_S rfl rfl v_ ?_)
  refine aL_nil ?_
  refine awp_seq ?_
  refine awp_seq ?_
  refine awp_region (by kernel_rfl) ?_
  (refine aL_S rfl rfl v_ ?_)
  refine aL_nil ?_
  refine awp_block ?_
  refine awp_loop_env (ι := Nat) (fun k => l.length - k) (fun k => k ≤ l.length) (fun k => [(0, .sl 2 (l.map sCh) t), (1, .sl 1 (ns.map vStr) u), (6, vInt (cntS (l.take k) (hasQ ns))), (7, vInt (clmS (l.take k) (hasQ ns))), (8, vInt k)]) (fun k => σ) 0 ?_ ?_ ?_ ?_
  · exact Nat.zero_le _
  · exact cv_
  · exact sub_
  rintro k hk
  simp only [envL_cons, envL_nil]
  refine awp_seq ?_
  refine awp_seq ?_
  refine awp_region (by kernel_rfl) ?_
  iterate 4 (refine aL_S rfl rfl v_ ?_)
  refine aL_nil ?_
  refine awp_cond v_ (fun hc3 => ?_) (fun hc3 => ?_)
  · replace hc3 := nm_ hc3
    refine awp_skip ?_
    refine awp_seq ?_
    refine awp_block ?_
    refine awp_seq ?_
    obtain ⟨x, hx⟩ := get_some (l := l) (k := k) (by omega)
    have l1 := cntS_le (l.take k) (hasQ ns); have l2 := clmS_le (l.take k) (hasQ ns)
    rw [List.length_take] at l1 l2
    have R := hx
    refine awp_region (by kernel_rfl) ?_
    iterate 6 (refine aL_S rfl rfl v_ ?_)
    refine aL_X rfl rfl (AOp_use rfl rfl (.inr ⟨rfl, rfl, rfl⟩) g_ va_ (rIn34_c (s := x.node) h2) ?_); rintro _ _ ⟨rfl, rfl⟩
    refine aL_nil ?_
    refine awp_cond v_ (fun hc5 => ?_) (fun hc5 => ?_)
    · replace hc5 := nm_ hc5
      have q1 : ((cntS (l.take (k + 1)) (hasQ ns) : Nat) : Int) = (cntS (l.take k) (hasQ ns) : Int) + 1 := by rw [cntS_yes hx hc5]; rfl
      refine awp_seq ?_
      refine awp_region (by kernel_rfl) ?_
      iterate 3 (refine aL_S rfl rfl v_ ?_)
      refine aL_nil ?_
      refine awp_seq ?_
      have R := hx
      refine awp_region (by kernel_rfl) ?_
      iterate 5 (refine aL_S rfl rfl v_ ?_)
      refine aL_nil ?_
      refine awp_cond v_ (fun hc7 => ?_) (fun hc7 => ?_)
      · replace hc7 := nm_ hc7
        have q2 : ((clmS (l.take (k + 1)) (hasQ ns) : Nat) : Int) = (clmS (l.take k) (hasQ ns) : Int) + 1 := by rw [clmS_yes hx hc5 hc7]; rfl
        refine awp_region (by kernel_rfl) ?_
        iterate 3 (refine aL_S rfl rfl v_ ?_)
        refine aL_nil ?_
        refine awp_region (by kernel_rfl) ?_
        iterate 3 (refine aL_S rfl rfl v_ ?_)
        refine aL_nil ?_
        refine aNext (ι := Nat) (i := k) (k + 1) ?_ ?_ ?_ ?_
        · omega
        · exact (by omega)
        · have R := And.intro q1 q2; exact cv_
        · exact sub_
      · replace hc7 := nm_ hc7
        have q2 := clmS_no (so := hasQ ns) hx (.inr hc7)
        refine awp_skip ?_
        refine awp_region (by kernel_rfl) ?_
        iterate 3 (refine aL_S rfl rfl v_ ?_)
        refine aL_nil ?_
        refine aNext (ι := Nat) (i := k) (k + 1) ?_ ?_ ?_ ?_
        · omega
        · exact (by omega)
        · have R := And.intro q1 q2; exact cv_
        · exact sub_
    · replace hc5 := nm_ hc5
      have q1 := cntS_no (so := hasQ ns) hx hc5
      have q2 := clmS_no (so := hasQ ns) hx (.inl hc5)
      refine awp_skip ?_
      refine awp_region (by kernel_rfl) ?_
      iterate 3 (refine aL_S rfl rfl v_ ?_)
      refine aL_nil ?_
      refine aNext (ι := Nat) (i := k) (k + 1) ?_ ?_ ?_ ?_
      · omega
      · exact (by omega)
      · have R := And.intro q1 q2; exact cv_
      · exact sub_
  · replace hc3 := nm_ hc3
    refine awp_exit ?_
    refine aThen_exit ?_
    refine aThen_exit ?_
    refine aBlock_hit ?_
    refine awp_seq ?_
    refine awp_region (by kernel_rfl) ?_
    iterate 4 (refine aL_S rfl rfl v_ ?_)
    refine aL_nil ?_
    refine awp_ret ?_
    refine aEnd_ret (σ' := σ) v_ sub_ ?_
    exact ⟨by rw [List.take_of_length_le (by omega)], rfl⟩
theorem rBoth34_c {a b : List ByteArray} {t u : Bool} {σ : Store} (ha : a.length ≤ 100000) (hB : b.length ≤ 100000) : ACalls Tryz.prog 200 [.sl 1 (a.map vStr) t, .sl 1 (b.map vStr) u] σ fun v σ' => v = .sl 1 ((a ++ b).map vStr) false ∧ σ = σ' := by
  refine ACalls_of Tryz.func200 rfl Tryz.ntmps200 (congrArg Array.toList Tryz.results200) (by simp only [List.length_cons, List.length_nil]; decide) ?_; simp only [envOf_cons, envOf_nil, Nat.reduceAdd]
  refine awp_seq ?_
  refine awp_region (by kernel_rfl) ?_
  (refine aL_S rfl rfl v_ ?_)
  refine aL_nil ?_
  refine awp_seq ?_
  refine awp_region (by kernel_rfl) ?_
  refine aL_nilOwn 9 1 rfl rfl rfl (by rfl) fun k5 hk5 => ?_
  refine aL_nil ?_
  refine awp_seq ?_
  refine awp_region (by kernel_rfl) ?_
  iterate 2 (refine aL_S rfl rfl v_ ?_)
  refine aL_append rfl rfl rfl g_ g_ v_ h_ v_ (oneStr _) (by simp; omega) fun k8 hk8 => ?_
  rw [Store.newTok_step hk5]
  have t8 := (newTok_none hk8).2
  (refine aL_S rfl rfl v_ ?_)
  refine aL_nil ?_
  refine awp_seq ?_
  refine awp_region (by kernel_rfl) ?_
  iterate 2 (refine aL_S rfl rfl v_ ?_)
  refine aL_append rfl rfl rfl g_ g_ v_ h_ v_ (oneStr _) (by simp; omega) fun k11 hk11 => ?_
  rw [Store.newTok_step t8]
  have t11 := (newTok_none hk11).2
  (refine aL_S rfl rfl v_ ?_)
  refine aL_nil ?_
  refine awp_seq ?_
  refine awp_region (by kernel_rfl) ?_
  iterate 2 (refine aL_S rfl rfl v_ ?_)
  refine aL_nil ?_
  refine awp_ret ?_
  rw [List.map_append]
  exact aEnd_retW (v := .sl 1 (a.map vStr ++ b.map vStr) false) (v' := .own k11 1 ([] ++ a.map vStr ++ b.map vStr)) va_ (.own1 _ _ _) sub_ ⟨rfl, rfl⟩
def openS (l : List Ch) (ns : List ByteArray) : List ByteArray := (l.filter fun x => !hasQ ns x.node).map Ch.node
theorem openS_yes {l : List Ch} {ns : List ByteArray} {k : Nat} {x : Ch} (h : l[k]? = some x) (hx : hasQ ns x.node = false) : (openS (l.take (k + 1)) ns).map vStr = (openS (l.take k) ns).map vStr ++ [vStr x.node] := by
  rw [take_snoc h, openS, List.filter_append, List.map_append, List.map_append]; simp [openS, hx]
theorem openS_no {l : List Ch} {ns : List ByteArray} {k : Nat} {x : Ch} (h : l[k]? = some x) (hx : hasQ ns x.node = true) : (openS (l.take (k + 1)) ns).map vStr = (openS (l.take k) ns).map vStr := by
  rw [take_snoc h, openS, List.filter_append, List.map_append, List.map_append]; simp [openS, hx]
theorem openS_len (l : List Ch) (ns : List ByteArray) : (openS l ns).length ≤ l.length := by rw [openS, List.length_map]; exact List.length_filter_le ..
theorem rOpen_c {l : List Ch} {ns : List ByteArray} {t u : Bool} {σ : Store} (hn : l.length ≤ 1000000) (h2 : ns.length ≤ 1000000) : ACalls Tryz.prog 201 [.sl 2 (l.map sCh) t, .sl 1 (ns.map vStr) u] σ fun v σ' => v = .sl 1 ((openS l ns).map vStr) false ∧ σ = σ' := by
  refine ACalls_of Tryz.func201 rfl Tryz.ntmps201 (congrArg Array.toList Tryz.results201) (by simp only [List.length_cons, List.length_nil]; decide) ?_; simp only [envOf_cons, envOf_nil, Nat.reduceAdd]
  refine awp_seq ?_
  refine awp_region (by kernel_rfl) ?_
  (refine aL_S rfl rfl v_ ?_)
  refine aL_nil ?_
  refine awp_seq ?_
  refine awp_region (by kernel_rfl) ?_
  refine aL_nilOwn 9 1 rfl rfl rfl (by rfl) fun k5 hk5 => ?_
  refine aL_nil ?_
  refine awp_seq ?_
  refine awp_seq ?_
  refine awp_region (by kernel_rfl) ?_
  (refine aL_S rfl rfl v_ ?_)
  refine aL_nil ?_
  refine awp_block ?_
  refine awp_loop_env (ι := Nat × Nat) (fun ⟨tk, k⟩ => l.length - k) (fun ⟨tk, k⟩ => k ≤ l.length ∧ σ.tok tk = none) (fun ⟨tk, k⟩ => [(0, .sl 2 (l.map sCh) t), (1, .sl 1 (ns.map vStr) u), (5, .own tk 1 ((openS (l.take k) ns).map vStr)), (6, vInt k)]) (fun ⟨tk, k⟩ => (σ.newTok none tk (9, 1))) (k5, 0) ?_ ?_ ?_ ?_
  · exact ⟨Nat.zero_le _, hk5⟩
  · exact cv_
  · exact Store.Wk.refl _
  rintro ⟨tk, k⟩ ⟨hk, htk⟩
  simp only [envL_cons, envL_nil]
  refine awp_seq ?_
  refine awp_seq ?_
  refine awp_region (by kernel_rfl) ?_
  iterate 4 (refine aL_S rfl rfl v_ ?_)
  refine aL_nil ?_
  refine awp_cond v_ (fun hc3 => ?_) (fun hc3 => ?_)
  · replace hc3 := nm_ hc3
    refine awp_skip ?_
    refine awp_seq ?_
    refine awp_block ?_
    refine awp_seq ?_
    obtain ⟨x, hx⟩ := get_some (l := l) (k := k) (by omega)
    have hlen : (openS (l.take k) ns).length ≤ k := Nat.le_trans (openS_len _ _) (by simp; omega)
    have R := hx
    refine awp_region (by kernel_rfl) ?_
    iterate 6 (refine aL_S rfl rfl v_ ?_)
    refine aL_X rfl rfl (AOp_use rfl rfl (.inr ⟨rfl, rfl, rfl⟩) g_ va_ (rIn34_c (s := x.node) h2) ?_); rintro _ _ ⟨rfl, rfl⟩
    (refine aL_S rfl rfl v_ ?_)
    refine aL_nil ?_
    refine awp_cond v_ (fun hc5 => ?_) (fun hc5 => ?_)
    · replace hc5 := nm_ hc5
      have hcov := openS_yes (ns := ns) hx (by simpa using hc5)
      have R := hx
      refine awp_region (by kernel_rfl) ?_
      iterate 6 (refine aL_S rfl rfl v_ ?_)
      refine aL_buildSlice rfl rfl rfl g_ g_ rfl rfl h_ c2_ (by decide) ?_
      refine aL_append rfl rfl rfl g_ g_ v_ h_ v_ c_ (by simp; omega) fun k28 hk28 => ?_
      (refine aL_S rfl rfl v_ ?_)
      refine aL_nil ?_
      refine awp_region (by kernel_rfl) ?_
      iterate 3 (refine aL_S rfl rfl v_ ?_)
      refine aL_nil ?_
      refine aNext (ι := Nat × Nat) (i := ⟨tk, k⟩) (k28, k + 1) ?_ ?_ ?_ ?_
      · show l.length - (k + 1) < l.length - k; omega
      · exact ⟨by show k + 1 ≤ l.length; omega, (newTok_none hk28).2⟩
      · have R := hcov; exact cv_
      · exact sub_
    · replace hc5 := nm_ hc5
      have hcov := openS_no (ns := ns) hx (by simpa using hc5)
      refine awp_skip ?_
      refine awp_region (by kernel_rfl) ?_
      iterate 3 (refine aL_S rfl rfl v_ ?_)
      refine aL_nil ?_
      refine aNext (ι := Nat × Nat) (i := ⟨tk, k⟩) (tk, k + 1) ?_ ?_ ?_ ?_
      · show l.length - (k + 1) < l.length - k; omega
      · exact ⟨by show k + 1 ≤ l.length; omega, htk⟩
      · have R := hcov; exact cv_
      · exact sub_
  · replace hc3 := nm_ hc3
    refine awp_exit ?_
    refine aThen_exit ?_
    refine aThen_exit ?_
    refine aBlock_hit ?_
    refine awp_seq ?_
    obtain rfl : k = l.length := by omega
    rw [List.take_length]
    refine awp_region (by kernel_rfl) ?_
    iterate 2 (refine aL_S rfl rfl v_ ?_)
    refine aL_nil ?_
    refine awp_ret ?_
    exact aEnd_retW (v := .sl 1 ((openS l ns).map vStr) false) (v' := .own tk 1 ((openS l ns).map vStr)) va_ (.own1 _ _ _) sub_ ⟨rfl, rfl⟩
theorem hasQ_app (a b : List ByteArray) (s : ByteArray) : hasQ (a ++ b) s = (hasQ a s || hasQ b s) := by simp [hasQ]
theorem hasQ_iff {l : List ByteArray} {x : ByteArray} : hasQ l x = true ↔ x ∈ l := by
  simp only [hasQ, List.any_eq_true, decide_eq_true_eq]
  exact ⟨fun ⟨y, hy, e⟩ => e ▸ hy, fun h => ⟨x, h, rfl⟩⟩
theorem hasQ_open {l : List Ch} {ns : List ByteArray} {x : Ch} (hx : x ∈ l) : hasQ (openS l ns) x.node = !hasQ ns x.node := by
  rw [Bool.eq_iff_iff, hasQ_iff]
  simp only [openS, List.mem_map, List.mem_filter]
  constructor
  · rintro ⟨y, ⟨_, hy⟩, e⟩; rw [← e]; exact hy
  · intro h; exact ⟨x, ⟨hx, h⟩, rfl⟩
theorem cntS_congr {l : List Ch} {f g : ByteArray → Bool} (h : ∀ x ∈ l, f x.node = g x.node) : cntS l f = cntS l g := by
  unfold cntS
  rw [List.filter_congr h]
theorem clmS_congr {l : List Ch} {f g : ByteArray → Bool} (h : ∀ x ∈ l, f x.node = g x.node) : clmS l f = clmS l g := by
  unfold clmS
  rw [List.filter_congr (fun x hx => by rw [h x hx])]
def whoL (p : Prp) (f m : List ByteArray) : List ByteArray := if p.mis then f ++ m else f
theorem whoL_has (p : Prp) (f m : List ByteArray) : hasQ (whoL p f m) = whoS p f m := by
  funext s
  unfold whoL whoS
  split
  · exact hasQ_app f m s
  · rfl
theorem open_has {p : Prp} {l : List Ch} {f m n : List ByteArray} : ∀ x ∈ l, hasQ (whoL p f m ++ openS l (f ++ m ++ n)) x.node = (fun s => whoS p f m s || !anyQ [f, m, n] s) x.node := fun x hx => by
  show _ = (whoS p f m x.node || !anyQ [f, m, n] x.node)
  rw [hasQ_app, whoL_has, hasQ_open hx, hasQ_app, hasQ_app]
  simp [anyQ, Bool.or_assoc]
set_option maxHeartbeats 4000000 in
theorem rRead_c {p : Prp} {l : List Ch} {f m n : List ByteArray} {t tf tm tn : Bool} {σ : Store} (hl : l.length ≤ 10000) (hf : f.length ≤ 10000) (hm : m.length ≤ 10000) (hn : n.length ≤ 10000) :
    ACalls Tryz.prog 120 [.agg (cPrp p), .sl 2 (l.map sCh) t, .sl 1 (f.map vStr) false, .sl 1 (m.map vStr) false, .sl 1 (n.map vStr) false] σ fun v σ' => v = vInt (readQ p l f m n) ∧ σ = σ' := by
  have hq : IntKind.i64.wrap ((l.length : Int).tdiv 2) = ((l.length / 2 : Nat) : Int) := by
    rw [show ((l.length : Int).tdiv 2) = ((l.length / 2 : Nat) : Int) from rfl]
    exact wrap_i64 _ (by omega) (by omega)
  have hwl : (whoL p f m).length ≤ 20000 := by
    unfold whoL; split
    · rw [List.length_append]; omega
    · omega
  have hol := openS_len l (f ++ m ++ n)
  have e1 : ∀ a c, enS l (whoS p f m) a c = (decide (a ≤ (cntS l (hasQ (whoL p f m)) : Int)) && decide (c ≤ (clmS l (hasQ (whoL p f m)) : Int))) := fun a c => by rw [whoL_has]; rfl
  have e2 : ∀ a c, enS l (fun s => whoS p f m s || !anyQ [f, m, n] s) a c = (decide (a ≤ (cntS l (hasQ (whoL p f m ++ openS l (f ++ m ++ n))) : Int)) && decide (c ≤ (clmS l (hasQ (whoL p f m ++ openS l (f ++ m ++ n))) : Int))) := fun a c => by
    rw [cntS_congr (g := fun s => whoS p f m s || !anyQ [f, m, n] s) open_has, clmS_congr (g := fun s => whoS p f m s || !anyQ [f, m, n] s) open_has]; rfl
  refine ACalls_of Tryz.func120 rfl Tryz.ntmps120 (congrArg Array.toList Tryz.results120) (by simp only [List.length_cons, List.length_nil]; decide) ?_; simp only [envOf_cons, envOf_nil, Nat.reduceAdd]
  refine awp_seq ?_
  refine awp_region (by kernel_rfl) ?_
  refine aL_box rfl rfl rfl v_ rfl g_ fun o5 ho5 => ?_
  repeat (rw [none_set_iff] at ho5; obtain ⟨_, ho5⟩ := ho5)
  (refine aL_S rfl rfl v_ ?_)
  refine aL_nil ?_
  refine awp_seq ?_
  refine awp_region (by kernel_rfl) ?_
  iterate 2 (refine aL_S rfl rfl v_ ?_)
  refine aL_nil ?_
  refine awp_seq_mid (ι := Unit) (fun _ => True) (fun _ => [(1, .sl 2 (l.map sCh) t), (2, .sl 1 (f.map vStr) false), (3, .sl 1 (m.map vStr) false), (4, .sl 1 (n.map vStr) false), (5, .ref o5 0), (11, .sl 1 ((whoL p f m).map vStr) false)]) (fun _ => (σ.set o5 (.cells (cPrp p)))) ?_ ?_
  · refine awp_seq ?_
    refine awp_region (by kernel_rfl) ?_
    iterate 2 (refine aL_S rfl rfl v_ ?_)
    refine aL_nil ?_
    refine awp_cond v_ (fun hc2 => ?_) (fun hc2 => ?_)
    · replace hc2 := nm_ hc2
      have hcov : whoL p f m = f ++ m := by simp [whoL, hc2]
      refine awp_region (by kernel_rfl) ?_
      iterate 2 (refine aL_S rfl rfl v_ ?_)
      refine aL_X rfl rfl (AOp_use rfl rfl (.inr ⟨rfl, rfl, rfl⟩) g_ va_ (rBoth34_c (by omega) (by omega)) ?_); rintro _ _ ⟨rfl, rfl⟩
      (refine aL_S rfl rfl v_ ?_)
      refine aL_nil ?_
      refine ⟨(), ?_, ?_, ?_⟩
      · trivial
      · have R := hcov; exact cv_
      · exact sub_
    · replace hc2 := nm_ hc2
      have hcov : whoL p f m = f := by simp [whoL, hc2]
      refine awp_skip ?_
      refine ⟨(), ?_, ?_, ?_⟩
      · trivial
      · have R := hcov; exact cv_
      · exact sub_
  · rintro _ _
    simp only [envL_cons, envL_nil]
    refine awp_seq ?_
    refine awp_region (by kernel_rfl) ?_
    iterate 2 (refine aL_S rfl rfl v_ ?_)
    refine aL_X rfl rfl (AOp_use rfl rfl (.inr ⟨rfl, rfl, rfl⟩) g_ va_ (rCount_c (by omega) (by omega)) ?_); rintro _ _ ⟨rfl, rfl⟩
    iterate 5 (refine aL_S rfl rfl v_ ?_)
    refine aL_nil ?_
    refine awp_seq ?_
    refine awp_region (by kernel_rfl) ?_
    iterate 2 (refine aL_S rfl rfl v_ ?_)
    refine aL_X rfl rfl (AOp_use rfl rfl (.inr ⟨rfl, rfl, rfl⟩) g_ va_ (rCount_c (by omega) (by omega)) ?_); rintro _ _ ⟨rfl, rfl⟩
    iterate 5 (refine aL_S rfl rfl v_ ?_)
    refine aL_nil ?_
    refine awp_seq ?_
    refine awp_seq ?_
    refine awp_region (by kernel_rfl) ?_
    iterate 5 (refine aL_S rfl rfl v_ ?_)
    refine aL_GT rfl rfl v_ rfl vg_ ?_
    refine aL_GT rfl rfl v_ rfl vg_ ?_
    refine aL_GT rfl rfl v_ rfl vg_ ?_
    refine aL_GT rfl rfl v_ rfl vg_ ?_
    (refine aL_S rfl rfl v_ ?_)
    refine aL_nil ?_
    refine awp_cond v_ (fun hc6 => ?_) (fun hc6 => ?_)
    · replace hc6 := nm_ hc6
      refine awp_seq ?_
      refine awp_seq ?_
      refine awp_region (by kernel_rfl) ?_
      iterate 2 (refine aL_S rfl rfl v_ ?_)
      refine aL_nil ?_
      refine awp_cond v_ (fun hc7 => ?_) (fun hc7 => ?_)
      · replace hc7 := nm_ hc7
        refine awp_seq ?_
        refine awp_region (by kernel_rfl) ?_
        (refine aL_S rfl rfl v_ ?_)
        refine aL_nil ?_
        refine awp_ret ?_
        refine aEnd_ret (σ' := σ) v_ sub_ ?_
        exact ⟨by rw [readQ, if_pos (by rw [e1, decide_eq_true hc6.1, decide_eq_true hc6.2]; rfl), if_pos (by omega)], rfl⟩
      · replace hc7 := nm_ hc7
        refine awp_skip ?_
        refine awp_seq ?_
        refine awp_region (by kernel_rfl) ?_
        (refine aL_S rfl rfl v_ ?_)
        refine aL_nil ?_
        refine awp_ret ?_
        refine aEnd_ret (σ' := σ) v_ sub_ ?_
        exact ⟨by rw [readQ, if_pos (by rw [e1, decide_eq_true hc6.1, decide_eq_true hc6.2]; rfl), if_neg (by omega)], rfl⟩
    · replace hc6 := nm_ hc6
      have hen : ¬ enS l (whoS p f m) p.r p.pr = true := by rw [e1, Bool.and_eq_true, decide_eq_true_eq, decide_eq_true_eq]; omega
      refine awp_skip ?_
      refine awp_seq ?_
      refine awp_region (by kernel_rfl) ?_
      iterate 2 (refine aL_S rfl rfl v_ ?_)
      refine aL_X rfl rfl (AOp_use rfl rfl (.inr ⟨rfl, rfl, rfl⟩) g_ va_ (rCount_c (by omega) (by omega)) ?_); rintro _ _ ⟨rfl, rfl⟩
      iterate 5 (refine aL_S rfl rfl v_ ?_)
      refine aL_nil ?_
      refine awp_seq ?_
      refine awp_seq ?_
      refine awp_region (by kernel_rfl) ?_
      iterate 3 (refine aL_S rfl rfl v_ ?_)
      refine aL_GT rfl rfl v_ rfl vg_ ?_
      refine aL_GT rfl rfl v_ rfl vg_ ?_
      iterate 2 (refine aL_S rfl rfl v_ ?_)
      refine aL_GT rfl rfl v_ rfl vg_ ?_
      refine aL_GT rfl rfl v_ rfl vg_ ?_
      refine aL_GT rfl rfl v_ rfl vg_ ?_
      refine aL_GT rfl rfl v_ rfl vg_ ?_
      refine aL_GT rfl rfl v_ rfl vg_ ?_
      (refine aL_S rfl rfl v_ ?_)
      refine aL_nil ?_
      refine awp_cond v_ (fun hc11 => ?_) (fun hc11 => ?_)
      · replace hc11 := nm_ hc11
        refine awp_seq ?_
        refine awp_region (by kernel_rfl) ?_
        (refine aL_S rfl rfl v_ ?_)
        refine aL_nil ?_
        refine awp_ret ?_
        refine aEnd_ret (σ' := σ) v_ sub_ ?_
        exact ⟨by rw [readQ, if_neg hen, if_pos ⟨hc11.1.1, by omega, by omega⟩], rfl⟩
      · replace hc11 := nm_ hc11
        refine awp_skip ?_
        refine awp_seq ?_
        refine awp_region (by kernel_rfl) ?_
        iterate 5 (refine aL_S rfl rfl v_ ?_)
        refine aL_X rfl rfl (AOp_use rfl rfl (.inr ⟨rfl, rfl, rfl⟩) g_ va_ (rBoth34_c (a := f) (b := m) (by omega) (by omega)) ?_); rintro _ _ ⟨rfl, rfl⟩
        (refine aL_S rfl rfl v_ ?_)
        refine aL_X rfl rfl (AOp_use rfl rfl (.inr ⟨rfl, rfl, rfl⟩) g_ va_ (rBoth34_c (a := f ++ m) (b := n) (by rw [List.length_append]; omega) (by omega)) ?_); rintro _ _ ⟨rfl, rfl⟩
        refine aL_X rfl rfl (AOp_use rfl rfl (.inr ⟨rfl, rfl, rfl⟩) g_ va_ (rOpen_c (ns := f ++ m ++ n) (by omega) (by rw [List.length_append, List.length_append]; omega)) ?_); rintro _ _ ⟨rfl, rfl⟩
        refine aL_X rfl rfl (AOp_use rfl rfl (.inr ⟨rfl, rfl, rfl⟩) g_ va_ (rBoth34_c (a := whoL p f m) (b := openS l (f ++ m ++ n)) (by omega) (by omega)) ?_); rintro _ _ ⟨rfl, rfl⟩
        refine aL_X rfl rfl (AOp_use rfl rfl (.inr ⟨rfl, rfl, rfl⟩) g_ va_ (rCount_c (ns := whoL p f m ++ openS l (f ++ m ++ n)) (by omega) (by rw [List.length_append]; omega)) ?_); rintro _ _ ⟨rfl, rfl⟩
        iterate 5 (refine aL_S rfl rfl v_ ?_)
        refine aL_nil ?_
        refine awp_seq ?_
        refine awp_seq ?_
        refine awp_region (by kernel_rfl) ?_
        iterate 5 (refine aL_S rfl rfl v_ ?_)
        refine aL_GF rfl rfl v_ rfl vg_ ?_
        refine aL_GF rfl rfl v_ rfl vg_ ?_
        refine aL_GF rfl rfl v_ rfl vg_ ?_
        refine aL_GF rfl rfl v_ rfl vg_ ?_
        (refine aL_S rfl rfl v_ ?_)
        refine aL_nil ?_
        refine awp_cond v_ (fun hc14 => ?_) (fun hc14 => ?_)
        · replace hc14 := nm_ hc14
          refine awp_seq ?_
          refine awp_region (by kernel_rfl) ?_
          (refine aL_S rfl rfl v_ ?_)
          refine aL_nil ?_
          refine awp_ret ?_
          refine aEnd_ret (σ' := σ) v_ sub_ ?_
          exact ⟨by rw [readQ, if_neg hen, if_neg (by rintro ⟨q1, q2, q3⟩; rcases hc11 with (h | h) | h; rw [q1] at h; cases h; omega; omega), if_neg (by rw [e2, Bool.and_eq_true, decide_eq_true_eq, decide_eq_true_eq]; omega)], rfl⟩
        · replace hc14 := nm_ hc14
          refine awp_skip ?_
          refine awp_seq ?_
          refine awp_region (by kernel_rfl) ?_
          (refine aL_S rfl rfl v_ ?_)
          refine aL_nil ?_
          refine awp_ret ?_
          refine aEnd_ret (σ' := σ) v_ sub_ ?_
          exact ⟨by rw [readQ, if_neg hen, if_neg (by rintro ⟨q1, q2, q3⟩; rcases hc11 with (h | h) | h; rw [q1] at h; cases h; omega; omega), if_pos (by rw [e2, Bool.and_eq_true, decide_eq_true_eq, decide_eq_true_eq]; omega)], rfl⟩
end Go.Proofs.YtbcgkbdacijoiaaGreat
end

section
set_option linter.all false
set_option maxRecDepth 100000
namespace Go.Proofs.YtbcgkbdacijoiaaGreat
open Go.Ab
def cmpL (a b : Sib) : Int := if cmpI a.time b.time ≠ 0 then cmpI a.time b.time else if cmpS a.node b.node ≠ 0 then cmpS a.node b.node else cmpI a.n b.n
def laterS (a b : Sib) : Bool := decide (0 < cmpL a b)
abbrev fLc : AVal := .lit (.func (.func 221) #[] #[])
theorem lcompare_c {a b : Sib} {σ : Store} : ACalls Tryz.prog 221 [sSib a, sSib b] σ fun v σ' => v = vInt (cmpL a b) ∧ σ = σ' := by
  refine ACalls_of Tryz.func221 rfl Tryz.ntmps221 (congrArg Array.toList Tryz.results221) (by simp only [List.length_cons, List.length_nil]; decide) ?_; simp only [envOf_cons, envOf_nil, Nat.reduceAdd]
  refine awp_seq ?_
  refine awp_region (by kernel_rfl) ?_
  refine aL_box rfl rfl rfl v_ rfl g_ fun o2 ho2 => ?_
  repeat (rw [none_set_iff] at ho2; obtain ⟨_, ho2⟩ := ho2)
  refine aL_box rfl rfl rfl v_ rfl g_ fun o3 ho3 => ?_
  repeat (rw [none_set_iff] at ho3; obtain ⟨_, ho3⟩ := ho3)
  (refine aL_S rfl rfl v_ ?_)
  refine aL_nil ?_
  refine awp_seq ?_
  refine awp_draw (.op 0 0 (.op 1 0 (.op 2 0 (.op 3 0 (.op 5 0 (.op 6 0 (.op 7 0 (.op 8 0 (.op 9 0 (.op 10 0 (.op 12 0 (.op 13 0 (.op 14 0 (.op 15 0 (.op 16 0 (.op 17 0 (.op 4 1 (.op 11 1 (.op 18 1 (.op 19 1 (.op 20 1 (.op 21 0 .nil)))))))))))))))))))))) Tryz.mixed (by kernel_rfl) ?_
  iterate 16 (refine dR_S o_ (by rfl) (by rfl) v_ ?_)
  refine dR_X o_ (by rfl) (by rfl) (AOp_use (by rfl) (by rfl) (.inr ⟨by rfl, by rfl, by rfl⟩) g_ va_ (intCompare_c) ?_); rintro _ _ ⟨rfl, rfl⟩; refine ⟨sub_, ?_⟩
  refine dR_X o_ (by rfl) (by rfl) (AOp_use (by rfl) (by rfl) (.inr ⟨by rfl, by rfl, by rfl⟩) g_ va_ (strCompare_c) ?_); rintro _ _ ⟨rfl, rfl⟩; refine ⟨sub_, ?_⟩
  refine dR_X o_ (by rfl) (by rfl) (AOp_use (by rfl) (by rfl) (.inr ⟨by rfl, by rfl, by rfl⟩) g_ va_ (intCompare_c) ?_); rintro _ _ ⟨rfl, rfl⟩; refine ⟨sub_, ?_⟩
  refine dR_X o_ (by rfl) (by rfl) (AOp_buildSlice' (by rfl) g_ g_ (by rfl) (by rfl) h_ c2_ (by decide) ⟨sub_, ?_⟩)
  refine dR_X o_ (by rfl) (by rfl) (AOp_use (by rfl) (by rfl) (.inr ⟨by rfl, by rfl, by rfl⟩) g_ va_ (or3_c (a := cmpI a.time b.time) (b := cmpS a.node b.node) (c := cmpI a.n b.n)) ?_); rintro _ _ ⟨rfl, rfl⟩; refine ⟨sub_, ?_⟩
  (refine dR_S o_ (by rfl) (by rfl) v_ ?_)
  refine dR_nil ?_
  refine awp_ret ?_
  refine aEnd_ret (σ' := σ) v_ sub_ ?_
  exact ⟨rfl, rfl⟩
def sib0 : Sib := ⟨⟨#[]⟩, 0, ⟨#[]⟩, false, 0⟩
def upS (m y : Sib) : Sib := if laterS y m then y else m
def mxS : List Sib → Sib
  | [] => sib0
  | x :: l => l.foldl upS x
theorem mxS_snoc {L : List Sib} {y : Sib} (h : L ≠ []) : mxS (L ++ [y]) = upS (mxS L) y := by
  cases L with
  | nil => exact absurd rfl h
  | cons x l => show (l ++ [y]).foldl upS x = _; rw [List.foldl_append]; rfl
theorem mxS_next {L : List Sib} {k : Nat} {y : Sib} (h1 : 1 ≤ k) (h : L[k]? = some y) : mxS (L.take (k + 1)) = upS (mxS (L.take k)) y := by
  have hk := (List.getElem?_eq_some_iff.1 h).1
  rw [take_snoc h, mxS_snoc]
  intro h0
  have h2 : min k L.length = 0 := by rw [← List.length_take, h0]; rfl
  omega
set_option maxHeartbeats 2000000 in
theorem maxFunc_c {L : List Sib} {t : Bool} {σ : Store} (h0 : 0 < L.length) (hl : L.length ≤ 1000000) : ACalls Tryz.prog 220 [.sl 5 (L.map sSib) t, fLc] σ fun v σ' => v = sSib (mxS L) ∧ σ = σ' := by
  obtain ⟨x0, hx0⟩ := get_some (l := L) (k := 0) h0
  refine ACalls_of Tryz.func220 rfl Tryz.ntmps220 (congrArg Array.toList Tryz.results220) (by simp only [List.length_cons, List.length_nil]; decide) ?_; simp only [envOf_cons, envOf_nil, Nat.reduceAdd]
  refine awp_seq ?_
  refine awp_region (by kernel_rfl) ?_
  refine aL_alloc rfl rfl rfl g_ gl_ fun o4 ho4 => ?_
  repeat (rw [none_set_iff] at ho4; obtain ⟨_, ho4⟩ := ho4)
  refine aL_nil ?_
  refine awp_seq ?_
  refine awp_seq ?_
  refine awp_region (by kernel_rfl) ?_
  iterate 3 (refine aL_S rfl rfl v_ ?_)
  refine aL_nil ?_
  refine awp_cond v_ (fun hc1 => ?_) (fun hc1 => ?_)
  · replace hc1 := nm_ hc1
    omega
  · replace hc1 := nm_ hc1
    refine awp_skip ?_
    refine awp_seq ?_
    have R := hx0
    refine awp_region (by kernel_rfl) ?_
    iterate 3 (refine aL_S rfl rfl v_ ?_)
    refine aL_alloc rfl rfl rfl g_ gl_ fun o5 ho5 => ?_
    repeat (rw [none_set_iff] at ho5; obtain ⟨_, ho5⟩ := ho5)
    refine aL_store rfl rfl rfl v_ v_ h_ g_ rfl g_ c_ (by rfl) le_ v_ ?_
    refine aL_nil ?_
    refine awp_seq ?_
    refine awp_seq ?_
    skip
    have hini : ((σ.set o4 (.cells (sSib sib0).cells)).set o5 (.cells (sSib (mxS (L.take 1))).cells)).Wk (((σ.set o4 (.cells (sSib sib0).cells)).set o5 (.cells (sSib sib0).cells)).set o5 (.cells (sSib x0).cells)) := by
      rw [take_snoc hx0, Store.set_set]; exact Store.Wk.refl _
    refine awp_region (by kernel_rfl) ?_
    (refine aL_S rfl rfl v_ ?_)
    refine aL_nil ?_
    refine awp_block ?_
    refine awp_loop_env (ι := Nat) (fun k => L.length - k) (fun k => 1 ≤ k ∧ k ≤ L.length) (fun k => [(0, .sl 5 (L.map sSib) t), (1, fLc), (4, .ref o4 0), (5, .ref o5 0), (6, vInt k)]) (fun k => ((σ.set o4 (.cells (sSib sib0).cells)).set o5 (.cells (sSib (mxS (L.take k))).cells))) 1 ?_ ?_ ?_ ?_
    · exact ⟨Nat.le_refl _, h0⟩
    · exact cv_
    · exact hini
    rintro k ⟨hk1, hk⟩
    simp only [envL_cons, envL_nil]
    refine awp_seq ?_
    refine awp_seq ?_
    refine awp_region (by kernel_rfl) ?_
    iterate 4 (refine aL_S rfl rfl v_ ?_)
    refine aL_nil ?_
    refine awp_cond v_ (fun hc5 => ?_) (fun hc5 => ?_)
    · replace hc5 := nm_ hc5
      refine awp_skip ?_
      refine awp_seq ?_
      refine awp_block ?_
      refine awp_seq ?_
      obtain ⟨y, hy⟩ := get_some (l := L) (k := k) (by omega)
      have R := hy
      refine awp_draw (.op 0 0 (.op 1 0 (.op 2 0 (.op 3 0 (.op 4 0 (.op 5 0 (.op 6 1 (.op 7 0 .nil)))))))) Tryz.mixed (by kernel_rfl) ?_
      iterate 6 (refine dR_S o_ (by rfl) (by rfl) v_ ?_)
      refine dR_X o_ (by rfl) (by rfl) (AOp_use (by rfl) (by rfl) (.inr ⟨va_, by rfl, by rfl⟩) g_ va_ (lcompare_c (a := y) (b := mxS (L.take k))) ?_); rintro _ _ ⟨rfl, rfl⟩; refine ⟨sub_, ?_⟩
      (refine dR_S o_ (by rfl) (by rfl) v_ ?_)
      refine dR_nil ?_
      refine awp_cond v_ (fun hc7 => ?_) (fun hc7 => ?_)
      · replace hc7 := nm_ hc7
        have hm1 : mxS (L.take (k + 1)) = y := by rw [mxS_next hk1 hy, upS, laterS, decide_eq_true hc7, if_pos rfl]
        have R := hy
        refine awp_region (by kernel_rfl) ?_
        iterate 4 (refine aL_S rfl rfl v_ ?_)
        refine aL_store rfl rfl rfl v_ v_ h_ g_ rfl g_ c_ (by rfl) le_ v_ ?_
        refine aL_nil ?_
        refine awp_region (by kernel_rfl) ?_
        iterate 3 (refine aL_S rfl rfl v_ ?_)
        refine aL_nil ?_
        refine aNext (ι := Nat) (i := k) (k + 1) ?_ ?_ ?_ ?_
        · omega
        · exact ⟨by omega, by omega⟩
        · exact cv_
        · rw [hm1]; exact sub_
      · replace hc7 := nm_ hc7
        have hm2 : mxS (L.take (k + 1)) = mxS (L.take k) := by rw [mxS_next hk1 hy, upS, laterS, decide_eq_false (by omega), if_neg (by simp)]
        refine awp_skip ?_
        refine awp_region (by kernel_rfl) ?_
        iterate 3 (refine aL_S rfl rfl v_ ?_)
        refine aL_nil ?_
        refine aNext (ι := Nat) (i := k) (k + 1) ?_ ?_ ?_ ?_
        · omega
        · exact ⟨by omega, by omega⟩
        · exact cv_
        · rw [hm2]; exact sub_
    · replace hc5 := nm_ hc5
      refine awp_exit ?_
      refine aThen_exit ?_
      refine aThen_exit ?_
      refine aBlock_hit ?_
      refine awp_seq ?_
      obtain rfl : k = L.length := by omega
      rw [List.take_length]
      refine awp_region (by kernel_rfl) ?_
      (refine aL_S rfl rfl v_ ?_)
      refine aL_store rfl rfl rfl v_ v_ h_ g_ rfl g_ c_ (by rfl) le_ v_ ?_
      refine aL_nil ?_
      refine awp_ret ?_
      refine aEnd_ret (σ' := σ) v_ sub_ ?_
      exact ⟨rfl, rfl⟩
theorem latest_c {L : List Sib} {t : Bool} {σ : Store} (hl : L.length ≤ 1000000) : ACalls Tryz.prog 135 [.sl 5 (L.map sSib) t] σ fun v σ' => v = .tup [sSib (mxS L), vB (decide (0 < L.length))] ∧ σ = σ' := by
  refine ACalls_of Tryz.func135 rfl Tryz.ntmps135 (congrArg Array.toList Tryz.results135) (by simp only [List.length_cons, List.length_nil]; decide) ?_; simp only [envOf_cons, envOf_nil, Nat.reduceAdd]
  refine awp_seq ?_
  refine awp_region (by kernel_rfl) ?_
  refine aL_alloc rfl rfl rfl g_ gl_ fun o2 ho2 => ?_
  repeat (rw [none_set_iff] at ho2; obtain ⟨_, ho2⟩ := ho2)
  (refine aL_S rfl rfl v_ ?_)
  refine aL_nil ?_
  refine awp_seq ?_
  refine awp_seq ?_
  refine awp_region (by kernel_rfl) ?_
  iterate 3 (refine aL_S rfl rfl v_ ?_)
  refine aL_nil ?_
  refine awp_cond v_ (fun hc1 => ?_) (fun hc1 => ?_)
  · replace hc1 := nm_ hc1
    have h0 : L = [] := List.eq_nil_of_length_eq_zero (by omega)
    subst h0
    refine awp_seq ?_
    refine awp_region (by kernel_rfl) ?_
    (refine aL_S rfl rfl v_ ?_)
    refine aL_store rfl rfl rfl v_ v_ h_ g_ rfl g_ c_ (by rfl) le_ v_ ?_
    (refine aL_S rfl rfl v_ ?_)
    refine aL_nil ?_
    refine awp_ret ?_
    refine aEnd_ret (σ' := σ) v_ sub_ ?_
    exact ⟨rfl, rfl⟩
  · replace hc1 := nm_ hc1
    have hp : 0 < L.length := by omega
    rw [decide_eq_true hp]
    refine awp_skip ?_
    refine awp_seq ?_
    refine awp_region (by kernel_rfl) ?_
    (refine aL_S rfl rfl v_ ?_)
    refine aL_X rfl rfl (AOp_use rfl rfl (.inr ⟨rfl, rfl, rfl⟩) g_ va_ (maxFunc_c (t := t) hp hl) ?_); rintro _ _ ⟨rfl, rfl⟩
    refine aL_store rfl rfl rfl v_ v_ h_ g_ rfl g_ c_ (by rfl) le_ v_ ?_
    (refine aL_S rfl rfl v_ ?_)
    refine aL_nil ?_
    refine awp_ret ?_
    refine aEnd_ret (σ' := σ) v_ sub_ ?_
    exact ⟨rfl, rfl⟩
def answerS (o : Obj') (sev : Bool) : List Sib := if sev then o.sibs.filter live else if o.sibs = [] then [] else [mxS o.sibs].filter live
theorem answer_c {o : Obj'} {sev : Bool} {σ : Store} (ho : ObjSm o) : ACalls Tryz.prog 66 [sObj o, vB sev] σ fun v σ' => v = .sl 5 ((answerS o sev).map sSib) false ∧ σ = σ' := by
  have hns := ho.ns
  refine ACalls_of Tryz.func66 rfl Tryz.ntmps66 (congrArg Array.toList Tryz.results66) (by simp only [List.length_cons, List.length_nil]; decide) ?_; simp only [envOf_cons, envOf_nil, Nat.reduceAdd]
  refine awp_seq ?_
  refine awp_region (by kernel_rfl) ?_
  refine aL_box rfl rfl rfl v_ rfl g_ fun o2 ho2 => ?_
  repeat (rw [none_set_iff] at ho2; obtain ⟨_, ho2⟩ := ho2)
  (refine aL_S rfl rfl v_ ?_)
  refine aL_nil ?_
  refine awp_seq ?_
  refine awp_seq ?_
  refine awp_region (by kernel_rfl) ?_
  (refine aL_S rfl rfl v_ ?_)
  refine aL_nil ?_
  refine awp_cond v_ (fun hc1 => ?_) (fun hc1 => ?_)
  · replace hc1 := nm_ hc1
    refine awp_seq ?_
    refine awp_region (by kernel_rfl) ?_
    iterate 2 (refine aL_S rfl rfl v_ ?_)
    refine aL_X rfl rfl (AOp_use rfl rfl (.inr ⟨rfl, rfl, rfl⟩) g_ va_ (live_c (by omega)) ?_); rintro _ _ ⟨rfl, rfl⟩
    (refine aL_S rfl rfl v_ ?_)
    refine aL_nil ?_
    refine awp_ret ?_
    refine aEnd_ret (σ' := σ) v_ sub_ ?_
    exact ⟨by rw [answerS, hc1, if_pos rfl], rfl⟩
  · replace hc1 := nm_ hc1
    refine awp_skip ?_
    refine awp_seq ?_
    refine awp_region (by kernel_rfl) ?_
    iterate 2 (refine aL_S rfl rfl v_ ?_)
    refine aL_X rfl rfl (AOp_use rfl rfl (.inr ⟨rfl, rfl, rfl⟩) g_ va_ (latest_c (by omega)) ?_); rintro _ _ ⟨rfl, rfl⟩
    iterate 3 (refine aL_S rfl rfl v_ ?_)
    refine aL_alloc rfl rfl rfl g_ gl_ fun o5 ho5 => ?_
    repeat (rw [none_set_iff] at ho5; obtain ⟨_, ho5⟩ := ho5)
    refine aL_store rfl rfl rfl v_ v_ h_ g_ rfl g_ c_ (by rfl) le_ v_ ?_
    (refine aL_S rfl rfl v_ ?_)
    refine aL_nil ?_
    refine awp_seq ?_
    refine awp_seq ?_
    refine awp_region (by kernel_rfl) ?_
    iterate 2 (refine aL_S rfl rfl v_ ?_)
    refine aL_nil ?_
    refine awp_cond v_ (fun hc4 => ?_) (fun hc4 => ?_)
    · replace hc4 := nm_ hc4
      refine awp_seq ?_
      refine awp_region (by kernel_rfl) ?_
      (refine aL_S rfl rfl v_ ?_)
      refine aL_nil ?_
      refine awp_ret ?_
      rw [answerS, hc1, if_neg (by simp), if_pos (List.eq_nil_of_length_eq_zero (by omega))]
      exact aEnd_retW (v := .sl 5 [] false) (v' := vNil) va_ (.nil _ _) sub_ ⟨rfl, rfl⟩
    · replace hc4 := nm_ hc4
      refine awp_skip ?_
      refine awp_seq ?_
      refine awp_region (by kernel_rfl) ?_
      (refine aL_S rfl rfl v_ ?_)
      refine aL_buildSlice rfl rfl rfl g_ g_ rfl rfl h_ c2_ (by decide) ?_
      refine aL_X rfl rfl (AOp_use rfl rfl (.inr ⟨rfl, rfl, rfl⟩) g_ va_ (live_c (L := [mxS o.sibs]) (t := true) (by simp)) ?_); rintro _ _ ⟨rfl, rfl⟩
      (refine aL_S rfl rfl v_ ?_)
      refine aL_nil ?_
      refine awp_ret ?_
      refine aEnd_ret (σ' := σ) v_ sub_ ?_
      exact ⟨by rw [answerS, hc1, if_neg (by simp), if_neg (fun h => by rw [h] at hc4; simp at hc4)], rfl⟩
theorem rLater_c {a b : Sib} {σ : Store} : ACalls Tryz.prog 222 [sSib a, sSib b] σ fun v σ' => v = vB (laterS a b) ∧ σ = σ' := by
  have hl : laterS a b = (if a.time ≠ b.time then decide (b.time < a.time) else if a.node ≠ b.node then sLt b.node a.node else decide (b.n < a.n)) := by
    rw [Bool.eq_iff_iff, laterS, decide_eq_true_eq]
    by_cases h1 : a.time = b.time
    · have e1 : cmpI a.time b.time = 0 := by unfold cmpI; rw [h1]; simp
      have eL : cmpL a b = if cmpS a.node b.node ≠ 0 then cmpS a.node b.node else cmpI a.n b.n := by
        unfold cmpL; rw [if_neg (show ¬ cmpI a.time b.time ≠ 0 from by rw [e1]; simp)]
      rw [eL, if_neg (show ¬ a.time ≠ b.time from fun h => h h1)]
      by_cases h2 : a.node = b.node
      · rw [if_neg (show ¬ cmpS a.node b.node ≠ 0 from fun h => h (cmpS_zero.2 h2)), if_neg (show ¬ a.node ≠ b.node from fun h => h h2), decide_eq_true_eq]
        unfold cmpI; split
        · omega
        · split <;> omega
      · rw [if_pos (show cmpS a.node b.node ≠ 0 from fun h => h2 (cmpS_zero.1 h)), if_pos (show a.node ≠ b.node from h2)]
        unfold cmpS
        cases h3 : sLt a.node b.node with
        | true => simp [sLt_asymm h3]
        | false => simp [h2, sLt_tri h3 h2]
    · have e1 : cmpI a.time b.time ≠ 0 := by
        unfold cmpI
        split
        · decide
        · split
          · decide
          · omega
      have eL : cmpL a b = cmpI a.time b.time := by unfold cmpL; rw [if_pos e1]
      rw [eL, if_pos (show a.time ≠ b.time from h1), decide_eq_true_eq]
      unfold cmpI; split
      · omega
      · split <;> omega
  refine ACalls_of Tryz.func222 rfl Tryz.ntmps222 (congrArg Array.toList Tryz.results222) (by simp only [List.length_cons, List.length_nil]; decide) ?_; simp only [envOf_cons, envOf_nil, Nat.reduceAdd]
  refine awp_seq ?_
  refine awp_region (by kernel_rfl) ?_
  refine aL_box rfl rfl rfl v_ rfl g_ fun o2 ho2 => ?_
  repeat (rw [none_set_iff] at ho2; obtain ⟨_, ho2⟩ := ho2)
  refine aL_box rfl rfl rfl v_ rfl g_ fun o3 ho3 => ?_
  repeat (rw [none_set_iff] at ho3; obtain ⟨_, ho3⟩ := ho3)
  (refine aL_S rfl rfl v_ ?_)
  refine aL_nil ?_
  refine awp_seq ?_
  refine awp_seq ?_
  refine awp_region (by kernel_rfl) ?_
  iterate 5 (refine aL_S rfl rfl v_ ?_)
  refine aL_nil ?_
  refine awp_cond v_ (fun hc1 => ?_) (fun hc1 => ?_)
  · replace hc1 := nm_ hc1
    refine awp_seq ?_
    refine awp_region (by kernel_rfl) ?_
    iterate 6 (refine aL_S rfl rfl v_ ?_)
    refine aL_nil ?_
    refine awp_ret ?_
    refine aEnd_ret (σ' := σ) v_ sub_ ?_
    exact ⟨by rw [hl, if_pos hc1], rfl⟩
  · replace hc1 := nm_ hc1
    refine awp_skip ?_
    refine awp_seq ?_
    refine awp_seq ?_
    refine awp_region (by kernel_rfl) ?_
    iterate 7 (refine aL_S rfl rfl v_ ?_)
    refine aL_nil ?_
    refine awp_cond v_ (fun hc3 => ?_) (fun hc3 => ?_)
    · replace hc3 := nm_ hc3
      refine awp_seq ?_
      refine awp_region (by kernel_rfl) ?_
      iterate 8 (refine aL_S rfl rfl v_ ?_)
      refine aL_nil ?_
      refine awp_ret ?_
      refine aEnd_ret (σ' := σ) v_ sub_ ?_
      refine ⟨?_, rfl⟩
      rw [hl, if_neg (by simp [hc1]), if_pos hc3]
      cases h3 : sLt a.node b.node with
      | true => simp [sLt_asymm h3]
      | false => simp [hc3, sLt_tri h3 hc3]
    · replace hc3 := nm_ hc3
      refine awp_skip ?_
      refine awp_seq ?_
      refine awp_region (by kernel_rfl) ?_
      iterate 8 (refine aL_S rfl rfl v_ ?_)
      refine aL_nil ?_
      refine awp_ret ?_
      refine aEnd_ret (σ' := σ) v_ sub_ ?_
      exact ⟨by rw [hl, if_neg (by simp [hc1]), if_neg (by simp [hc3])], rfl⟩
set_option maxHeartbeats 2000000 in
theorem rLatest_c {L : List Sib} {t : Bool} {σ : Store} (hl : L.length ≤ 1000000) : ACalls Tryz.prog 137 [.sl 5 (L.map sSib) t] σ fun v σ' => v = .tup [sSib (mxS L), vB (decide (0 < L.length))] ∧ σ = σ' := by
  refine ACalls_of Tryz.func137 rfl Tryz.ntmps137 (congrArg Array.toList Tryz.results137) (by simp only [List.length_cons, List.length_nil]; decide) ?_; simp only [envOf_cons, envOf_nil, Nat.reduceAdd]
  refine awp_seq ?_
  refine awp_region (by kernel_rfl) ?_
  refine aL_alloc rfl rfl rfl g_ gl_ fun o2 ho2 => ?_
  repeat (rw [none_set_iff] at ho2; obtain ⟨_, ho2⟩ := ho2)
  (refine aL_S rfl rfl v_ ?_)
  refine aL_nil ?_
  refine awp_seq ?_
  refine awp_seq ?_
  refine awp_region (by kernel_rfl) ?_
  iterate 3 (refine aL_S rfl rfl v_ ?_)
  refine aL_nil ?_
  refine awp_cond v_ (fun hc1 => ?_) (fun hc1 => ?_)
  · replace hc1 := nm_ hc1
    have h0 : L = [] := List.eq_nil_of_length_eq_zero (by omega)
    subst h0
    refine awp_seq ?_
    refine awp_region (by kernel_rfl) ?_
    (refine aL_S rfl rfl v_ ?_)
    refine aL_store rfl rfl rfl v_ v_ h_ g_ rfl g_ c_ (by rfl) le_ v_ ?_
    (refine aL_S rfl rfl v_ ?_)
    refine aL_nil ?_
    refine awp_ret ?_
    refine aEnd_ret (σ' := σ) v_ sub_ ?_
    exact ⟨rfl, rfl⟩
  · replace hc1 := nm_ hc1
    have hp : 0 < L.length := by omega
    rw [decide_eq_true hp]
    obtain ⟨x0, hx0⟩ := get_some (l := L) (k := 0) hp
    refine awp_skip ?_
    refine awp_seq ?_
    have R := hx0
    refine awp_region (by kernel_rfl) ?_
    iterate 3 (refine aL_S rfl rfl v_ ?_)
    refine aL_alloc rfl rfl rfl g_ gl_ fun o4 ho4 => ?_
    repeat (rw [none_set_iff] at ho4; obtain ⟨_, ho4⟩ := ho4)
    refine aL_store rfl rfl rfl v_ v_ h_ g_ rfl g_ c_ (by rfl) le_ v_ ?_
    refine aL_nil ?_
    refine awp_seq ?_
    refine awp_seq ?_
    skip
    have hini : ((σ.set o2 (.cells (sSib sib0).cells)).set o4 (.cells (sSib (mxS (L.take 1))).cells)).Wk (((σ.set o2 (.cells (sSib sib0).cells)).set o4 (.cells (sSib sib0).cells)).set o4 (.cells (sSib x0).cells)) := by
      rw [take_snoc hx0, Store.set_set]; exact Store.Wk.refl _
    refine awp_region (by kernel_rfl) ?_
    (refine aL_S rfl rfl v_ ?_)
    refine aL_nil ?_
    refine awp_block ?_
    refine awp_loop_env (ι := Nat) (fun k => L.length - k) (fun k => 1 ≤ k ∧ k ≤ L.length) (fun k => [(0, .sl 5 (L.map sSib) t), (2, .ref o2 0), (4, .ref o4 0), (5, vInt k)]) (fun k => ((σ.set o2 (.cells (sSib sib0).cells)).set o4 (.cells (sSib (mxS (L.take k))).cells))) 1 ?_ ?_ ?_ ?_
    · exact ⟨Nat.le_refl _, hp⟩
    · exact cv_
    · exact hini
    rintro k ⟨hk1, hk⟩
    simp only [envL_cons, envL_nil]
    refine awp_seq ?_
    refine awp_seq ?_
    refine awp_region (by kernel_rfl) ?_
    iterate 4 (refine aL_S rfl rfl v_ ?_)
    refine aL_nil ?_
    refine awp_cond v_ (fun hc5 => ?_) (fun hc5 => ?_)
    · replace hc5 := nm_ hc5
      refine awp_skip ?_
      refine awp_seq ?_
      refine awp_block ?_
      refine awp_seq ?_
      obtain ⟨y, hy⟩ := get_some (l := L) (k := k) (by omega)
      have R := hy
      refine awp_draw (.op 0 0 (.op 1 0 (.op 2 0 (.op 3 0 (.op 4 0 (.op 5 2 .nil)))))) Tryz.mixed (by kernel_rfl) ?_
      iterate 5 (refine dR_S o_ (by rfl) (by rfl) v_ ?_)
      refine dR_T o_ (by rfl) (by rfl) (AOp_use (by rfl) (by rfl) (.inr ⟨by rfl, by rfl, by rfl⟩) g_ va_ (rLater_c (a := y) (b := mxS (L.take k))) ?_); rintro _ _ ⟨rfl, rfl⟩
      refine dR_nil ?_
      refine awp_cond v_ (fun hc7 => ?_) (fun hc7 => ?_)
      · replace hc7 := nm_ hc7
        have hm1 : mxS (L.take (k + 1)) = y := by rw [mxS_next hk1 hy, upS, hc7, if_pos rfl]
        have R := hy
        refine awp_region (by kernel_rfl) ?_
        iterate 4 (refine aL_S rfl rfl v_ ?_)
        refine aL_store rfl rfl rfl v_ v_ h_ g_ rfl g_ c_ (by rfl) le_ v_ ?_
        refine aL_nil ?_
        refine awp_region (by kernel_rfl) ?_
        iterate 3 (refine aL_S rfl rfl v_ ?_)
        refine aL_nil ?_
        refine aNext (ι := Nat) (i := k) (k + 1) ?_ ?_ ?_ ?_
        · omega
        · exact ⟨by omega, by omega⟩
        · exact cv_
        · rw [hm1]; exact sub_
      · replace hc7 := nm_ hc7
        have hm2 : mxS (L.take (k + 1)) = mxS (L.take k) := by rw [mxS_next hk1 hy, upS, hc7, if_neg (by simp)]
        refine awp_skip ?_
        refine awp_region (by kernel_rfl) ?_
        iterate 3 (refine aL_S rfl rfl v_ ?_)
        refine aL_nil ?_
        refine aNext (ι := Nat) (i := k) (k + 1) ?_ ?_ ?_ ?_
        · omega
        · exact ⟨by omega, by omega⟩
        · exact cv_
        · rw [hm2]; exact sub_
    · replace hc5 := nm_ hc5
      refine awp_exit ?_
      refine aThen_exit ?_
      refine aThen_exit ?_
      refine aBlock_hit ?_
      refine awp_seq ?_
      obtain rfl : k = L.length := by omega
      rw [List.take_length]
      refine awp_region (by kernel_rfl) ?_
      (refine aL_S rfl rfl v_ ?_)
      refine aL_store rfl rfl rfl v_ v_ h_ g_ rfl g_ c_ (by rfl) le_ v_ ?_
      (refine aL_S rfl rfl v_ ?_)
      refine aL_nil ?_
      refine awp_ret ?_
      refine aEnd_ret (σ' := σ) v_ sub_ ?_
      exact ⟨rfl, rfl⟩
theorem rAnswerO_c {o : Obj'} {sev : Bool} {σ : Store} (ho : ObjSm o) : ACalls Tryz.prog 67 [sObj o, vB sev] σ fun v σ' => v = .sl 5 ((answerS o sev).map sSib) false ∧ σ = σ' := by
  have hns := ho.ns
  refine ACalls_of Tryz.func67 rfl Tryz.ntmps67 (congrArg Array.toList Tryz.results67) (by simp only [List.length_cons, List.length_nil]; decide) ?_; simp only [envOf_cons, envOf_nil, Nat.reduceAdd]
  refine awp_seq ?_
  refine awp_region (by kernel_rfl) ?_
  refine aL_box rfl rfl rfl v_ rfl g_ fun o2 ho2 => ?_
  repeat (rw [none_set_iff] at ho2; obtain ⟨_, ho2⟩ := ho2)
  (refine aL_S rfl rfl v_ ?_)
  refine aL_nil ?_
  refine awp_seq ?_
  refine awp_seq ?_
  refine awp_region (by kernel_rfl) ?_
  (refine aL_S rfl rfl v_ ?_)
  refine aL_nil ?_
  refine awp_cond v_ (fun hc1 => ?_) (fun hc1 => ?_)
  · replace hc1 := nm_ hc1
    refine awp_seq ?_
    refine awp_region (by kernel_rfl) ?_
    iterate 2 (refine aL_S rfl rfl v_ ?_)
    refine aL_X rfl rfl (AOp_use rfl rfl (.inr ⟨rfl, rfl, rfl⟩) g_ va_ (rLive_c (by omega)) ?_); rintro _ _ ⟨rfl, rfl⟩
    (refine aL_S rfl rfl v_ ?_)
    refine aL_nil ?_
    refine awp_ret ?_
    refine aEnd_ret (σ' := σ) v_ sub_ ?_
    exact ⟨by rw [answerS, hc1, if_pos rfl], rfl⟩
  · replace hc1 := nm_ hc1
    refine awp_skip ?_
    refine awp_seq ?_
    refine awp_region (by kernel_rfl) ?_
    iterate 2 (refine aL_S rfl rfl v_ ?_)
    refine aL_X rfl rfl (AOp_use rfl rfl (.inr ⟨rfl, rfl, rfl⟩) g_ va_ (rLatest_c (by omega)) ?_); rintro _ _ ⟨rfl, rfl⟩
    iterate 3 (refine aL_S rfl rfl v_ ?_)
    refine aL_alloc rfl rfl rfl g_ gl_ fun o5 ho5 => ?_
    repeat (rw [none_set_iff] at ho5; obtain ⟨_, ho5⟩ := ho5)
    refine aL_store rfl rfl rfl v_ v_ h_ g_ rfl g_ c_ (by rfl) le_ v_ ?_
    (refine aL_S rfl rfl v_ ?_)
    refine aL_nil ?_
    refine awp_seq ?_
    refine awp_seq ?_
    refine awp_region (by kernel_rfl) ?_
    iterate 3 (refine aL_S rfl rfl v_ ?_)
    refine aL_GF rfl rfl v_ rfl vg_ ?_
    refine aL_GF rfl rfl v_ rfl vg_ ?_
    (refine aL_S rfl rfl v_ ?_)
    refine aL_nil ?_
    refine awp_cond v_ (fun hc4 => ?_) (fun hc4 => ?_)
    · replace hc4 := nm_ hc4
      refine awp_seq ?_
      refine awp_region (by kernel_rfl) ?_
      (refine aL_S rfl rfl v_ ?_)
      refine aL_nil ?_
      refine awp_ret ?_
      rw [show answerS o sev = [] from by
        rw [answerS, hc1, if_neg (by simp)]
        split
        · rfl
        · rename_i h
          have h1 : 0 < o.sibs.length := List.length_pos_iff.2 h
          have h2 : (mxS o.sibs).gone = true := by rcases hc4 with h | h; omega; exact h
          simp [live, h2]]
      exact aEnd_retW (v := .sl 5 [] false) (v' := vNil) va_ (.nil _ _) sub_ ⟨rfl, rfl⟩
    · replace hc4 := nm_ hc4
      refine awp_skip ?_
      refine awp_seq ?_
      refine awp_region (by kernel_rfl) ?_
      (refine aL_S rfl rfl v_ ?_)
      refine aL_buildSlice rfl rfl rfl g_ g_ rfl rfl h_ c2_ (by decide) ?_
      (refine aL_S rfl rfl v_ ?_)
      refine aL_nil ?_
      refine awp_ret ?_
      rw [show answerS o sev = [mxS o.sibs] from by
        rw [answerS, hc1, if_neg (by simp), if_neg (fun h => by rw [h] at hc4; simp at hc4)]
        simp [live, hc4.2]]
      exact aEnd_retW (v := .sl 5 [sSib (mxS o.sibs)] false) (v' := .sl 5 [sSib (mxS o.sibs)] true) va_ (.sl1 _ _ _) sub_ ⟨rfl, rfl⟩
end Go.Proofs.YtbcgkbdacijoiaaGreat
end

section
set_option linter.all false
set_option maxRecDepth 100000
namespace Go.Proofs.YtbcgkbdacijoiaaGreat
open Go.Ab

def nmL : List ByteArray := [B [97], B [98], B [99], B [100]]
def KnD (N : List Int) (s : ByteArray) (n : Int) : Prop := ∃ (j : Nat) (c : Int), nmL[j]? = some s ∧ N[j]? = some c ∧ 1 ≤ n ∧ n ≤ c
theorem nm_inj {i j : Nat} {s : ByteArray} (hi : nmL[i]? = some s) (hj : nmL[j]? = some s) : i = j := by
  have h1 := (List.getElem?_eq_some_iff.1 hi).1
  have h2 := (List.getElem?_eq_some_iff.1 hj).1
  have e : nmL[i]? = nmL[j]? := by rw [hi, hj]
  have : ∀ i j : Fin 4, nmL[i.val]? = nmL[j.val]? → i = j := by decide +kernel
  have := this ⟨i, h1⟩ ⟨j, h2⟩ e
  exact congrArg Fin.val this
theorem KnD.mono {N : List Int} {s : ByteArray} {n : Int} {j : Nat} {c : Int} (hc : N[j]? = some c) (h : KnD N s n) : KnD (N.set j (c + 1)) s n := by
  obtain ⟨i, d, h1, h2, h3, h4⟩ := h
  by_cases e : j = i
  · subst e
    rw [hc] at h2
    obtain rfl := Option.some.inj h2
    exact ⟨j, c + 1, h1, by rw [List.getElem?_set_self (List.getElem?_eq_some_iff.1 hc).1], h3, by omega⟩
  · exact ⟨i, d, h1, by rw [List.getElem?_set_ne e]; exact h2, h3, h4⟩
theorem KnD.not {N : List Int} {s : ByteArray} {j : Nat} {c : Int} (hs : nmL[j]? = some s) (hc : N[j]? = some c) : ¬ KnD N s (c + 1) := by
  rintro ⟨i, d, h1, h2, _, h4⟩
  obtain rfl := nm_inj h1 hs
  rw [hc] at h2
  obtain rfl := Option.some.inj h2
  omega
structure OI (N : List Int) (D : List (ByteArray × Int)) (K : List (List Seen)) (o : Obj') : Prop where
  good : ObjG o
  dots : ∀ s n, hasS o.ctx s n = true → KnD N s n
  rel : ∀ (m : Nat) (d : ByteArray × Int) (c : List Seen), D[m]? = some d → K[m]? = some c → hasS o.ctx d.1 d.2 = true → ∀ s n, hasS c s n = true → look o s n = .rep
/-! ### how great it may get -/
theorem rise_len {l : List Int} : ∀ {a b : Int}, l.Pairwise (· < ·) → (∀ n ∈ l, a < n ∧ n ≤ b) → a ≤ b → (l.length : Int) ≤ b - a := by
  induction l with
  | nil => intro a b _ _ h; simp; omega
  | cons x l ih =>
    intro a b h1 h2 _
    have hp := List.pairwise_cons.1 h1
    have hx := h2 x (.head _)
    have := ih (a := x) (b := b) hp.2 (fun n hn => ⟨hp.1 n hn, (h2 n (.tail _ hn)).2⟩) hx.2
    simp only [List.length_cons]; omega
def rk (s : ByteArray) : Int := if s = B [97] then 1 else if s = B [98] then 2 else if s = B [99] then 3 else 4
theorem rk_lt {s t : ByteArray} {i j : Nat} (hs : nmL[i]? = some s) (ht : nmL[j]? = some t) (h : sLt s t = true) : rk s < rk t ∧ 1 ≤ rk s ∧ rk t ≤ 4 := by
  have key : ∀ i j : Fin 4, (match nmL[i.val]?, nmL[j.val]? with | some s, some t => !sLt s t || (decide (rk s < rk t) && decide (1 ≤ rk s) && decide (rk t ≤ 4)) | _, _ => true) = true := by decide +kernel
  have := key ⟨i, (List.getElem?_eq_some_iff.1 hs).1⟩ ⟨j, (List.getElem?_eq_some_iff.1 ht).1⟩
  simp only [hs, ht, h] at this
  simpa [and_assoc] using this
theorem rk_bd {s : ByteArray} {i : Nat} (hs : nmL[i]? = some s) : 0 < rk s ∧ rk s ≤ 4 := by
  have key : ∀ i : Fin 4, (match nmL[i.val]? with | some s => decide (0 < rk s) && decide (rk s ≤ 4) | _ => true) = true := by decide +kernel
  have := key ⟨i, (List.getElem?_eq_some_iff.1 hs).1⟩
  simp only [hs] at this
  simpa using this
theorem OI.small {N : List Int} {D : List (ByteArray × Int)} {K : List (List Seen)} {o : Obj'} (h : OI N D K o) (hN : ∀ c ∈ N, c ≤ 60) : room o.ctx ≤ 240 ∧ o.ctx.length ≤ 4 ∧ o.sibs.length ≤ 300 := by
  have hdot : ∀ x ∈ o.ctx, ∃ j, nmL[j]? = some x.node := fun x hx => by
    obtain ⟨_, _, n, hn⟩ := seenOk_iff.1 (h.good.ctx.ok x hx)
    obtain ⟨j, c, h1, _⟩ := h.dots x.node n (hasS_iff.2 ⟨x, hx, rfl, hn⟩)
    exact ⟨j, h1⟩
  have hnb : ∀ s n, hasS o.ctx s n = true → (∃ j, nmL[j]? = some s) ∧ 1 ≤ n ∧ n ≤ 60 := fun s n hs => by
    obtain ⟨j, c, h1, h2, h3, h4⟩ := h.dots s n hs
    have := hN c (List.mem_of_getElem? h2)
    exact ⟨⟨j, h1⟩, h3, by omega⟩
  have hlen : o.ctx.length ≤ 4 := by
    have hp : (o.ctx.map fun x => rk x.node).Pairwise (· < ·) := by
      rw [List.pairwise_map]
      refine (List.pairwise_iff_getElem.1 h.good.ctx.rise |> fun hh => List.pairwise_iff_getElem.2 fun i j hi hj hij => ?_)
      obtain ⟨_, e1⟩ := hdot _ (List.getElem_mem hi)
      obtain ⟨_, e2⟩ := hdot _ (List.getElem_mem hj)
      exact (rk_lt e1 e2 (hh i j hi hj hij)).1
    have := rise_len (a := 0) (b := 4) hp (fun n hn => by
      obtain ⟨x, hx, rfl⟩ := List.mem_map.1 hn
      obtain ⟨_, e⟩ := hdot x hx
      exact rk_bd e) (by decide)
    rw [List.length_map] at this
    omega
  have hmore : ∀ x ∈ o.ctx, x.more.length ≤ 60 := fun x hx => by
    have hc := (seenOk_iff.1 (h.good.ctx.ok x hx)).2.1
    have := rise_len (a := 0) (b := 60) hc.rise (fun n hn => by
      have h1 := hc.ab n hn
      have h2 := hc.lo
      have h3 := hnb x.node n (hasS_iff.2 ⟨x, hx, rfl, .inr hn⟩)
      omega) (by decide)
    omega
  refine ⟨?_, hlen, ?_⟩
  · have := room_bd hmore
    omega
  · have hp : (o.sibs.map fun x => rk x.node * 61 + x.n).Pairwise (· < ·) := by
      rw [List.pairwise_map]
      refine (List.pairwise_iff_getElem.1 h.good.rise |> fun hh => List.pairwise_iff_getElem.2 fun i j hi hj hij => ?_)
      obtain ⟨⟨_, e1⟩, b1, b2⟩ := hnb _ _ (h.good.ok _ (List.getElem_mem hi)).2
      obtain ⟨⟨_, e2⟩, b3, b4⟩ := hnb _ _ (h.good.ok _ (List.getElem_mem hj)).2
      have hl := hh i j hi hj hij
      simp only [lessX, lessD, Bool.or_eq_true, Bool.and_eq_true, decide_eq_true_eq] at hl
      rcases hl with hl | ⟨hl, hl2⟩
      · have := (rk_lt e1 e2 hl).1; omega
      · rw [hl]; omega
    have := rise_len (a := 0) (b := 304) hp (fun n hn => by
      obtain ⟨x, hx, rfl⟩ := List.mem_map.1 hn
      obtain ⟨⟨_, e⟩, b1, b2⟩ := hnb _ _ (h.good.ok x hx).2
      have := rk_bd e
      omega) (by decide)
    rw [List.length_map] at this
    have hx : (o.sibs.length : Int) ≤ 304 := by omega
    by_cases hh : o.sibs.length ≤ 300
    · exact hh
    · exact absurd hx (by
        have h4 := rise_len (a := 61) (b := 304) hp (fun n hn => by
          obtain ⟨x, hx, rfl⟩ := List.mem_map.1 hn
          obtain ⟨⟨_, e⟩, b1, b2⟩ := hnb _ _ (h.good.ok x hx).2
          have := rk_bd e
          omega) (by decide)
        rw [List.length_map] at h4
        omega)
section
variable {N : List Int} {D : List (ByteArray × Int)} {K : List (List Seen)} {a b o : Obj'}
theorem OI.okk (h : OI N D K o) (hN : ∀ c ∈ N, c ≤ 60) : objOk o = true ∧ ObjSm o := by
  obtain ⟨h1, h2, h3⟩ := h.small hN
  have hk : objOk o = true := objOk_iff.2 ⟨h.good, by omega⟩
  exact ⟨hk, sm_of hk (by omega) (by omega)⟩
theorem OI.merge (ha : OI N D K a) (hB : OI N D K b) (hN : ∀ c ∈ N, c ≤ 60) : mergeS a b = (mergeO a b, 0) ∧ OI N D K (mergeO a b) := by
  have h1 := ha.small hN; have h2 := hB.small hN
  refine ⟨(mergeS_ok (ha.okk hN).1 (hB.okk hN).1 (by omega)).1, merge_good ha.good hB.good, fun s n h => ?_, fun m d c hd hc h s n hs => ?_⟩
  · have h : hasS (joinAll a.ctx b.ctx) s n = true := h
    rw [(join_spec ha.good.ctx hB.good.ctx).2, Bool.or_eq_true] at h
    rcases h with h | h
    · exact ha.dots s n h
    · exact hB.dots s n h
  · have h : hasS (joinAll a.ctx b.ctx) d.1 d.2 = true := h
    rw [(join_spec ha.good.ctx hB.good.ctx).2, Bool.or_eq_true] at h
    rw [look_merge ha.good hB.good]
    rcases h with h | h
    · rw [ha.rel m d c hd hc h s n hs]
      cases look b s n <;> rfl
    · rw [hB.rel m d c hd hc h s n hs]
      cases look a s n <;> rfl
theorem OI.zero : OI N D K ⟨[], []⟩ := ⟨⟨ctxG_nil, .nil, fun x hx => by cases hx⟩, (fun s n h => by simp [hasS] at h), fun m d c _ _ h => by simp [hasS] at h⟩
theorem zero_merge (h : ObjG o) : mergeO ⟨[], []⟩ o = o := by
  have hz : ObjG ⟨[], []⟩ := ⟨ctxG_nil, .nil, fun x hx => by cases hx⟩
  refine obj_unique (merge_good hz h) h fun s n => ?_
  rw [look_merge hz h]
  have : look ⟨[], []⟩ s n = .un := rfl
  rw [this]
  cases look o s n <;> rfl
end
end Go.Proofs.YtbcgkbdacijoiaaGreat
end
