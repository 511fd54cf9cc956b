/-
  WHATEVER THE INPUT, 'pantlerlaw31.ReplicaReaps' RETURNS TRUE, AND WHAT WAS HANDED IN READS AS IT DID. Conditions: none.
-/
import Derived.Test.YtcaflcpcbcneiaaGreatGQ
import Derived.Test.YtcaflcpcbcneiaaGreatGI
import Derived.Test.YtcaflcpcbcneiaaGreatGG
import Derived.Test.YtcaflcpcbcneiaaGreatRows
import Derived.WalkKit
import Derived.ProofKit
import Derived.OpenShut
import Derived.ShutString
import Derived.ChangeOld
import Derived.Below
set_option linter.all false
set_option maxRecDepth 100000
namespace Go.Proofs.YtcaflcpcbcneiaaGreat.replicaReapsDone
open Go.ChangeShapes Go.WideShapes Go.ChangeAt Go.RowKit Go.Ab

theorem own : ownKnob Tryz.prog.godebug = none := by kernel_rfl
theorem laidOut : laidOutB Tryz.prog = true := by kernel_rfl
/-! the shapes of what comes in -/
def sh0 : Go.Ab.Sh := .pair (.sl true (.pair (.str) (.pair (.pair (.sl true (.pair (.str) (.pair (.int .i64) (.pair (.sl false (.int .i64)) (.unit))))) (.pair (.sl true (.pair (.pair (.str) (.pair (.int .i64) (.unit))) (.pair (.str) (.pair (.bool) (.pair (.int .i64) (.unit)))))) (.unit))) (.unit)))) (.pair (.sl true (.pair (.str) (.pair (.int .i64) (.unit)))) (.unit))
def sh1 : Go.Ab.Sh := .int .i64

theorem replicaReaps_law {a0 a1 : AVal} (h0 : Go.Ab.Sh.okv sh0 true a0) (h1 : Go.Ab.Sh.okv sh1 false a1) : ai_ Tryz.prog 6 [a0, a1] s0 fun v _ => v = eu_ true := by
  obtain ⟨b, rfl⟩ := rO_ h0
  obtain ⟨t, rfl⟩ := sM_ h1
  exact iu_.wkS fun v σ' h => ⟨v, σ', .refl _, .refl _, h.1⟩


theorem lifted (os : Os) (started : os.Started) (H : Type) (enc : TypeId × Value → H) :
    ReturnsInHanded {} Tryz.checked os 6 .any (Rows.replicaReapsSpec.pre6 enc Tryz.prog Tryz.f6 Rows.replicaReapsRow.domain false) (Rows.replicaReapsSpec.post enc Tryz.prog Tryz.f6 false true false false) := by
  refine returnsInHanded_of_change (C := Tryz.checked) own started (by kernel_rfl) Tryz.func6
    (ChangeSpec.witness6 (enc := enc) (C := Tryz.checked) false ⟨#[], #[.agg #[.slice none 0 0, .slice none 0 0], .int .i64 0], []⟩ 20 (by kernel_rfl) (by kernel_rfl) (by kernel_rfl) (by kernel_rfl)) ?_
  intro W base args ds gs before hval0 hW hcnd _
  have hval : ∀ (j : Nat) t v, Tryz.f6.params[j]? = some t → args[j]? = some v → Value.okWide Tryz.prog W .any base t v := hval0
  have hW' := hW
  obtain ⟨p, q, hA0, hV, rfl, hfz, hnd⟩ := hW
  have hA : DataW.TrodAll enc Tryz.prog W 0 (fun _ => true) true Tryz.f6.params.toList args.toList ds p := hA0
  rw [Tryz.params6] at hA hval
  obtain ⟨v0, vs0, d0, ds0, p0, q0, hargs, rfl, rfl, h0, r0⟩ := trodAll_cons hA
  obtain ⟨v1, vs1, d1, ds1, p1, q1, rfl, rfl, rfl, h1, r1⟩ := trodAll_cons r0
  obtain ⟨rfl, rfl, rfl⟩ := trodAll_nil r1
  obtain rfl : args = #[v0, v1] := by cases args; simp_all
  obtain ⟨rfl, rfl⟩ := trodVars_none hV
  have lt0 : ∀ x ∈ p0, x.block < W.heap.size := by obtain ⟨m, hm⟩ := h0; exact DataW.trod_lt m _ _ _ hm
  have lt1 : ∀ x ∈ p1, x.block < W.heap.size := by obtain ⟨m, hm⟩ := h1; exact DataW.trod_lt m _ _ _ hm
  obtain ⟨a0, e0, s0⟩ := cB_ (κ := kOf W) (dp_ W) (d := 20) (s := sh0) (g := true) (by kernel_rfl) (by kernel_rfl) (hval 0 _ v0 rfl rfl) h0
  obtain ⟨a1, e1, s1⟩ := cB_ (κ := kOf W) (dp_ W) (d := 20) (s := sh1) (g := false) (by kernel_rfl) (by kernel_rfl) (hval 1 _ v1 rfl rfl) h1
  clear hA0 hval0
  refine (dC_ (P := Tryz.prog) (W := W) (vs := #[v0, v1]) (replicaReaps_law s0 s1) rfl ?_).mono fun e W' ⟨he, bel⟩ => ?_
  · intro i hi
    match i, hi with
    | 0, _ => exact e0
    | 1, _ => exact e1
  subst he
  exact ⟨_, rfl, _, _, _, [], _, [], hW', trodAll_mk1 (shut_bool Tryz.underlying4 _), (trodAll_cons_mk (Below.trod laidOut (by kernel_rfl) (of_decide_eq_true (by kernel_rfl)) h0 bel lt0) (trodAll_cons_mk (Below.trod laidOut (by kernel_rfl) (of_decide_eq_true (by kernel_rfl)) h1 bel lt1) trodAll_mk0)), rfl, bel.frame _, fun h => by cases h⟩

theorem facts : joinedFacts Tryz.pinned.checked.prog 6 Tryz.f6 Rows.replicaReapsSpec Rows.replicaReapsRow = true := by kernel_rfl

theorem over : Rows.replicaReapsRow.holds Tryz.pinned (OpenSpec.ofChange Rows.replicaReapsSpec) :=
  OpenClaim.holds_of_wide 6 Tryz.f6 rfl rfl rfl rfl rfl rfl rfl ⟨rfl, rfl, rfl, rfl, rfl⟩ rfl rfl rfl rfl rfl (by kernel_rfl) Tryz.func6 facts
    (of_decide_eq_true (by kernel_rfl)) (by unfold Func.isWrapper; first | (rw [if_pos (by decide +kernel)]; kernel_rfl) | (rw [if_neg (by decide +kernel)]; exact ⟨rfl, rfl⟩))
    (fun os started H enc _ => lifted os started H enc)

theorem proved : Rows.ReplicaReapsSaid := over
#print axioms proved
end Go.Proofs.YtcaflcpcbcneiaaGreat.replicaReapsDone
