/-
  WHATEVER THE INPUT, 'pantlerlaw31.ReplicaPicks' RETURNS TRUE, AND WHAT WAS HANDED IN READS AS IT DID. Conditions: none.
-/
import Derived.Test.YtcaflcpcbcneiaaGreatGP
import Derived.Test.YtcaflcpcbcneiaaGreatGO
import Derived.Test.YtcaflcpcbcneiaaGreatGI
import Derived.Test.YtcaflcpcbcneiaaGreatGG
import Derived.Test.YtcaflcpcbcneiaaGreatRows
import Derived.WalkKit
import Derived.ProofKit
import Derived.OpenShut
import Derived.ShutString
import Derived.ChangeOld
import Derived.Below
set_option linter.all false
set_option maxRecDepth 100000
namespace Go.Proofs.YtcaflcpcbcneiaaGreat.replicaPicksDone
open Go.ChangeShapes Go.WideShapes Go.ChangeAt Go.RowKit Go.Ab

theorem own : ownKnob Tryz.prog.godebug = none := by kernel_rfl
theorem laidOut : laidOutB Tryz.prog = true := by kernel_rfl
/-! the shapes of what comes in -/
def sh0 : Go.Ab.Sh := .pair (.sl true (.pair (.str) (.pair (.pair (.sl true (.pair (.str) (.pair (.int .i64) (.pair (.sl false (.int .i64)) (.unit))))) (.pair (.sl true (.pair (.pair (.str) (.pair (.int .i64) (.unit))) (.pair (.str) (.pair (.bool) (.pair (.int .i64) (.unit)))))) (.unit))) (.unit)))) (.pair (.sl true (.pair (.str) (.pair (.int .i64) (.unit)))) (.unit))
def sh1 : Go.Ab.Sh := .str
def sh2 : Go.Ab.Sh := .pair (.int .i64) (.pair (.int .i64) (.pair (.int .i64) (.unit)))

theorem replicaPicks_law {a0 a1 a2 : AVal} (h0 : Go.Ab.Sh.okv sh0 true a0) (h1 : Go.Ab.Sh.okv sh1 false a1) (h2 : Go.Ab.Sh.okv sh2 true a2) : ai_ Tryz.prog 4 [a0, a1, a2] s0 fun v _ => v = eu_ true := by
  obtain ⟨b, rfl⟩ := rO_ h0
  obtain ⟨s, rfl⟩ := v1_ h1
  obtain ⟨n0, n1, n2, rfl⟩ := xl_ h2
  exact it_.wkS fun v σ' h => ⟨v, σ', .refl _, .refl _, h.1⟩


theorem lifted (os : Os) (started : os.Started) (H : Type) (enc : TypeId × Value → H) :
    ReturnsInHanded {} Tryz.checked os 4 .any (Rows.replicaPicksSpec.pre6 enc Tryz.prog Tryz.f4 Rows.replicaPicksRow.domain false) (Rows.replicaPicksSpec.post enc Tryz.prog Tryz.f4 false true false false) := by
  refine returnsInHanded_of_change (C := Tryz.checked) own started (by kernel_rfl) Tryz.func4
    (ChangeSpec.witness6 (enc := enc) (C := Tryz.checked) false ⟨#[], #[.agg #[.slice none 0 0, .slice none 0 0], .string ⟨#[]⟩, .agg #[.int .i64 0, .int .i64 0, .int .i64 0]], []⟩ 20 (by kernel_rfl) (by kernel_rfl) (by kernel_rfl) (by kernel_rfl)) ?_
  intro W base args ds gs before hval0 hW hcnd _
  have hval : ∀ (j : Nat) t v, Tryz.f4.params[j]? = some t → args[j]? = some v → Value.okWide Tryz.prog W .any base t v := hval0
  have hW' := hW
  obtain ⟨p, q, hA0, hV, rfl, hfz, hnd⟩ := hW
  have hA : DataW.TrodAll enc Tryz.prog W 0 (fun _ => true) true Tryz.f4.params.toList args.toList ds p := hA0
  rw [Tryz.params4] at hA hval
  obtain ⟨v0, vs0, d0, ds0, p0, q0, hargs, rfl, rfl, h0, r0⟩ := trodAll_cons hA
  obtain ⟨v1, vs1, d1, ds1, p1, q1, rfl, rfl, rfl, h1, r1⟩ := trodAll_cons r0
  obtain ⟨v2, vs2, d2, ds2, p2, q2, rfl, rfl, rfl, h2, r2⟩ := trodAll_cons r1
  obtain ⟨rfl, rfl, rfl⟩ := trodAll_nil r2
  obtain rfl : args = #[v0, v1, v2] := by cases args; simp_all
  obtain ⟨rfl, rfl⟩ := trodVars_none hV
  have lt0 : ∀ x ∈ p0, x.block < W.heap.size := by obtain ⟨m, hm⟩ := h0; exact DataW.trod_lt m _ _ _ hm
  have lt1 : ∀ x ∈ p1, x.block < W.heap.size := by obtain ⟨m, hm⟩ := h1; exact DataW.trod_lt m _ _ _ hm
  have lt2 : ∀ x ∈ p2, x.block < W.heap.size := by obtain ⟨m, hm⟩ := h2; exact DataW.trod_lt m _ _ _ hm
  obtain ⟨a0, e0, s0⟩ := cB_ (κ := kOf W) (dp_ W) (d := 20) (s := sh0) (g := true) (by kernel_rfl) (by kernel_rfl) (hval 0 _ v0 rfl rfl) h0
  obtain ⟨a1, e1, s1⟩ := cB_ (κ := kOf W) (dp_ W) (d := 20) (s := sh1) (g := false) (by kernel_rfl) (by kernel_rfl) (hval 1 _ v1 rfl rfl) h1
  obtain ⟨a2, e2, s2⟩ := cB_ (κ := kOf W) (dp_ W) (d := 20) (s := sh2) (g := true) (by kernel_rfl) (by kernel_rfl) (hval 2 _ v2 rfl rfl) h2
  clear hA0 hval0
  refine (dC_ (P := Tryz.prog) (W := W) (vs := #[v0, v1, v2]) (replicaPicks_law s0 s1 s2) rfl ?_).mono fun e W' ⟨he, bel⟩ => ?_
  · intro i hi
    match i, hi with
    | 0, _ => exact e0
    | 1, _ => exact e1
    | 2, _ => exact e2
  subst he
  exact ⟨_, rfl, _, _, _, [], _, [], hW', trodAll_mk1 (shut_bool Tryz.underlying4 _), (trodAll_cons_mk (Below.trod laidOut (by kernel_rfl) (of_decide_eq_true (by kernel_rfl)) h0 bel lt0) (trodAll_cons_mk (Below.trod laidOut (by kernel_rfl) (of_decide_eq_true (by kernel_rfl)) h1 bel lt1) (trodAll_cons_mk (Below.trod laidOut (by kernel_rfl) (of_decide_eq_true (by kernel_rfl)) h2 bel lt2) trodAll_mk0))), rfl, bel.frame _, fun h => by cases h⟩

theorem facts : joinedFacts Tryz.pinned.checked.prog 4 Tryz.f4 Rows.replicaPicksSpec Rows.replicaPicksRow = true := by kernel_rfl

theorem over : Rows.replicaPicksRow.holds Tryz.pinned (OpenSpec.ofChange Rows.replicaPicksSpec) :=
  OpenClaim.holds_of_wide 4 Tryz.f4 rfl rfl rfl rfl rfl rfl rfl ⟨rfl, rfl, rfl, rfl, rfl⟩ rfl rfl rfl rfl rfl (by kernel_rfl) Tryz.func4 facts
    (of_decide_eq_true (by kernel_rfl)) (by unfold Func.isWrapper; first | (rw [if_pos (by decide +kernel)]; kernel_rfl) | (rw [if_neg (by decide +kernel)]; exact ⟨rfl, rfl⟩))
    (fun os started H enc _ => lifted os started H enc)

theorem proved : Rows.ReplicaPicksSaid := over
#print axioms proved
end Go.Proofs.YtcaflcpcbcneiaaGreat.replicaPicksDone
