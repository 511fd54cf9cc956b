/-
  WHATEVER THE INPUT, 'pantlerlaw36.ReaderNobody' RETURNS TRUE, AND WHAT WAS HANDED IN READS AS IT DID. Conditions: none.
-/
import Derived.Test.YtbcgkbdacijoiaaGreatGK
import Derived.Test.YtbcgkbdacijoiaaGreatGI
import Derived.Test.YtbcgkbdacijoiaaGreatGG
import Derived.Test.YtbcgkbdacijoiaaGreatRows
import Derived.WalkKit
import Derived.ProofKit
import Derived.OpenShut
import Derived.ShutString
import Derived.ChangeOld
import Derived.Below
set_option linter.all false
set_option maxRecDepth 100000
namespace Go.Proofs.YtbcgkbdacijoiaaGreat.readerNobodyDone
open Go.ChangeShapes Go.WideShapes Go.ChangeAt Go.RowKit Go.Ab

theorem own : ownKnob Tryz.prog.godebug = none := by kernel_rfl
theorem laidOut : laidOutB Tryz.prog = true := by kernel_rfl
/-! the shapes of what comes in -/
def sh0 : Sh := .pair (.int .i64) (.pair (.str) (.pair (.pair (.sl true (.pair (.str) (.pair (.int .i64) (.pair (.sl false (.int .i64)) (.unit))))) (.pair (.sl true (.pair (.pair (.str) (.pair (.int .i64) (.unit))) (.pair (.str) (.pair (.bool) (.pair (.int .i64) (.unit)))))) (.unit))) (.unit)))

theorem readerNobody_law {a0 : AVal} (h0 : Go.Ab.Sh.okv sh0 true a0) : ACalls Tryz.prog 4 [a0] s0 fun v _ => v = vBool true := by
  obtain ⟨a, rfl⟩ := rv_ac h0
  exact readerNobody_c.wkS fun v σ' h => ⟨v, σ', .refl _, .refl _, h.1⟩

theorem lifted (os : Os) (started : os.Started) (H : Type) (enc : TypeId × Value → H) :
    ReturnsInHanded {} Tryz.checked os 4 .any (Rows.readerNobodySpec.pre6 enc Tryz.prog Tryz.f4 Rows.readerNobodyRow.domain false) (Rows.readerNobodySpec.post enc Tryz.prog Tryz.f4 false true false false) := by
  refine returnsInHanded_of_change (C := Tryz.checked) own started (by kernel_rfl) Tryz.func4
    (ChangeSpec.witness6 (enc := enc) (C := Tryz.checked) false ⟨#[], #[.agg #[.int .i64 0, .string ⟨#[]⟩, .slice none 0 0, .slice none 0 0]], []⟩ 20 (by kernel_rfl) (by kernel_rfl) (by kernel_rfl) (by kernel_rfl)) ?_
  intro W base args ds gs before hval0 hW hcnd _
  have hval : ∀ (j : Nat) t v, Tryz.f4.params[j]? = some t → args[j]? = some v → Value.okWide Tryz.prog W .any base t v := hval0
  have hW' := hW
  obtain ⟨p, q, hA0, hV, rfl, hfz, hnd⟩ := hW
  have hA : DataW.TrodAll enc Tryz.prog W 0 (fun _ => true) true Tryz.f4.params.toList args.toList ds p := hA0
  rw [Tryz.params4] at hA hval
  obtain ⟨v0, vs0, d0, ds0, p0, q0, hargs, rfl, rfl, h0, r0⟩ := trodAll_cons hA
  obtain ⟨rfl, rfl, rfl⟩ := trodAll_nil r0
  obtain rfl : args = #[v0] := by cases args; simp_all
  obtain ⟨rfl, rfl⟩ := trodVars_none hV
  have lt0 : ∀ x ∈ p0, x.block < W.heap.size := by obtain ⟨m, hm⟩ := h0; exact DataW.trod_lt m _ _ _ hm
  obtain ⟨a0, e0, s0⟩ := read_arg (κ := kOf W) (kOf_imm W) (d := 20) (s := sh0) (g := true) (by kernel_rfl) (by kernel_rfl) (hval 0 _ v0 rfl rfl) h0
  clear hA0 hval0
  refine (calls_of_law (P := Tryz.prog) (W := W) (vs := #[v0]) (readerNobody_law s0) rfl ?_).mono fun e W' ⟨he, bel⟩ => ?_
  · intro i hi
    match i, hi with
    | 0, _ => exact e0
  subst he
  exact ⟨_, rfl, _, _, _, [], _, [], hW', trodAll_mk1 (shut_bool Tryz.underlying4 _), (trodAll_cons_mk (Below.trod laidOut (by kernel_rfl) (of_decide_eq_true (by kernel_rfl)) h0 bel lt0) trodAll_mk0), rfl, bel.frame _, fun h => by cases h⟩

theorem facts : joinedFacts Tryz.pinned.checked.prog 4 Tryz.f4 Rows.readerNobodySpec Rows.readerNobodyRow = true := by kernel_rfl

theorem over : Rows.readerNobodyRow.holds Tryz.pinned (OpenSpec.ofChange Rows.readerNobodySpec) :=
  OpenClaim.holds_of_wide 4 Tryz.f4 rfl rfl rfl rfl rfl rfl rfl ⟨rfl, rfl, rfl, rfl, rfl⟩ rfl rfl rfl rfl rfl (by kernel_rfl) Tryz.func4 facts
    (of_decide_eq_true (by kernel_rfl)) (by unfold Func.isWrapper; first | (rw [if_pos (by decide +kernel)]; kernel_rfl) | (rw [if_neg (by decide +kernel)]; exact ⟨rfl, rfl⟩))
    (fun os started H enc _ => lifted os started H enc)

theorem proved : Rows.ReaderNobodySaid := over
#print axioms proved
end Go.Proofs.YtbcgkbdacijoiaaGreat.readerNobodyDone
