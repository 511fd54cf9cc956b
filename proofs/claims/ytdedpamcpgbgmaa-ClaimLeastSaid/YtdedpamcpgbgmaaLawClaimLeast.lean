/-
  WHATEVER THE INPUT, 'pantlerlaw19.ClaimLeast' RETURNS TRUE, AND WHAT WAS HANDED IN READS AS IT DID. Conditions: none.
-/
import Derived.Test.YtdedpamcpgbgmaaClaimL
import Derived.Test.YtdedpamcpgbgmaaAbRead
import Derived.Test.YtdedpamcpgbgmaaRows
import Derived.WalkKit
import Derived.ProofKit
import Derived.OpenShut
import Derived.ShutString
import Derived.ChangeOld
import Derived.Below
set_option linter.all false
set_option maxRecDepth 100000
namespace Go.Proofs.Ytdedpamcpgbgmaa.claimLeastDone
open Go.ChangeShapes Go.WideShapes Go.ChangeAt Go.RowKit Go.Ab

theorem own : ownKnob Try.prog.godebug = none := by kernel_rfl
theorem laidOut : laidOutB Try.prog = true := by kernel_rfl
/-! the shapes of what comes in -/
def sh0 : Go.Ab.Sh := .sl false (.str)
def sh1 : Go.Ab.Sh := .sl false (.str)

theorem claimLeast_law {a0 a1 : AVal} (h0 : Go.Ab.Sh.okv sh0 false a0) (h1 : Go.Ab.Sh.okv sh1 false a1) : ACalls Try.prog 11 [a0, a1] s0 fun v _ => v = vBool true := by
  obtain ⟨_, ⟨l, rfl, _, hl⟩, e⟩ := h0
  obtain ⟨_, ⟨r, rfl, _, hr⟩, e1⟩ := h1
  simp only [Bool.false_eq_true, if_false, List.cons.injEq, and_true] at e e1
  subst e e1
  obtain ⟨zs, rfl⟩ := list_of sS (l := l) fun x hx => by
    obtain ⟨c, ⟨t, rfl, _⟩, e⟩ := hl x hx
    simp only [Bool.false_eq_true, if_false, List.cons.injEq, and_true] at e
    exact ⟨t, e.symm⟩
  obtain ⟨ws, rfl⟩ := list_of sS (l := r) fun x hx => by
    obtain ⟨c, ⟨t, rfl, _⟩, e⟩ := hr x hx
    simp only [Bool.false_eq_true, if_false, List.cons.injEq, and_true] at e
    exact ⟨t, e.symm⟩
  exact claimLeast_c

theorem lifted (os : Os) (started : os.Started) (H : Type) (enc : TypeId × Value → H) :
    ReturnsInHanded {} Try.checked os 11 .any (Rows.claimLeastSpec.pre6 enc Try.prog Try.f11 Rows.claimLeastRow.domain false) (Rows.claimLeastSpec.post enc Try.prog Try.f11 false true false false) := by
  refine returnsInHanded_of_change (C := Try.checked) own started (by kernel_rfl) Try.func11
    (ChangeSpec.witness6 (enc := enc) (C := Try.checked) false ⟨#[], #[.slice none 0 0, .slice none 0 0], []⟩ 20 (by kernel_rfl) (by kernel_rfl) (by kernel_rfl) (by kernel_rfl)) ?_
  intro W base args ds gs before hval0 hW hcnd _
  have hval : ∀ (j : Nat) t v, Try.f11.params[j]? = some t → args[j]? = some v → Value.okWide Try.prog W .any base t v := hval0
  have hW' := hW
  obtain ⟨p, q, hA0, hV, rfl, hfz, hnd⟩ := hW
  have hA : DataW.TrodAll enc Try.prog W 0 (fun _ => true) true Try.f11.params.toList args.toList ds p := hA0
  rw [Try.params11] at hA hval
  obtain ⟨v0, vs0, d0, ds0, p0, q0, hargs, rfl, rfl, h0, r0⟩ := trodAll_cons hA
  obtain ⟨v1, vs1, d1, ds1, p1, q1, rfl, rfl, rfl, h1, r1⟩ := trodAll_cons r0
  obtain ⟨rfl, rfl, rfl⟩ := trodAll_nil r1
  obtain rfl : args = #[v0, v1] := by cases args; simp_all
  obtain ⟨rfl, rfl⟩ := trodVars_none hV
  have lt0 : ∀ x ∈ p0, x.block < W.heap.size := by obtain ⟨m, hm⟩ := h0; exact DataW.trod_lt m _ _ _ hm
  have lt1 : ∀ x ∈ p1, x.block < W.heap.size := by obtain ⟨m, hm⟩ := h1; exact DataW.trod_lt m _ _ _ hm
  obtain ⟨a0, e0, s0⟩ := read_arg (κ := kOf W) (kOf_imm W) (d := 20) (s := sh0) (g := false) (by kernel_rfl) (by kernel_rfl) (hval 0 75 v0 rfl rfl) h0
  obtain ⟨a1, e1, s1⟩ := read_arg (κ := kOf W) (kOf_imm W) (d := 20) (s := sh1) (g := false) (by kernel_rfl) (by kernel_rfl) (hval 1 75 v1 rfl rfl) h1
  clear hA0 hval0
  refine (calls_of_law (P := Try.prog) (W := W) (vs := #[v0, v1]) (claimLeast_law s0 s1) rfl ?_).mono fun e W' ⟨he, bel⟩ => ?_
  · intro i hi
    match i, hi with
    | 0, _ => exact e0
    | 1, _ => exact e1
  subst he
  exact ⟨_, rfl, _, _, _, [], _, [], hW', trodAll_mk1 (shut_bool Try.underlying4 _), (trodAll_cons_mk (Below.trod laidOut (by kernel_rfl) (of_decide_eq_true (by kernel_rfl)) h0 bel lt0) (trodAll_cons_mk (Below.trod laidOut (by kernel_rfl) (of_decide_eq_true (by kernel_rfl)) h1 bel lt1) trodAll_mk0)), rfl, bel.frame _, fun h => by cases h⟩

theorem over : Rows.claimLeastRow.holds Try.pinned (OpenSpec.ofChange Rows.claimLeastSpec) :=
  OpenClaim.holds_of_wide 11 Try.f11 rfl rfl rfl rfl rfl rfl rfl ⟨rfl, rfl, rfl, rfl, rfl⟩ rfl rfl rfl rfl rfl (by kernel_rfl) Try.func11 (by kernel_rfl)
    (of_decide_eq_true (by kernel_rfl)) (by unfold Func.isWrapper; first | (rw [if_pos (by decide +kernel)]; kernel_rfl) | (rw [if_neg (by decide +kernel)]; exact ⟨rfl, rfl⟩))
    (fun os started H enc _ => lifted os started H enc)

theorem proved : Rows.ClaimLeastSaid := over
#print axioms proved
end Go.Proofs.Ytdedpamcpgbgmaa.claimLeastDone
