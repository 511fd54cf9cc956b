/-
  WHATEVER THE INPUT, 'pantlerlaw56.LintAdmin' RETURNS TRUE, AND WHAT WAS HANDED IN READS AS IT DID. Conditions: none.
-/
import Derived.Test.YtkcmbjodladflaaGreatDoorGO
import Derived.Test.YtkcmbjodladflaaGreatDoorGK
import Derived.Test.YtkcmbjodladflaaGreatDoorGE
import Derived.Test.YtkcmbjodladflaaGreatDoorRows
import Derived.Test.YtkcmbjodladflaaGreatDoorTie
import Derived.Test.YtkcmbjodladflaaGreatDoorCards
import Derived.SevenTiedAt
import Derived.LaidMore
import Derived.Lay
import Derived.LaidLaws
import Derived.LaidHandle
import Derived.MakeChecks
import Derived.Lib.LaidTab
import Derived.Stop.LaidErr
import Derived.Stop.Joined
import Derived.WalkKit
import Derived.ProofKit
import Derived.OpenShut
import Derived.ShutString
import Derived.ChangeOld
import Derived.Below
set_option linter.all false
set_option maxRecDepth 100000
namespace Go.Proofs.YtkcmbjodladflaaGreatDoor.lintAdminDone
open Go.ChangeShapes Go.WideShapes Go.ChangeAt Go.RowKit Go.Ab

theorem own : ownKnob Tryz.prog.godebug = none := by kernel_rfl
theorem laidOut : laidOutB Tryz.prog = true := by kernel_rfl
/-! the shapes of what comes in -/
def sh0 : Go.Ab.Sh := .sl true (.pair (.str) (.pair (.pair (.int .i64) (.pair (.str) (.pair (.str) (.unit)))) (.unit)))
def sh1 : Go.Ab.Sh := .pair (.int .i64) (.pair (.str) (.pair (.str) (.pair (.str) (.pair (.str) (.pair (.int .i64) (.pair (.pair (.str) (.pair (.str) (.pair (.str) (.pair (.bool) (.unit))))) (.unit)))))))

abbrev laidL : List (String × DataW Unit) := [("math/bits.deBruijn32tab", Rows.laid_math_bits_deBruijn32tab), ("math/bits.deBruijn64tab", Rows.laid_math_bits_deBruijn64tab), ("internal/strconv.uint64pow10", Rows.laid_internal_strconv_uint64pow10), ("unicode/utf8.acceptRanges", Rows.laid_unicode_utf8_acceptRanges), ("strconv.ErrRange", Rows.laid_strconv_ErrRange), ("strconv.ErrSyntax", Rows.laid_strconv_ErrSyntax), ("unicode/utf8.first", Rows.laid_unicode_utf8_first)]
/-- a world that meets the condition -/
theorem door_met (os : Os) (args : Array Value) : laidMetH Tryz.prog laidL ((World.laidAll Tryz.prog os laidL).forCall (fun _ _ => 0) ⟨#[], args, []⟩).memory := by
  rw [MakeChecks.laidMetH_plain _ _ _ (by kernel_rfl)]
  exact laidMet_laidAll _ (by kernel_rfl) (by kernel_rfl)
theorem star : "*" ++ "errors.errorString" = "*errors.errorString" := by decide
theorem rowErr (u : TypeId) (h : Tryz.prog.typeName? 3 u = some "*errors.errorString") : u = 262 :=
  typeName_ptr_named (nm := "errors.errorString") (by rw [star]; kernel_rfl) (by kernel_rfl) (by decide) u (by rw [star]; exact h)
theorem var_glob {W : World} {n : String} {g : Nat} {cs : Array Value} (hg : Tryz.prog.globalNamed n = some g) (h : W.var? Tryz.prog n = some cs) : g < W.heap.size ∧ ∃ e fr, W.heap[g]? = some (.cells cs e fr) := by
  unfold World.var? at h
  rw [hg] at h
  simp only [Option.bind_some] at h
  cases hw : W.heap[g]? with
  | none => rw [hw] at h; cases h
  | some ob =>
    cases ob <;> rw [hw] at h <;> first | (cases h; done) | skip
    rename_i cs' e fr
    exact ⟨(Array.getElem?_eq_some_iff.1 hw).1, e, fr, by rw [Option.some.inj h]⟩
/-- what the walks ask of the program's variables, out of the condition -/
theorem glob_of {W : World} (hL : laidMetH Tryz.prog laidL W) : Glob W W.heap.size := by
  rw [MakeChecks.laidMetH_plain _ _ _ (by kernel_rfl)] at hL
  have h2 := Lib.tabIs_of_head (k := .u64) (zs := Lib.pow10Tab) (g := 3) (t := 266) (e := 187) (n := 20) (by kernel_rfl) (by kernel_rfl) Tryz.underlying266 Tryz.underlying187 (by kernel_rfl) (by kernel_rfl) (hL.tail.tail)
  obtain ⟨a0, s0, v0, _⟩ := laid_sentinel (g := 1) (hL.tail.tail.tail.tail.tail) (by kernel_rfl) (by kernel_rfl) Tryz.underlying147 rowErr Tryz.underlying262 Tryz.underlying264 rfl rfl Tryz.underlying9 (by kernel_rfl) (by kernel_rfl)
  obtain ⟨a1, s1, v1, _⟩ := laid_sentinel (g := 2) (hL.tail.tail.tail.tail) (by kernel_rfl) (by kernel_rfl) Tryz.underlying147 rowErr Tryz.underlying262 Tryz.underlying264 rfl rfl Tryz.underlying9 (by kernel_rfl) (by kernel_rfl)
  obtain ⟨l0, e0, f0, w0⟩ := var_glob (g := 1) (by kernel_rfl) v0
  obtain ⟨l1, e1, f1, w1⟩ := var_glob (g := 2) (by kernel_rfl) v1
  unfold Lib.TabIs at h2
  obtain ⟨l2, e2, f2, w2⟩ := var_glob (g := 3) (by kernel_rfl) h2
  intro p hp
  rcases List.mem_cons.1 hp with rfl | hp
  · exact ⟨l0, _, e0, f0, w0, _, _, rfl⟩
  · rcases List.mem_cons.1 hp with rfl | hp
    · exact ⟨l1, _, e1, f1, w1, _, _, rfl⟩
    · obtain rfl := List.mem_singleton.1 hp
      exact ⟨l2, _, e2, f2, w2, rfl⟩

theorem lintAdmin_law {a0 a1 : AVal} (h0 : Go.Ab.Sh.okv sh0 false a0) (h1 : Go.Ab.Sh.okv sh1 true a1) : ao_ Tryz.prog 7 [a0, a1] s0 fun v _ => v = he_ true := by
  obtain ⟨l, rfl⟩ := qi_ h0
  obtain ⟨a, rfl, n0, n1⟩ := rW_ h1
  exact (iw_ n0 n1).wkS fun v σ' h => ⟨v, σ', .refl _, .refl _, h.1⟩

theorem lifted (os : Os) (started : os.Started) (H : Type) (enc : TypeId × Value → H) :
    ReturnsInHanded {} Tryz.checked os 7 .any (fun w args => (Rows.lintAdminSpec.pre enc Tryz.prog Tryz.f7 [] false w args ∧ laidMetH Tryz.prog laidL w) ∧ sizedMet enc Tryz.prog Tryz.f7 (OpenSpec.ofChange Rows.lintAdminSpec) false w args) (Rows.lintAdminSpec.post enc Tryz.prog Tryz.f7 false true false false) := by
  refine returnsInHanded_of_change_and (C := Tryz.checked) (X := fun w _ => laidMetH Tryz.prog laidL w) (fun _ _ _ hh h => h.of_heap hh) own started (by kernel_rfl) Tryz.func7
    (ChangeSpec.witness_shaped (enc := enc) (C := Tryz.checked) (os := os) (X := fun w _ => laidMetH Tryz.prog laidL w) false (World.laidAll Tryz.prog os laidL) #[.slice none 0 0, .agg #[.int .i64 0, .string ⟨#[]⟩, .string ⟨#[]⟩, .string ⟨#[]⟩, .string ⟨#[]⟩, .int .i64 0, .string ⟨#[]⟩, .string ⟨#[]⟩, .string ⟨#[]⟩, .bool false]] 20 (World.laidAll_os _ _ _) (World.shaped_of_ZipB (by kernel_rfl) (by kernel_rfl)) (by kernel_rfl) (by kernel_rfl) (by kernel_rfl) (door_met os _)) ?_
  intro W base args ds gs before hval0 hW _ _ hL _
  have hval : ∀ (j : Nat) t v, Tryz.f7.params[j]? = some t → args[j]? = some v → Value.okWide Tryz.prog W .any base t v := hval0
  have hW' := hW
  obtain ⟨p, q, hA0, hV, rfl, hfz, hnd⟩ := hW
  have hA : DataW.TrodAll enc Tryz.prog W 0 (fun _ => true) true Tryz.f7.params.toList args.toList ds p := hA0
  rw [Tryz.params7] at hA hval
  obtain ⟨v0, vs0, d0, ds0, p0, q0, hargs, rfl, rfl, h0, r0⟩ := trodAll_cons hA
  obtain ⟨v1, vs1, d1, ds1, p1, q1, rfl, rfl, rfl, h1, r1⟩ := trodAll_cons r0
  obtain ⟨rfl, rfl, rfl⟩ := trodAll_nil r1
  obtain rfl : args = #[v0, v1] := by cases args; simp_all
  obtain ⟨rfl, rfl⟩ := trodVars_none hV
  have lt0 : ∀ x ∈ p0, x.block < W.heap.size := by obtain ⟨m, hm⟩ := h0; exact DataW.trod_lt m _ _ _ hm
  have lt1 : ∀ x ∈ p1, x.block < W.heap.size := by obtain ⟨m, hm⟩ := h1; exact DataW.trod_lt m _ _ _ hm
  obtain ⟨a0, e0, s0⟩ := jE_ (κ := kOf W) (lB_ W) (d := 20) (s := sh0) (g := false) (by kernel_rfl) (by kernel_rfl) (hval 0 _ v0 rfl rfl) h0
  obtain ⟨a1, e1, s1⟩ := jE_ (κ := kOf W) (lB_ W) (d := 20) (s := sh1) (g := true) (by kernel_rfl) (by kernel_rfl) (hval 1 _ v1 rfl rfl) h1
  clear hA0 hval0
  refine (hu_ (P := Tryz.prog) (W := W) (vs := #[v0, v1]) (lintAdmin_law s0 s1) rfl ?_ (glob_of hL)).mono fun e W' ⟨he, bel⟩ => ?_
  · intro i hi
    match i, hi with
    | 0, _ => exact e0
    | 1, _ => exact e1
  subst he
  exact ⟨_, rfl, _, _, _, [], _, [], hW', trodAll_mk1 (shut_bool Tryz.underlying4 _), (trodAll_cons_mk (Below.trod laidOut (by kernel_rfl) (of_decide_eq_true (by kernel_rfl)) h0 bel lt0) (trodAll_cons_mk (Below.trod laidOut (by kernel_rfl) (of_decide_eq_true (by kernel_rfl)) h1 bel lt1) trodAll_mk0)), rfl, bel.frame _, fun h => by cases h⟩

theorem facts : joinedFacts Tryz.prog 7 Tryz.f7 Rows.lintAdminSpec Rows.lintAdminRow = true := by kernel_rfl
theorem over : Rows.lintAdminRow.holds Tryz.pinned (OpenSpec.ofChange Rows.lintAdminSpec) :=
  OpenClaim.holds_of_wide 7 Tryz.f7 rfl rfl rfl rfl rfl rfl rfl ⟨rfl, rfl, rfl, rfl, rfl⟩ rfl rfl rfl rfl rfl (by kernel_rfl) Tryz.func7 facts
    (of_decide_eq_true (by kernel_rfl)) (by unfold Func.isWrapper; first | (rw [if_pos (by decide +kernel)]; kernel_rfl) | (rw [if_neg (by decide +kernel)]; exact ⟨rfl, rfl⟩))
    (fun os started H enc _ => lifted os started H enc)

theorem proved : Rows.LintAdminCardSaid :=
  Claim7.holds_tied_plain_at .later [] [.data, .data, .data, .data, .sentinel, .sentinel, .pinned] true (true, "fa257fb8e6c8c364e6a0ceb9276e4f849d851485631c0024ce5236b4f886fe2b") true
    over (fun _ h => by cases h) (by kernel_rfl) (fun _ h => by cases h) lintAdmin_row_tie rfl ⟨rfl, rfl⟩ (by kernel_rfl) rfl
    (fun f fn hf hfn => by
      obtain rfl : f = 7 := Option.some.inj ((show Tryz.prog.funcNamed "pantler/pantlerlaw56.LintAdmin" = some 7 by kernel_rfl).symm.trans hf) |>.symm
      obtain rfl : fn = Tryz.f7 := (Option.some.inj (Tryz.func7.symm.trans hfn)).symm
      exact ⟨by kernel_rfl, fun j t ht => by
        have ht' : (Tryz.f7.params)[j]? = some t := ht
        have hm := Array.mem_of_getElem? ht'
        have hall : (Tryz.f7.params.toList.all fun u => !Tryz.prog.wantsStandIn u) = true := by kernel_rfl
        exact (show Tryz.prog.wantsStandIn t = false by simpa using List.all_eq_true.1 hall t (by simpa using hm))⟩)
    (by kernel_rfl)
#print axioms proved
end Go.Proofs.YtkcmbjodladflaaGreatDoor.lintAdminDone
