/-
  DEEDS, as they come in. Own work (an AI agent).
-/
import Derived.Test.YtbjloippgpilcaaGreatDoorGF
import Derived.Test.YtbjloippgpilcaaGreatDoorGG

section
set_option linter.all false
set_option maxRecDepth 100000
namespace Go.Proofs.YtbjloippgpilcaaGreatDoor
open Go.Ab
abbrev shDeed : Sh := .pair .str (.pair .str (.pair (.int .i64) (.pair (.int .i64) (.pair (.int .i64) (.pair (.int .i64) (.pair (.pair (.int .i64) (.pair .str (.pair .str (.pair .str (.pair .str (.pair shCtx (.pair (.int .i64) .unit))))))) (.pair .bool (.pair (.pair (.int .i64) (.pair (.sl true shSib) (.pair shCtx (.pair (.sl false .str) (.pair shDot .unit))))) .unit))))))))
theorem rd_texts {c : List AVal} (h : (Sh.sl false .str).ok c) : ∃ l : List ByteArray, c = [.sl 1 (l.map vStr) false] := by
  obtain ⟨l, rfl, _, hl⟩ := h
  obtain ⟨zs, rfl⟩ := list_of vStr (l := l) fun x hx => by
    obtain ⟨c, ⟨s, rfl, _⟩, e⟩ := hl x hx
    simp only [Bool.false_eq_true, if_false, List.cons.injEq, and_true] at e
    exact ⟨s, e.symm⟩
  exact ⟨zs, rfl⟩
theorem wf_both {n : Int} (h : (Lit.int .i64 n).wf = true) : -9223372036854775808 ≤ n ∧ n ≤ 9223372036854775807 := by
  simp only [Lit.wf, Bool.and_eq_true, decide_eq_true_eq] at h
  exact ⟨Int.le_trans (by decide) h.1, Int.le_trans h.2 (by decide)⟩
theorem rd_deed {c : List AVal} (h : shDeed.ok c) : ∃ x : Deed, .agg c = sDeed x ∧ DeedI x := by
  obtain ⟨_, _, rfl, ⟨nd, rfl, _⟩, _, _, rfl, ⟨ln, rfl, _⟩, _, _, rfl, ⟨op, rfl, _⟩, _, _, rfl, ⟨bg, rfl, hb⟩, _, _, rfl, ⟨fn, rfl, hf⟩, _, _, rfl, ⟨tk, rfl, _⟩, _, _, rfl, ⟨_, _, rfl, ⟨kd, rfl, hk⟩, _, _, rfl, ⟨to, rfl, _⟩, _, _, rfl, ⟨bu, rfl, _⟩, _, _, rfl, ⟨ky, rfl, _⟩, _, _, rfl, ⟨va, rfl, _⟩, _, _, rfl, hc, _, _, rfl, ⟨ti, rfl, _⟩, rfl⟩, _, _, rfl, ⟨dn, rfl⟩, _, _, rfl, ⟨_, _, rfl, ⟨er, rfl, he⟩, _, _, rfl, hs, _, _, rfl, ha, _, _, rfl, hk2, _, _, rfl, ⟨_, _, rfl, ⟨dnode, rfl, _⟩, _, _, rfl, ⟨dN, rfl, _⟩, rfl⟩, rfl⟩, rfl⟩ := h
  obtain ⟨cc, rfl⟩ := rd_ctx hc
  obtain ⟨sb, rfl⟩ := rd_sl sSib (fun c hc => rd_sib hc) hs
  obtain ⟨ac, rfl⟩ := rd_ctx ha
  obtain ⟨ks, rfl⟩ := rd_texts hk2
  exact ⟨⟨nd, ln, op, bg, fn, tk, kd, to, bu, ky, va, cc, ti, dn, er, sb, ac, ks, dnode, dN⟩, rfl, ⟨(wf_both hb).1, (wf_both hb).2, (wf_both hf).1, (wf_both hf).2, (wf_both hk).1, (wf_both hk).2, (wf_both he).1, (wf_both he).2⟩⟩
theorem rv_deeds {a : AVal} (h : Sh.okv (.sl true shDeed) false a) : ∃ L : List Deed, a = .sl 20 (L.map sDeed) false ∧ ∀ d ∈ L, DeedI d := by
  obtain ⟨c, hc, e⟩ := h
  obtain ⟨zs, hz⟩ := rd_sl (fun x : {d : Deed // DeedI d} => sDeed x.1) (fun c hc => by
    obtain ⟨x, hx, hi⟩ := rd_deed hc
    exact ⟨⟨x, hi⟩, hx⟩) hc
  subst hz
  simp only [Bool.false_eq_true, if_false, List.cons.injEq, and_true] at e
  refine ⟨zs.map (·.1), by rw [← e, List.map_map]; rfl, fun d hd => ?_⟩
  obtain ⟨x, _, rfl⟩ := List.mem_map.1 hd
  exact x.2
theorem rv_ints {a : AVal} (h : Sh.okv shInts false a) : ∃ l : List Int, a = .sl 1 (l.map vInt) false := by
  obtain ⟨c, hc, e⟩ := h
  obtain ⟨l, rfl⟩ := rd_ints hc
  simp only [Bool.false_eq_true, if_false, List.cons.injEq, and_true] at e
  exact ⟨l, e.symm⟩
theorem rv_int {a : AVal} (h : Sh.okv (.int .i64) false a) : ∃ n : Int, a = vInt n := by
  obtain ⟨c, ⟨n, rfl, _⟩, e⟩ := h
  simp only [Bool.false_eq_true, if_false, List.cons.injEq, and_true] at e
  exact ⟨n, e.symm⟩
theorem rv_str' {a : AVal} (h : Sh.okv .str false a) : ∃ s : ByteArray, a = vStr s := rv_str h
end Go.Proofs.YtbjloippgpilcaaGreatDoor
end
