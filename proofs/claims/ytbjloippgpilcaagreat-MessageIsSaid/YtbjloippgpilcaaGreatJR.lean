/-
  MESSAGES, as they come in. Own work (an AI agent).
-/
import Derived.Test.YtbjloippgpilcaaGreatGF
import Derived.Test.YtbjloippgpilcaaGreatJB

section
set_option linter.all false
set_option maxRecDepth 100000
namespace Go.Ab
abbrev shLeaf : Sh := .pair .str (.pair .str .unit)
abbrev shItm : Sh := .pair .str (.pair shObj .unit)
abbrev shEnt : Sh := .pair .str (.pair (.pair (.int .i64) (.pair .str (.pair .str .unit))) .unit)
abbrev shMsg : Sh := .pair (.int .i64) (.pair .str (.pair .str (.pair (.int .i64) (.pair (.int .i64) (.pair .str (.pair shObj (.pair (.sl false .str) (.pair (.sl true shLeaf) (.pair (.sl true shItm) (.pair (.sl true shEnt) .unit))))))))))
theorem rd_texts {c : List AVal} (h : (Sh.sl false .str).ok c) : ∃ l : List ByteArray, c = [.sl 1 (l.map vStr) false] := by
  obtain ⟨l, rfl, _, hl⟩ := h
  obtain ⟨zs, rfl⟩ := list_of vStr (l := l) fun x hx => by
    obtain ⟨c, ⟨s, rfl, _⟩, e⟩ := hl x hx
    simp only [Bool.false_eq_true, if_false, List.cons.injEq, and_true] at e
    exact ⟨s, e.symm⟩
  exact ⟨zs, rfl⟩
theorem rd_leaf {c : List AVal} (h : shLeaf.ok c) : ∃ x : Leaf, .agg c = sLeaf x := by
  obtain ⟨_, _, rfl, ⟨s, rfl, _⟩, _, _, rfl, ⟨t, rfl, _⟩, rfl⟩ := h
  exact ⟨⟨s, t⟩, rfl⟩
theorem rd_objC {c : List AVal} (h : shObj.ok c) : ∃ x : Obj', c = [.sl 3 (x.ctx.map sSeen) false, .sl 5 (x.sibs.map sSib) false] := by
  obtain ⟨x, hx⟩ := rd_obj h
  exact ⟨x, AVal.agg.inj hx⟩
theorem rd_itm {c : List AVal} (h : shItm.ok c) : ∃ x : Itm, .agg c = sItem x := by
  obtain ⟨_, _, rfl, ⟨s, rfl, _⟩, _, _, rfl, h2, rfl⟩ := h
  obtain ⟨o, rfl⟩ := rd_objC h2
  exact ⟨⟨s, o⟩, rfl⟩
theorem rd_ent {c : List AVal} (h : shEnt.ok c) : ∃ x : Ent, .agg c = sEnt x := by
  obtain ⟨_, _, rfl, ⟨s, rfl, _⟩, _, _, rfl, ⟨_, _, rfl, ⟨n, rfl, _⟩, _, _, rfl, ⟨t, rfl, _⟩, _, _, rfl, ⟨v, rfl, _⟩, rfl⟩, rfl⟩ := h
  exact ⟨⟨s, n, t, v⟩, rfl⟩
def MsgI (m : Msg) : Prop := m.num ≤ 9223372036854775807
theorem wf_i64 {n : Int} (h : (Lit.int .i64 n).wf = true) : n ≤ 9223372036854775807 := by
  simp only [Lit.wf, Bool.and_eq_true, decide_eq_true_eq] at h
  exact Int.le_trans h.2 (by decide)
theorem wf_u16 {n : Int} (h : (Lit.int .u16 n).wf = true) : 0 ≤ n ∧ n ≤ 65535 := by
  simp only [Lit.wf, Bool.and_eq_true, decide_eq_true_eq] at h
  exact ⟨Int.le_trans (by decide) h.1, Int.le_trans h.2 (by decide)⟩
theorem rv_u16 {a : AVal} (h : Sh.okv (.int .u16) false a) : ∃ n : Int, a = .lit (.int .u16 n) ∧ 0 ≤ n ∧ n ≤ 65535 := by
  obtain ⟨c, ⟨n, rfl, hn⟩, e⟩ := h
  simp only [Bool.false_eq_true, if_false, List.cons.injEq, and_true] at e
  exact ⟨n, e.symm, wf_u16 hn⟩
theorem rd_msg {c : List AVal} (h : shMsg.ok c) : ∃ m : Msg, .agg c = sMsg m ∧ MsgI m := by
  obtain ⟨_, _, rfl, ⟨k, rfl, hk⟩, _, _, rfl, ⟨f, rfl, _⟩, _, _, rfl, ⟨t, rfl, _⟩, _, _, rfl, ⟨n, rfl, hn⟩, _, _, rfl, ⟨e, rfl, he⟩, _, _, rfl, ⟨p, rfl, _⟩, _, _, rfl, ho, _, _, rfl, ht, _, _, rfl, hl, _, _, rfl, hi, _, _, rfl, hE, rfl⟩ := h
  obtain ⟨o, rfl⟩ := rd_objC ho
  obtain ⟨ts, rfl⟩ := rd_texts ht
  obtain ⟨ls, rfl⟩ := rd_sl sLeaf (fun c hc => rd_leaf hc) hl
  obtain ⟨is, rfl⟩ := rd_sl sItem (fun c hc => rd_itm hc) hi
  obtain ⟨es, rfl⟩ := rd_sl sEnt (fun c hc => rd_ent hc) hE
  refine ⟨⟨k, f, t, n, e, p, o, ts, ls, is, es⟩, rfl, ?_⟩
  exact wf_i64 hn
theorem rv_msg {a : AVal} (h : Sh.okv shMsg true a) : ∃ m : Msg, a = sMsg m ∧ MsgI m := by
  obtain ⟨c, hc, e⟩ := h
  obtain ⟨x, hx, hI⟩ := rd_msg hc
  simp only [if_true] at e
  exact ⟨x, by rw [e, hx], hI⟩
end Go.Ab
end
