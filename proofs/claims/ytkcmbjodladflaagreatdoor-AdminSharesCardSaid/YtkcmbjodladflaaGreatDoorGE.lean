/-
  A ROW MADE FOR WHAT WILL COME: append of a make, of nothing; cap of nil; SLICES WHOSE ROOM IS KNOWN: cut out beyond their length, copied into, grown; a row of bytes made without zeros; GUARDED OPERATIONS BEHIND ONE THAT WRITES, in a drawn region; A ROW CLEARED: the builtin 'clear' of a slice that is written; A STORE BY ITS FACTS: what was built is let go, what is known of it stays; Rows that are copied, found in and cut, in the abstract; THE LIBRARY's SORTS by the kit's contracts: a slice that is written, sorted in place; THE LIBRARY's SORT OF STRUCTS by the kit's contract; what a comparison that only looks costs there; A scope through which the code goes without a jump; a label; The library's sorts at this program; Sorted rows of numbers and of texts; texts once each: rows that grew; Texts sorted, once each, plainly; Numbers and their digits, plainly: the number that has just these digits; Paths and their parts, plainly; WHAT COMES IN, READ: a value of data (numbers, bools, strings, structs, arrays, slices of these, to any depth) that the row's reading met is described by an abstract value; a call's contract gives the row's; ENTRIES, as they come in. Own work (an AI agent).
-/
import Derived.Test.YtkcmbjodladflaaGreatDoorGD
import Derived.Lib.AppendZerosOnto
import Derived.Lib.Overlaps
import Derived.Lib.MakeNoZero
import Derived.Shelf.Sort.Plain
import Derived.Shelf.Slices.In.SortNone
import Derived.Shelf.SlSortCmp.WholeK
import Derived.Scope
import Derived.Test.YtkcmbjodladflaaGreatDoorGC
import Derived.Shelf.Slices.CompactS
import Derived.Lib.ItoaLen
import Derived.Lib.ItoaMem
import Derived.Lib.AtoiAllCases
import Derived.Lib.SplitLaws
import Derived.Lib.IndexBytes
import Derived.Lib.IndexLaws
import Derived.ProofKit
import Derived.OpenShut
import Derived.ShutString
import Derived.ChangeOld
import Derived.Below

section
set_option linter.all false
namespace Go.Ab
open Go.RowKit (Below)
section
variable {P : Program} {o : Oper} {α : Operand → AVal} {σ : Store} {Kk : AVal → Store → Prop}
theorem d4_ {x : Operand} {t e : TypeId} (ho : o.op = .call { callee := .builtin .cap, args := #[x], argTypes := #[t] }) (ht : P.underlying t = some (.slice e)) (hx : α x = .lit (.slice none 0 0)) (hk : Kk (.lit (.int .i64 0)) σ) : AOp P o α σ Kk := by
 obtain ⟨dst, op, ty, pos, after, guard⟩ := o
 obtain rfl : op = _ := ho
 intro κ ev hI hxx
 have hv := hxx x (by simp [Op.operands, Call.operands])
 rw [hx] at hv
 refine bx_ (s := Builtin.cap_ #[t] ty #[ev x]) (by simp [execOp, resolve, invoke, builtin]) ⟨.int .i64 0, κ.w, ?_, κ, .lit (.int .i64 0), σ, rfl, .refl κ, hI, .lit _, hk⟩
 rw [hv.litInv]
 simp [Builtin.cap_, run_underlying ht, goInt]
theorem gi_ {s x : Operand} {t tx e : TypeId} {sz by_ n : Nat} {k0 kx : IntKind}
  (ho : o.op = .call { callee := .builtin .append, args := #[s, x], argTypes := #[t, tx] }) (hse : aB_ P t = some e) (hte : be_ P e = some (sz, by_)) (htx : P.underlying tx = some (.int kx))
  (hs : α s = .lit (.slice none 0 0)) (hx : α x = .lit (.int k0 (n : Int))) (hn : 0 < n) (hlen : n * by_ ≤ 140737488355328)
  (hk : ∀ o', σ.heap o' = none → Kk (.msl o' sz 0 n) (σ.set o' (.cells []))) : AOp P o α σ Kk := by
 obtain ⟨dst, op, ty, pos, after, guard⟩ := o
 obtain rfl : op = .call { callee := .builtin .append, args := #[s, x], argTypes := #[t, tx] } := ho
 intro κ ev hI hxx
 obtain ⟨i, z, hi, hz, hisz, hiby, hzs, hsz, hby⟩ := bc_ hte
 subst hisz
 subst hiby
 have hts : P.underlying t = some (.slice e) := by
  unfold aB_ at hse
  split at hse
  ·rename_i e' he'; obtain rfl := Option.some.inj hse; exact he'
  ·cases hse
 have hvs := hxx s (by simp [Op.operands, Call.operands])
 have hvx := hxx x (by simp [Op.operands, Call.operands])
 rw [hs] at hvs
 rw [hx] at hvx
 have hle47 : n ≤ 140737488355328 := Nat.le_trans (Nat.le_mul_of_pos_right _ hby) hlen
 have hold : (Builtin.firstCells i.size 0 (.slice none 0 0)).run P κ.w.drew = .ok ([] : List Value).toArray κ.w.drew := by simp [Builtin.firstCells]
 have hrun := Lib.run_append_grow_zeros κ.w t tx ty e i z k0 kx hts htx hi hz none 0 0 [] hold n hn hsz (by omega) (by omega) (by omega) (growslice_fits (by omega) (by simpa using hlen))
 simp only [Nat.zero_add] at hrun
 obtain ⟨o', ho', hfr⟩ := hI.fresh
 have hd := hI.drew
 have hge := grownCap_ge κ.w n 0 e
 obtain ⟨cap', hcap'⟩ : ∃ c, grownCap κ.w n 0 e = c := ⟨_, rfl⟩
 rw [hcap'] at hrun hge
 generalize hcc : (([] : List Value).toArray ++ Builtin.zeroCells z.cells n ++ Builtin.zeroCells z.cells (cap' - n)) = cc at hrun
 have hsize : cc.size = cap' * i.size := by
  rw [← hcc]
  simp only [Array.size_append, List.size_toArray, size_zeroCells, hzs, List.length_nil, Nat.zero_add, ← Nat.add_mul]
  congr 1; omega
 obtain ⟨κ', hw, hle, hρ, hI'⟩ := hd.2.alloc o' ho' (.cells []) (.cells cc e) fun κ' hle hh _ => ⟨_, e, hh, by simp, fun j hj => by simp at hj⟩
 have hheap : κ'.w.heap[κ.w.heap.size]? = some (.cells cc e (0, 0)) := by rw [hw]; exact Go.heap_alloc_new κ.w.drew _
 refine bx_ (s := Builtin.append_ #[t, tx] ty #[ev s, ev x]) (by simp [execOp, resolve, invoke, builtin]) ⟨_, _, by rw [hvs.litInv, hvx.litInv]; exact hrun, κ', .msl o' i.size 0 n, _, hw, hd.1.trans hle, hI', .msl o' i.size 0 n κ.w.heap.size cap' _ e hρ hge (by unfold World.shape?; rw [hheap]) (by rw [hsize]; omega), hk o' hfr⟩
theorem iN_ {s x : Operand} {t tx e : TypeId} {sz by_ : Nat}
  (ho : o.op = .call { callee := .builtin .append, args := #[s, x], argTypes := #[t, tx] }) (hse : aB_ P t = some e) (hte : be_ P e = some (sz, by_))
  (hs : (∃ so len, α s = .msl so sz 0 len) ∨ α s = .lit (.slice none 0 0)) (hx : ASrc P sz tx (α x) []) (hk : Kk (α s) σ) : AOp P o α σ Kk := by
 obtain ⟨dst, op, ty, pos, after, guard⟩ := o
 obtain rfl : op = .call { callee := .builtin .append, args := #[s, x], argTypes := #[t, tx] } := ho
 intro κ ev hI hxx
 obtain ⟨i, z, hi, hz, hisz, hiby, hzs, hsz, hby⟩ := bc_ hte
 have hts : P.underlying t = some (.slice e) := by
  unfold aB_ at hse
  split at hse
  ·rename_i e' he'; obtain rfl := Option.some.inj hse; exact he'
  ·cases hse
 have hvs := hxx s (by simp [Op.operands, Call.operands])
 have hvx := hxx x (by simp [Op.operands, Call.operands])
 obtain ⟨vs, _, hvsr, hsrc⟩ := hx.spec hvx
 have hv0 : vs = [] := List.eq_nil_of_length_eq_zero (by rw [← hvsr.1]; rfl)
 subst hv0
 obtain ⟨a, n, cap, he, hnc⟩ : ∃ a n cap, ev s = .slice a n cap ∧ n ≤ cap := by
  rcases hs with ⟨so, len, hs⟩ | hs
  ·rw [hs] at hvs
   generalize ev s = u at hvs
   cases hvs with
   |msl _ _ _ _ b cap n e hb hlen hs hn => exact ⟨_, _, _, rfl, hlen⟩
  ·rw [hs] at hvs
   exact ⟨none, 0, 0, hvs.litInv, Nat.le_refl _⟩
 refine bx_ (s := Builtin.append_ #[t, tx] ty #[ev s, ev x]) (by simp [execOp, resolve, invoke, builtin]) ⟨ev s, κ.w, ?_, κ, α s, σ, rfl, .refl κ, hI, hvs, hk⟩
 rw [he]
 exact cQ_ hts hi hisz hsrc a n cap hnc
def CBp (σ0 σ : Store) (sz : Nat) (l : List AVal) (a : AVal) : Prop := (a = .lit (.slice none 0 0) ∧ l = [] ∧ σ = σ0) ∨ ∃ o, σ0.heap o = none ∧ a = .msl o sz 0 l.length ∧ σ = σ0.set o (.cells (flat l))
theorem CBp.sub {σ0 σ : Store} {sz : Nat} {l : List AVal} {a : AVal} (h : CBp σ0 σ sz l a) : σ0.Sub σ := by
 rcases h with ⟨_, _, rfl⟩ | ⟨o, ho, _, rfl⟩
 ·exact .refl _
 ·exact ⟨fun i x hx => by rw [Store.set_ne _ _ (fun hh => by rw [hh, ho] at hx; cases hx)]; exact hx, fun _ _ h => h⟩
theorem nl_ {σ0 : Store} {o o' : Nat} {x y : AObj} (ho : σ0.heap o = none) : ((σ0.set o x).delO (some o)).set o' y = σ0.set o' y := by
 show ((σ0.set o x).del o).set o' y = _
 rw [Store.set_del ho]
theorem a9_ {σ0 : Store} {s x : Operand} {t e : TypeId} {sz by_ : Nat} {l l2 : List AVal} {b : AVal}
  (ho : o.op = .call { callee := .builtin .append, args := #[s, x], argTypes := #[t, t] }) (hse : aB_ P t = some e) (hte : be_ P e = some (sz, by_)) (hb : CBp σ0 σ sz l b) (hs : α s = b) (hsz : ∀ y ∈ l, y.cells.length = sz)
  (hx : slOf (α x) = some (sz, l2)) (hone : ∀ y ∈ l2, ∀ c ∈ y.cells, c.one = true) (hlen : (l.length + l2.length) * by_ ≤ 140737488355328)
  (hk : ∀ a' σ', CBp σ0 σ' sz (l ++ l2) a' → Kk a' σ') : AOp P o α σ Kk := by
 subst hs
 have hts : P.underlying t = some (.slice e) := by
  unfold aB_ at hse
  split at hse
  ·rename_i e' he'; obtain rfl := Option.some.inj hse; exact he'
  ·cases hse
 by_cases hne : l2 = []
 ·subst hne
  refine iN_ ho hse hte ?_ (.inl ⟨⟨_, hts⟩, .inl hx, hone⟩) (hk _ _ (by rwa [List.append_nil]))
  rcases hb with ⟨h, _⟩ | ⟨o, _, h, _⟩
  ·exact .inr h
  ·exact .inl ⟨o, _, h⟩
 ·have hfl := aS_ hsz
  rcases hb with ⟨h, rfl, rfl⟩ | ⟨ob, hob, h, rfl⟩
  ·refine dq_ ho hse hte (len := 0) (.inr ⟨h, rfl, rfl, rfl⟩) hx hne hone (by simpa using hlen) fun o' ho' => hk _ _ (.inr ⟨o', ho', by simp, ?_⟩)
   simp [Store.delO]
  ·refine dq_ ho hse hte (.inl ⟨ob, flat l, h, Store.set_get .., rfl, rfl, by rw [hfl]; exact Nat.le_refl _⟩) hx hne hone hlen fun o' ho' => hk _ _ (.inr ⟨o', ?_, by simp, ?_⟩)
   ·by_cases hh : o' = ob
    ·rw [hh]; exact hob
    ·rwa [Store.set_ne _ _ hh] at ho'
   ·rw [nl_ hob, List.take_of_length_le (by rw [hfl]; exact Nat.le_refl _), dz_]
theorem ap_.wkA {f : FuncId} {args args' : List AVal} {Q : AVal → Store → Prop} (h : ap_ P f args' σ Q) (hn : args.length = args'.length) (hw : ∀ i (hi : i < args.length) (hi' : i < args'.length), Wk args[i] args'[i]) : ap_ P f args σ Q :=
 fun κ vs hI hs hv => h κ vs hI (hs.trans hn) fun i hi => (hv i (by omega)).wk (hw i (by omega) hi)
end
end Go.Ab
end

section
set_option linter.all false
namespace Go.Ab
open Go.RowKit (Below)
section
variable {P : Program} {o : Oper} {α : Operand → AVal} {σ : Store} {Kk : AVal → Store → Prop}
theorem iY_ {κ : K} {so sz off len cap : Nat} {e : TypeId} {v : Value} (h : Rv κ (.mslc so sz off len cap e) v) : ∃ b, v = .slice (some ⟨b, off, none⟩) len cap ∧ κ.ρ so = some b ∧ len ≤ cap ∧ κ.w.shape? b = some (e, off + cap * sz) := by
 cases h with
 |mslc _ _ _ _ _ _ b n hb hlen hs hn => subst hn; exact ⟨b, rfl, hb, hlen, hs⟩
theorem cw_ {t e : TypeId} (hse : aB_ P t = some e) : P.underlying t = some (.slice e) := by
 unfold aB_ at hse
 split at hse
 ·rename_i e' he'; obtain rfl := Option.some.inj hse; exact he'
 ·cases hse
theorem k7_ {κ : K} {t e : TypeId} {ti : TypeInfo} (ht : P.underlying t = some (.slice e)) (hti : P.info? e = some ti) {lo hi : Option Operand} {ev : Operand → Value} {b off len cap l h : Nat} (hf : ∀ y, (lo = some y ∨ hi = some y) → Rv κ (α y) (ev y)) (hl : alow (lo.map α) = some l) (hh : gn_ len (hi.map α) = some h) (h1 : l ≤ h) (h2 : h ≤ cap) :
  (Instr.sliceAt t (.slice (some ⟨b, off, none⟩) len cap) (lo.map ev) (hi.map ev) none).run P κ.w = .ok (.slice (if cap = l then some ⟨b, off, none⟩ else some ⟨b, off + l * ti.size, none⟩) (h - l) (cap - l)) κ.w := by
 unfold Instr.sliceAt Instr.slice
 simp only [Sem.run_bind, run_underlying ht, Result.andThen_ok]
 rw [bC_ (α := α) hf hl hh h1 h2]
 simp only [Result.andThen_ok, aT_ hti, Sem.run_pure, Option.map_some, bN_]
theorem lb_ {x : Operand} {t e e' : TypeId} {lo hi : Option Operand} {so sz by_ off len cap l h : Nat} (ho : o.op = .slice t x lo hi none) (hse : aB_ P t = some e) (hte : be_ P e = some (sz, by_)) (hx : α x = .mslc so sz off len cap e') (hl : alow (lo.map α) = some l) (hh : gn_ len (hi.map α) = some h) (h1 : l ≤ h) (h2 : h ≤ cap) (h0 : l = 0 ∨ l < cap) (hk : Kk (.mslc so sz (off + l * sz) (h - l) (cap - l) e') σ) : AOp P o α σ Kk := by
 obtain ⟨dst, op, ty, pos, after, guard⟩ := o
 obtain rfl : op = _ := ho
 intro κ ev hI hxx
 have hv := hxx x (by simp [Op.operands])
 rw [hx] at hv
 obtain ⟨b, hev, hb, hlc, hs⟩ := iY_ hv
 obtain ⟨i, z, hi', _, hsz, _⟩ := bc_ hte
 have hr := k7_ (P := P) (α := α) (κ := κ) (ev := ev) (b := b) (off := off) (cw_ hse) hi' (fun y hy => hxx y (by simp only [Op.operands]; rcases hy with rfl | rfl <;> simp)) hl hh h1 h2
 have hif : (if cap = l then some (⟨b, off, none⟩ : Addr) else some ⟨b, off + l * i.size, none⟩) = some ⟨b, off + l * sz, none⟩ := by
  rw [hsz]
  split
  ·rename_i hcl
   rcases h0 with h0 | h0
   ·subst h0; simp
   ·omega
  ·rfl
 rw [hif] at hr
 refine bx_ (s := Instr.sliceAt t (ev x) (lo.map ev) (hi.map ev) (none.map ev)) rfl ⟨_, κ.w, by rw [hev]; exact hr, κ, .mslc so sz (off + l * sz) (h - l) (cap - l) e', σ, rfl, .refl κ, hI, .mslc so sz _ _ _ e' b _ hb (by omega) hs ?_, hk⟩
 rw [Nat.add_assoc, ← Nat.add_mul, show l + (cap - l) = cap by omega]
theorem ml_ {x y : Operand} {t t2 e e' : TypeId} {d sz by_ off cap : Nat} (ho : o.op = .call { callee := .builtin .copy, args := #[x, y], argTypes := #[t, t2] }) (hse : aB_ P t = some e) (hte : be_ P e = some (sz, by_)) (hx : (∃ k, α x = .own k sz []) ∨ α x = .mslc d sz off 0 cap e') (hy : α y = .lit (.slice none 0 0)) (hk : Kk (.lit (.int .i64 0)) σ) : AOp P o α σ Kk := by
 obtain ⟨dst, op, ty, pos, after, guard⟩ := o
 obtain rfl : op = _ := ho
 intro κ ev hI hxx
 obtain ⟨i, z, hi, hz, hisz, hiby, hzs, hsz, hby⟩ := bc_ hte
 have hts := cw_ hse
 have hvx := hxx x (by simp [Op.operands, Call.operands])
 have hvy := hxx y (by simp [Op.operands, Call.operands])
 rw [hy] at hvy
 obtain ⟨a, c, hev⟩ : ∃ a c, ev x = .slice a 0 c := by
  rcases hx with ⟨k, hx⟩ | hx
  ·rw [hx] at hvx
   obtain ⟨a, cap, us2, hev2, _⟩ := c6_ (hvx.wk (.own1 _ _ _))
   exact ⟨a, cap, hev2⟩
  ·rw [hx] at hvx
   obtain ⟨b, hev, _⟩ := iY_ hvx
   exact ⟨_, _, hev⟩
 have hl : ∀ (q : Addr), (loadCells q 0).run P κ.w = .ok #[] κ.w := fun q => by simpa using run_loadCells_list (P := P) κ.w q [] (by simp)
 refine bx_ (s := Builtin.copy_ #[t, t2] ty #[ev x, ev y]) (by simp [execOp, resolve, invoke, builtin]) ⟨.int .i64 0, κ.w, ?_, κ, .lit (.int .i64 0), σ, rfl, .refl κ, hI, .lit _, hk⟩
 rw [hev, hvy.litInv]
 cases a <;> simp [Builtin.copy_, run_underlying hts, Builtin.lenOf, Builtin.firstCells, aT_ hi, storeCells, hl, goInt]
theorem kN_ {s x : Operand} {t e : TypeId} {sz by_ : Nat} {l2 : List AVal}
  (ho : o.op = .call { callee := .builtin .append, args := #[s, x], argTypes := #[t, t] }) (hse : aB_ P t = some e) (hte : be_ P e = some (sz, by_))
  (hs : α s = .sl sz [] true) (hx : slOf (α x) = some (sz, l2)) (hne : l2 ≠ []) (hlen : l2.length * by_ ≤ 140737488355328)
  (hk : ∀ o' c, σ.heap o' = none → l2.length ≤ c → Kk (.mslc o' sz 0 l2.length c e) (σ.set o' (.cells (flat l2)))) : AOp P o α σ Kk := by
 obtain ⟨dst, op, ty, pos, after, guard⟩ := o
 obtain rfl : op = .call { callee := .builtin .append, args := #[s, x], argTypes := #[t, t] } := ho
 intro κ ev hI hxx
 obtain ⟨i, z, hi, hz, hisz, hiby, hzs, hsz, hby⟩ := bc_ hte
 subst hisz
 subst hiby
 have hts := cw_ hse
 have hvs := hxx s (by simp [Op.operands, Call.operands])
 have hvx := hxx x (by simp [Op.operands, Call.operands])
 have hm : 0 < l2.length := List.length_pos_iff.2 hne
 have hle47 : l2.length ≤ 140737488355328 := Nat.le_trans (Nat.le_mul_of_pos_right _ hby) hlen
 obtain ⟨ad, cap2, vs, hevx, hl2sz, hvsr, hcu⟩ : ∃ ad cap2 vs, ev x = .slice (some ad) l2.length cap2 ∧ (∀ y ∈ l2, y.cells.length = i.size) ∧ RvC κ (flat l2) vs ∧ ∀ j u, vs[j]? = some u → κ.w.cell? (ad.add j) = some u := by
  obtain ⟨a, cap, us2, hev, hsz', hr, hc⟩ := c6_ (cF_ hx hvx)
  rcases hc with ⟨_, h0, _⟩ | ⟨ad, rfl, hcu⟩
  ·exact absurd h0 hne
  ·exact ⟨ad, cap, us2, hev, hsz', hr, hcu⟩
 have hfl2 : vs.length = l2.length * i.size := by rw [← hvsr.1, aS_ hl2sz]
 obtain ⟨o', ho', hfr⟩ := hI.fresh
 have hd := hI.drew
 have fresh : ∀ (cap' : Nat), l2.length ≤ cap' → Post κ Kk (.slice (some ⟨κ.w.heap.size, 0, none⟩) l2.length cap') (κ.w.drew.alloc (.cells (vs.toArray ++ Builtin.zeroCells z.cells (cap' - l2.length)) e)) := by
  intro cap' hcap
  have hsize : (vs.toArray ++ Builtin.zeroCells z.cells (cap' - l2.length)).size = cap' * i.size := by
   simp only [Array.size_append, List.size_toArray, size_zeroCells, hzs, hfl2, ← Nat.add_mul]
   congr 1; omega
  obtain ⟨κ', hw, hle, hρ, hI'⟩ := hd.2.alloc o' ho' (.cells (flat l2)) (.cells (vs.toArray ++ Builtin.zeroCells z.cells (cap' - l2.length)) e) fun κ' hle hh _ => by
   refine ⟨_, e, hh, ?_, fun j hj => ?_⟩
   ·rw [hsize, hvsr.1, hfl2]; exact Nat.mul_le_mul_right _ hcap
   ·have hj' : j < vs.length := by rw [← hvsr.1]; exact hj
    have e1 : (vs.toArray ++ Builtin.zeroCells z.cells (cap' - l2.length)).getD j undef = vs[j] := by
     simp only [Array.getD_eq_getD_getElem?]
     rw [Array.getElem?_append_left (by simpa using hj')]
     simp [hj']
    rw [e1]
    exact (hvsr.2 j hj hj').mono (hd.1.trans hle)
  have hheap : κ'.w.heap[κ.w.heap.size]? = some (.cells (vs.toArray ++ Builtin.zeroCells z.cells (cap' - l2.length)) e (0, 0)) := by
   rw [hw]; exact Go.heap_alloc_new κ.w.drew _
  exact ⟨κ', .mslc o' i.size 0 l2.length cap' e, _, hw, hd.1.trans hle, hI', .mslc o' i.size 0 _ _ e κ.w.heap.size _ hρ hcap (by unfold World.shape?; rw [hheap]) (by rw [hsize]; omega), hk o' cap' hfr hcap⟩
 refine bx_ (s := Builtin.append_ #[t, t] ty #[ev s, ev x]) (by simp [execOp, resolve, invoke, builtin]) ?_
 rw [hs] at hvs
 have hnil : (ev s = .slice none 0 0) ∨ ∃ b, ev s = .slice (some b) 0 0 := by
  rcases hvs.slInv with ⟨a, h1, h2⟩ | ⟨b, off, cap, vals, h1, hcap, htt, _⟩
  ·cases a with
   |none => exact .inl h1
   |some b => exact .inr ⟨b, h1⟩
  ·right
   have := htt rfl
   simp at this
   subst this
   exact ⟨_, h1⟩
 rw [hevx]
 rcases hnil with h0 | ⟨b, h0⟩
 ·rw [h0]
  have hr := run_append_nil (P := P) κ.w t ty e i z hts hi hz ad l2.length cap2 vs hfl2 hcu hm (by omega) (by omega)
  exact ⟨_, _, hr, fresh _ (grownCap_ge _ _ _ _)⟩
 ·rw [h0]
  have hr := run_append_grow (P := P) κ.w t ty e i z hts hi hz b 0 0 [] (by simp) (by simp) ad l2.length cap2 vs hfl2 hcu (by omega) (by omega) (growslice_fits (by omega) (by simpa using hlen))
  simp only [Nat.zero_add] at hr
  refine ⟨_, _, hr, ?_⟩
  have := fresh (grownCap κ.w l2.length 0 e) (grownCap_ge _ _ _ _)
  simpa using this
theorem gj_ {f : FuncId} {x : Operand} {ts ps : Array TypeId} {t e : TypeId} {n : Nat} (ho : o.op = .call { callee := .value (.func f), args := #[x], argTypes := ts }) (he : fB_ P f = some (Extern.BytealgMakeNoZero.makeNoZero ps #[t])) (ht : P.underlying t = some (.slice e)) (hf : α (.func f) = .lit (.func (.func f) #[] #[]))
  (hx : α x = .lit (.int .i64 (n : Int))) (hn : n ≤ 1099511627776) (hk : ∀ o' c, σ.heap o' = none → n ≤ c → c ≤ maxLen → Kk (.mslc o' 1 0 n c e) (σ.set o' (.cells []))) : AOp P o α σ Kk := by
 obtain ⟨dst', op, ty, pos, after, guard⟩ := o
 obtain rfl : op = _ := ho
 intro κ ev hI hxx
 have hfv : Rv κ (α (.func f)) (ev (.func f)) := hxx (.func f) (by simp [Op.operands, Call.operands])
 rw [hf] at hfv
 have hvx := hxx x (by simp [Op.operands, Call.operands])
 rw [hx] at hvx
 obtain ⟨cs, hrun, hc1, hc2⟩ := Lib.run_makeNoZero (P := P) κ.w ps t e ht n (by omega)
 have hmx : n ≤ maxLen := by simp only [maxLen]; omega
 have hd := hI.drew
 have hd2 := hd.2.drew
 obtain ⟨o', ho', hfr⟩ := hI.fresh
 obtain ⟨κ', hw, hle, hρ, hI'⟩ := hd2.2.alloc o' ho' (.cells []) (.cells cs e) fun κ' hle hh _ => ⟨_, e, hh, Nat.zero_le _, fun j hj => absurd hj (by simp)⟩
 have hheap : κ'.w.heap[κ.w.heap.size]? = some (.cells cs e (0, 0)) := by rw [hw]; exact Go.heap_alloc_new κ.w.drew.drew _
 have hr : (execOp ev ⟨dst', .call { callee := .value (.func f), args := #[x], argTypes := ts }, ty, pos, after, guard⟩).run P κ.w = .ok (.value (.slice (some ⟨κ.w.heap.size, 0, none⟩) n cs.size)) (κ.w.drew.drew.alloc (.cells cs e)) := by
  simp only [execOp, resolve, Sem.run_bind, hfv.litInv, Deferred.ofValue, Sem.run_pure, Result.andThen_ok, invoke]
  rw [gy_ he]
  simp [hvx.litInv, hrun]
 rw [hr]
 exact ⟨κ', .mslc o' 1 0 n cs.size e, _, hw, hd.1.trans (hd2.1.trans hle), hI', .mslc o' 1 0 n cs.size e κ.w.heap.size _ hρ hc1 (by unfold World.shape?; rw [hheap]) (by omega), hk o' cs.size hfr hc1 (hc2 hmx)⟩
theorem oQ_ {x : Operand} {e : TypeId} {so sz cap : Nat} {cs : List AVal} (ho : o.op = .assign x ∨ o.op = .move x) (hx : α x = .mslc so sz 0 0 cap e) (hh : σ.heap so = some (.cells cs)) (hc : cap ≤ maxLen) (hk : ∀ t', σ.tok t' = none → Kk (.own t' sz []) ((σ.del so).newTok none t' (e, sz))) : AOp P o α σ Kk := by
 intro κ ev hI hxx
 have hv := hxx x (by rcases ho with ho | ho <;> (rw [ho]; simp [Op.operands]))
 rw [hx] at hv
 have he : (execOp ev o).run P κ.w = .ok (.value (ev x)) κ.w := by
  obtain ⟨dst, op, ty, pos, after, guard⟩ := o
  rcases ho with ho | ho <;> (obtain rfl : op = _ := ho; simp [execOp])
 rw [he]
 obtain ⟨b, hev, hb, _, hs⟩ := iY_ hv
 obtain ⟨b', hb', hbase, hIb, c, e2, hheap, hl, hR⟩ := hI.heap so _ hh
 rw [hb] at hb'
 obtain rfl := Option.some.inj hb'
 have hce : e2 = e ∧ c.size = cap * sz := by
  unfold World.shape? at hs
  rw [hheap] at hs
  simp only [Option.some.injEq, Prod.mk.injEq] at hs
  exact ⟨hs.1, by omega⟩
 obtain ⟨rfl, hcz⟩ := hce
 obtain ⟨t', ht', htok'⟩ := hI.freshTok
 obtain ⟨κ', hκ⟩ : ∃ κ' : K, κ' = { κ with τ := fun i => if i = t' then some (ev x) else κ.τ i } := ⟨_, rfl⟩
 have hle : κ.Le κ' := by
  rw [hκ]
  refine ⟨rfl, Below.refl _ _, fun _ _ h => h, fun _ _ h => h, fun t v h => ?_, fun _ => Nat.le_refl _, fun _ _ _ _ h => h, Nat.le_refl _⟩
  show (if t = t' then _ else _) = _
  rw [if_neg (fun hh' => by rw [hh', ht'] at h; cases h)]
  exact h
 have hw : κ'.w = κ.w := by rw [hκ]
 have hτ : κ'.τ t' = some (ev x) := by rw [hκ]; simp
 have hτo : ∀ t, t ≠ t' → κ'.τ t = κ.τ t := fun t ht => by rw [hκ]; simp [ht]
 have hρ : κ'.ρ = κ.ρ := by rw [hκ]
 have hII : κ'.I = κ.I := by rw [hκ]
 have hb0 : κ'.base = κ.base := by rw [hκ]
 have htb : aL_ (ev x) = some b := by rw [hev]; rfl
 have hold : ∀ i y, (σ.del so).heap i = some y → i ≠ so ∧ σ.heap i = some y := fun i y hy => by
  by_cases hi : i = so
  ·rw [hi, Store.del_get] at hy; cases hy
  ·rw [Store.del_ne _ hi] at hy; exact ⟨hi, hy⟩
 have htk : ∀ t q, ((σ.del so).newTok none t' (e2, sz)).tok t = some q → (t = t' ∧ q = (e2, sz)) ∨ (t ≠ t' ∧ σ.tok t = some q) := fun t q hq => by
  simp only [Store.newTok] at hq
  by_cases ht : t = t'
  ·rw [if_pos ht] at hq; exact .inl ⟨ht, (Option.some.inj hq).symm⟩
  ·rw [if_neg ht] at hq; simp at hq; exact .inr ⟨ht, hq⟩
 have htok1 : fI_ κ' (e2, sz) (ev x) := by
  refine ⟨0, [], ⟨by simp, .inr ⟨b, cap, c, (0, 0), hev, by rw [hb0]; exact hbase, by rw [hw]; exact hheap, .inl rfl, Nat.zero_le _, hc, hcz, by simp⟩⟩, fun q hq => ?_⟩
  rw [htb] at hq
  obtain rfl := Option.some.inj hq
  rw [hII, hIb]; simp
 have hI' : Inv κ' ((σ.del so).newTok none t' (e2, sz)) := by
  refine ⟨hI.glob.le hle, by rw [hb0, hw]; exact hI.base, fun i y hy => ?_, fun i i' y y' k hy hy' => ?_, fun t q hq => ?_, fun t u q q' v v' k hq hq' hv1 hv2 hk1 hk2 => ?_, fun t q v k i y hq hv1 hk1 hy => ?_, by rw [hρ]; exact hI.frO, ?_, fun k hk => by rw [hII]; exact hI.frI k (by rw [← hw]; exact hk)⟩
  ·obtain ⟨_, hy'⟩ := hold i y hy
   obtain ⟨k, hk, hkb, hkI, hR'⟩ := hI.heap i y hy'
   exact ⟨k, by rw [hρ]; exact hk, by rw [hb0]; exact hkb, by rw [hII]; exact hkI, hR'.mono hle (by rw [hw])⟩
  ·rw [hρ]; exact hI.inj i i' y y' k (hold i y hy).2 (hold i' y' hy').2
  ·rcases htk t q hq with ⟨rfl, rfl⟩ | ⟨ht, hq⟩
   ·exact ⟨_, hτ, htok1⟩
   ·obtain ⟨v, hv1, hok⟩ := hI.tok t q hq
    exact ⟨v, by rw [hτo t ht]; exact hv1, hok.mono hle fun k _ => ⟨by rw [hw], by rw [hII]⟩⟩
  ·rcases htk t q hq with ⟨rfl, rfl⟩ | ⟨ht, hq0⟩
   ·rcases htk u q' hq' with ⟨rfl, rfl⟩ | ⟨hu, hq1⟩
    ·rfl
    ·exfalso
     rw [hτ] at hv1
     obtain rfl := Option.some.inj hv1
     rw [htb] at hk1
     obtain rfl := Option.some.inj hk1
     rw [hτo u hu] at hv2
     exact hI.tokobj u q' v' b so _ hq1 hv2 hk2 hh hb
   ·rcases htk u q' hq' with ⟨rfl, rfl⟩ | ⟨hu, hq1⟩
    ·exfalso
     rw [hτ] at hv2
     obtain rfl := Option.some.inj hv2
     rw [htb] at hk2
     obtain rfl := Option.some.inj hk2
     rw [hτo t ht] at hv1
     exact hI.tokobj t q v b so _ hq0 hv1 hk1 hh hb
    ·rw [hτo t ht] at hv1
     rw [hτo u hu] at hv2
     exact hI.tokinj t u q q' v v' k hq0 hq1 hv1 hv2 hk1 hk2
  ·obtain ⟨hi, hy'⟩ := hold i y hy
   rw [hρ]
   rcases htk t q hq with ⟨rfl, rfl⟩ | ⟨ht, hq⟩
   ·rw [hτ] at hv1
    obtain rfl := Option.some.inj hv1
    rw [htb] at hk1
    obtain rfl := Option.some.inj hk1
    intro hib
    exact hi (hI.inj i so y _ b hy' hh hib hb)
   ·rw [hτo t ht] at hv1
    exact hI.tokobj t q v k i y hq hv1 hk1 hy'
  ·obtain ⟨N, hN⟩ := hI.frT
   refine ⟨N + t' + 1, fun t ht => ?_⟩
   rw [hτo t (by omega)]
   exact hN t (by omega)
 refine ⟨κ', .own t' sz [], _, hw, hle, hI', .own t' sz [] _ ?_ hτ, hk t' htok'⟩
 rw [hev]
 exact .sl sz [] false b 0 cap (fun _ => undef) (Nat.zero_le _) (by simp) (by simp) (fun k hk => absurd hk (by simp [flat])) (fun k hk => absurd hk (by simp [flat]))
end
end Go.Ab
end

section
set_option linter.all false
namespace Go.Ab
section
variable {P : Program} {ops : Array Oper} {s0 : Store} {Kk : Env → Store → Prop} {o : Oper} {i : Nat} {r : DT} {e : Env} {σ : Store}
end
end Go.Ab
end

section
set_option linter.all false
namespace Go.Ab
open Go.RowKit (Below)
section
variable {P : Program} {o : Oper} {α : Operand → AVal} {σ : Store} {Kk : AVal → Store → Prop}
theorem Store.set_same {o : Nat} {x : AObj} (h : σ.heap o = some x) : σ.set o x = σ := by
 unfold Store.set
 have : (fun k => if k = o then some x else σ.heap k) = σ.heap := by
  funext k
  split
  ·rename_i hk; subst hk; exact h.symm
  ·rfl
 rw [this]
theorem my_ {x : Operand} {t e : TypeId} {so sz off len : Nat} {z : Value} {cs : List AVal} (ho : o.op = .call { callee := .builtin .clear, args := #[x], argTypes := #[t] }) (hse : aB_ P t = some e) (hz : ch_ P e = some z)
  (hzs : z.cells.size = sz) (hzo : ∀ j, j < z.cells.size → (AVal.lit z.cells[j]!).one = true) (hx : α x = .msl so sz off len) (hh : σ.heap so = some (.cells cs)) (hle : off + len * sz ≤ cs.length)
  (hk : ∀ zs : List AVal, zs.length = len * sz → Kk (.tup []) (σ.set so (.cells (aput cs off zs)))) : AOp P o α σ Kk := by
 obtain ⟨dst, op, ty, pos, after, guard⟩ := o
 obtain rfl : op = _ := ho
 intro κ ev hI hxx
 have hts : P.underlying t = some (.slice e) := by
  unfold aB_ at hse
  split at hse
  ·rename_i e' he'; obtain rfl := Option.some.inj hse; exact he'
  ·cases hse
 have hv := hxx x (by simp [Op.operands, Call.operands])
 rw [hx] at hv
 obtain ⟨b, cap, hev, hb⟩ : ∃ b cap, ev x = .slice (some ⟨b, off, none⟩) len cap ∧ κ.ρ so = some b := by
  generalize ev x = u at hv
  cases hv with
  |msl _ _ _ _ b cap n el hb hlc hsh hcap => exact ⟨b, cap, rfl, hb⟩
 have hnil : ∀ κ' : K, Rv κ' (.tup []) (.tuple #[]) := fun κ' => .tup [] #[] rfl (fun i hi => by simp at hi)
 by_cases h0 : len = 0
 ·subst h0
  refine bx_ (s := Builtin.clear_ #[t] ty #[ev x]) (by simp [execOp, resolve, invoke, builtin]) ⟨.tuple #[], κ.w, ?_, κ, .tup [], σ, rfl, .refl κ, hI, hnil κ, ?_⟩
  ·rw [hev]; simp [Builtin.clear_, run_underlying hts]
  ·have := hk [] (by simp)
   rw [js_ _ _ (by omega), Store.set_same hh] at this
   exact this
 ·have hzl : (Builtin.zeroCells z.cells len).size = len * z.cells.size := by simp [Builtin.zeroCells]
  obtain ⟨w', h1, h2, h3⟩ := b7_ (P := P) (b := b) (off := off) (i := so) ((Builtin.zeroCells z.cells len).toList.map .lit) (Builtin.zeroCells z.cells len).toList 0 κ σ cs hI hh hb (by simp) (fun k hk hk' => by
   rw [List.getElem_map]; exact .lit _) (fun a ha => by
   obtain ⟨c, hc, rfl⟩ := List.mem_map.1 ha
   rw [Array.mem_toList_iff] at hc
   obtain ⟨k, hk, rfl⟩ := Array.mem_iff_getElem.1 hc
   rw [hzl] at hk
   have hpos : 0 < z.cells.size := by rcases Nat.eq_zero_or_pos z.cells.size with h | h; rw [h] at hk; simp at hk; exact h
   have : (Builtin.zeroCells z.cells len)[k]'(by rw [hzl]; exact hk) = z.cells[k % z.cells.size]! := by simp [Builtin.zeroCells]
   rw [this]
   exact hzo _ (Nat.mod_lt _ hpos)) (by simp [hzl, hzs]; omega)
  refine bx_ (s := Builtin.clear_ #[t] ty #[ev x]) (by simp [execOp, resolve, invoke, builtin]) ⟨.tuple #[], w', ?_, { κ with w := w' }, .tup [], _, rfl, h2, h3, hnil _, ?_⟩
  ·rw [hev]
   obtain ⟨m, rfl⟩ := Nat.exists_eq_succ_of_ne_zero h0
   simp only [Builtin.clear_, Sem.run_bind, List.getElem?_toArray, List.getElem?_cons_zero, Sem.run_pure, Result.andThen_ok, run_underlying hts, bn_ hz]
   simp only [Nat.succ_eq_add_one] at h1
   simp [h1]
  ·rw [Nat.add_zero]
   exact hk _ (by simp [hzl, hzs])
end
end Go.Ab
end

section
set_option linter.all false
namespace Go.Ab
section
variable {S S0 σ : Store} {o i : Nat} {x y z : AObj}
end
end Go.Ab
end

section
set_option linter.all false
set_option maxRecDepth 100000
namespace Go.Ab
open Go.RowKit (Below)
section
variable {P : Program} {o : Oper} {α : Operand → AVal} {σ : Store} {Kk : AVal → Store → Prop}
theorem lc_ {κ : K} {sz : Nat} {tight : Bool} {v : Value} (h : Rv κ (.sl sz [] tight) v) : ∃ a cap, v = .slice a 0 cap ∧ Rv κ (.sl sz [] false) v := by
 generalize hl : ([] : List AVal) = l at h
 cases h with
 |slNil => exact ⟨_, _, rfl, .slNil _ _⟩
 |slE => exact ⟨_, _, rfl, .slE _ _ _⟩
 |sl _ _ _ b off cap vals hcap ht hsz hc hv => subst hl; exact ⟨_, _, rfl, .sl sz [] false b off cap vals hcap (by simp) hsz hc hv⟩
theorem kP_ {t yt : TypeId} {x y : Operand} {sz e : Nat} {tight : Bool} (ho : o.op = .binOp .eql t x y yt) (hse : aB_ P t = some e) (hx : α x = .sl sz [] tight) (hy : α y = .lit (.slice none 0 0)) (hk : ∀ b, Kk (.lit (.bool b)) σ) : AOp P o α σ Kk := by
 obtain ⟨dst, op, ty, pos, after, guard⟩ := o
 obtain rfl : op = _ := ho
 intro κ ev hI hxx
 have hvx := hxx x (by simp [Op.operands])
 have hvy := hxx y (by simp [Op.operands])
 rw [hx] at hvx
 rw [hy] at hvy
 have hts : P.underlying t = some (.slice e) := by
  unfold aB_ at hse
  split at hse
  ·rename_i e' he'; obtain rfl := Option.some.inj hse; exact he'
  ·cases hse
 obtain ⟨a, cap, hev, _⟩ := lc_ hvx
 have hb : (binOp .eql t (ev x) (ev y)).run P κ.w = .ok (.bool a.isNone) κ.w := by
  have e1 : binOp .eql t (ev x) (ev y) = (do pure (.bool (← Op.equal t (ev x) (ev y)))) := by
   rw [hev, hvy.litInv]
   rfl
  rw [e1, hev, hvy.litInv]
  simp only [Sem.run_bind, run_equal_slice_nil κ.w t e a 0 cap hts, Result.andThen_ok, Sem.run_pure]
 have hg : (eqGuard .eql t x y (ev x) (ev y)).run P κ.w = .ok () κ.w := bH_ (by rintro u v ⟨h1, _⟩; rw [hev] at h1; cases h1) (by intro h1; rw [hev] at h1; cases h1)
 refine bx_ (s := do eqGuard .eql t x y (ev x) (ev y); binOp .eql t (ev x) (ev y)) (by simp [execOp]) ⟨.bool a.isNone, κ.w, ?_, κ, .lit (.bool a.isNone), σ, rfl, .refl κ, hI, .lit _, hk _⟩
 simp only [Sem.run_bind, hg, Result.andThen_ok, hb]
end
section
variable {P : Program} {o : Oper} {α : Operand → AVal} {σ : Store} {Kk : AVal → Store → Prop}
theorem hw_ {s x : Operand} {t e : TypeId} {sz by_ : Nat} {t1 t2 : Bool}
  (ho : o.op = .call { callee := .builtin .append, args := #[s, x], argTypes := #[t, t] }) (hse : aB_ P t = some e) (hte : be_ P e = some (sz, by_))
  (hs : α s = .sl sz [] t1) (hx : α x = .sl sz [] t2) (hk : Kk (.sl sz [] t1) σ) : AOp P o α σ Kk := by
 obtain ⟨dst, op, ty, pos, after, guard⟩ := o
 obtain rfl : op = .call { callee := .builtin .append, args := #[s, x], argTypes := #[t, t] } := ho
 intro κ ev hI hxx
 obtain ⟨i, z, hi, hz, hisz, hiby, hzs, hsz, hby⟩ := bc_ hte
 have hts := cw_ hse
 have hvs := hxx s (by simp [Op.operands, Call.operands])
 have hvx := hxx x (by simp [Op.operands, Call.operands])
 have hsrc0 : ASrc P sz t (α x) [] := pt_ hts (by rw [hx]; rfl) (by simp)
 obtain ⟨vs, _, hvsr, hsrc⟩ := hsrc0.spec hvx
 have hv0 : vs = [] := List.eq_nil_of_length_eq_zero (by rw [← hvsr.1]; rfl)
 subst hv0
 rw [hs] at hvs
 obtain ⟨a, cap, hev, hw⟩ := lc_ hvs
 refine bx_ (s := Builtin.append_ #[t, t] ty #[ev s, ev x]) (by simp [execOp, resolve, invoke, builtin]) ⟨ev s, κ.w, ?_, κ, .sl sz [] t1, σ, rfl, .refl κ, hI, hvs, hk⟩
 rw [hev]
 exact cQ_ hts hi hisz hsrc a 0 cap (Nat.zero_le _)
end
section
variable {P : Program} {ops : Array Oper} {s0 : Store} {Kk : Env → Store → Prop} {o : Oper} {i : Nat} {r : DT} {e : Env} {σ : Store}
end
section
variable {P : Program} {σ : Store}
theorem ap_.aft {f : FuncId} {args : List AVal} {Q1 Q2 : AVal → Store → Prop} (h : ap_ P f args σ Q1)
  (hk : ∀ (κ : K) a σ' cv, Inv κ σ' → Rv κ a cv → Q1 a σ' → ∃ κ' a' σ'', κ'.w = κ.w ∧ κ.Le κ' ∧ Inv κ' σ'' ∧ Rv κ' a' cv ∧ Q2 a' σ'') : ap_ P f args σ Q2 :=
 fun κ vs hI hn hv => (h κ vs hI hn hv).mono fun e w' ⟨cv, he, κ1, a, σ', h1, h2, h3, h4, h5⟩ => by
  obtain ⟨κ2, a', σ'', g1, g2, g3, g4, g5⟩ := hk κ1 a σ' cv h3 h4 h5
  exact ⟨cv, he, κ2, a', σ'', g1.trans h1, h2.trans g2, g3, g4, g5⟩
end
end Go.Ab
namespace Go.Proofs.YtkcmbjodladflaaGreatDoor
open Go.Ab
theorem jj_ {α : Type} {f : α → Bool} : ∀ {l : List α} {r : Nat} {x : α}, l[r]? = some x → f x = true → (∀ m y, m < r → l[m]? = some y → f y = false) → l.find? f = some x
 |[], r, x, h, _, _ => by simp at h
 |a :: l, 0, x, h, hx, _ => by
  simp only [List.getElem?_cons_zero, Option.some.injEq] at h
  subst h
  rw [List.find?_cons_of_pos hx]
 |a :: l, r + 1, x, h, hx, hm => by
  rw [List.find?_cons_of_neg (by rw [hm 0 a (by omega) rfl]; simp)]
  exact jj_ (r := r) h hx fun m y hmr hy => hm (m + 1) y (by omega) hy
end Go.Proofs.YtkcmbjodladflaaGreatDoor
end

section
set_option linter.all false
namespace Go.Ab
open Go.RowKit (Below)
open Go.Shelf Go.Proofs
section
variable {P : Program} {σ : Store}
def rowed (w : World) (n b : Nat) (f : Array Value → Array Value) (os : Array Obj) : World := Sort.grow (Sort.mapBlock (Sort.ahead w n) b f) os
theorem cz_ (w : World) (n : Nat) {b b' : Nat} (f : Array Value → Array Value) (os : Array Obj) (h : b' ≠ b) (hlt : b' < w.heap.size) : (rowed w n b f os).heap[b']? = w.heap[b']? := by
 unfold rowed Sort.grow Sort.mapBlock Sort.ahead
 dsimp only
 rw [Array.getElem?_append_left (by simpa using hlt), Array.getElem?_modify, if_neg (Ne.symm h)]
theorem kZ_ {w : World} (n : Nat) {b : Nat} (f : Array Value → Array Value) (os : Array Obj) {c : Array Value} {e : TypeId} {fr : Nat × Nat} (h : w.heap[b]? = some (.cells c e fr)) : (rowed w n b f os).heap[b]? = some (.cells (f c) e fr) := by
 have hlt : b < w.heap.size := (Array.getElem?_eq_some_iff.1 h).1
 unfold rowed Sort.grow Sort.mapBlock Sort.ahead
 dsimp only
 rw [Array.getElem?_append_left (by simpa using hlt), Array.getElem?_modify, if_pos rfl, h]
 rfl
theorem Inv.rowed {κ : K} (h : Inv κ σ) {o : Nat} {cs cs' : List AVal} (ho : σ.heap o = some (.cells cs)) {b : Nat} (hb : κ.ρ o = some b) (n : Nat) (f : Array Value → Array Value) (os : Array Obj) (hf : ∀ c, (f c).size = c.size)
  (hv : ∀ c : Array Value, cs.length ≤ c.size → (∀ i (hi : i < cs.length), Rv κ cs[i] (c.getD i undef)) → cs'.length ≤ c.size ∧ ∀ i (hi : i < cs'.length), Rv κ cs'[i] ((f c).getD i undef)) :
  κ.Le { κ with w := Ab.rowed κ.w n b f os } ∧ Inv { κ with w := Ab.rowed κ.w n b f os } (σ.set o (.cells cs')) := by
 obtain ⟨b', hb', hbase, hIb, c, e, hheap, hlen, hR⟩ := h.heap o _ ho
 rw [hb] at hb'
 obtain rfl := Option.some.inj hb'
 have hlt : b < κ.w.heap.size := (Array.getElem?_eq_some_iff.1 hheap).1
 have hnew := kZ_ n f os hheap
 have hle : κ.Le { κ with w := Ab.rowed κ.w n b f os } := by
  refine ⟨rfl, ⟨rfl, rfl, rfl, by simp [Ab.rowed, Sort.grow, Sort.mapBlock, Sort.ahead], fun k hk => ?_⟩, fun b' s e' => ?_, fun _ _ e' => e', fun _ _ e' => e', fun _ => Nat.le_refl _, fun b' off' u hi e' => ?_, by simp [Ab.rowed, Sort.grow, Sort.mapBlock, Sort.ahead]⟩
  ·exact cz_ _ _ _ _ (by omega) (by omega)
  ·by_cases hbb : b' = b
   ·subst hbb
    unfold World.shape? at e' ⊢
    rw [hheap] at e'
    dsimp only
    rw [hnew]
    simpa [hf] using e'
   ·have hlt' : b' < κ.w.heap.size := by
     unfold World.shape? at e'
     cases hq : κ.w.heap[b']? with
     |none => rw [hq] at e'; cases e'
     |some q => exact (Array.getElem?_eq_some_iff.1 hq).1
    unfold World.shape? at e' ⊢
    dsimp only
    rw [cz_ _ _ _ _ hbb hlt']; exact e'
  ·have hne : b' ≠ b := fun hh' => by rw [hh', hIb] at hi; omega
   have hlt' : b' < κ.w.heap.size := by
    unfold World.cell? at e'
    cases hq : κ.w.heap[b']? with
    |none => rw [hq] at e'; cases e'
    |some q => exact (Array.getElem?_eq_some_iff.1 hq).1
   simp only [World.cell?] at e' ⊢
   rw [cz_ _ _ _ _ hne hlt']; exact e'
 obtain ⟨h1, h2⟩ := hv c hlen hR
 have big : κ.w.heap.size ≤ (Ab.rowed κ.w n b f os).heap.size := hle.below.size
 refine ⟨hle, ?_⟩
 refine h.step hle rfl rfl h.frO b hbase hIb (fun b' hne hl' => cz_ _ _ _ _ hne hl') o _ (fun _ _ => rfl) hb ⟨f c, e, hnew, by rw [hf]; exact h1, fun i hi => (h2 i hi).mono hle⟩ ?_ ?_
 ·intro j z hz hne hh'
  exact hne (h.inj j o _ _ b hz ho hh' hb)
 ·intro t sz u ht hu hh'
  exact h.tokobj t sz u b o _ ht hu hh' ho hb
theorem ow_ {α : Type} [Inhabited α] {κ : K} (enc : α → Value) (d : Array α) {b : Nat} {c : Array Value} {e : TypeId} (hh : κ.w.heap[b]? = some (.cells c e (0, 0))) (hl : d.size ≤ c.size) (h : ∀ j, j < d.size → c.getD j undef = enc d[j]!) : Sort.Holds enc κ.w b 0 d := by
 intro j hj
 refine ⟨?_, by simp [World.frozen?, hh]⟩
 have h1 := h j hj
 simp only [World.cell?, hh, Nat.zero_add]
 rw [← h1]
 simp [show j < c.size by omega]
theorem hn_ {α : Type} [Inhabited α] (enc : α → Value) (off : Nat) (d : Array α) (c : Array Value) : (Sort.putCells enc off d c).size = c.size := by simp [Sort.putCells]
theorem iZ_ {α : Type} [Inhabited α] (enc : α → Value) (d : Array α) (c : Array Value) (j : Nat) (hj : j < d.size) (hc : d.size ≤ c.size) : (Sort.putCells enc 0 d c).getD j undef = enc d[j]! := by
 simp [Sort.putCells, show j < c.size by omega, hj]
theorem Rv.mslInv {κ : K} {o sz off len : Nat} {v : Value} (h : Rv κ (.msl o sz off len) v) : ∃ b cap, v = .slice (some ⟨b, off, none⟩) len cap ∧ κ.ρ o = some b := by
 cases h with
 |msl _ _ _ _ b cap n e hb hlen hs hn => exact ⟨b, cap, rfl, hb⟩
theorem p1_ {κ κ' : K} {σ : Store} (hle : κ.Le κ') (hI : Inv κ' σ) {Kk : AVal → Store → Prop} (hk : Kk (.tup []) σ) : Post κ Kk (.tuple #[]) κ'.w :=
 ⟨κ', .tup [], σ, rfl, hle, hI, .tup [] #[] rfl (fun i hi => by simp at hi), hk⟩
end
end Go.Ab
end

section
set_option linter.all false
namespace Go.Ab
open Go.RowKit (Below)
open Go.Shelf Go.Proofs Go.Sort
section
variable {P : Program} {σ : Store}
theorem jC_ {f : FuncId} {o k n : Nat} (F : List Value) (Q : List Value → Prop) (ho : σ.heap o = some (.cells (F.map .lit))) (extra : List AVal) (ev : List Value)
  (h : ∀ (b cap : Nat) (w : World), Glob w b → Sort.Holds id w b 0 F.toArray → b < w.heap.size → Calls P f (#[.slice (some ⟨b, 0, none⟩) n cap] ++ ev.toArray) w fun e w' => e = .returned (.tuple #[]) ∧ ∃ F' m os, Q F' ∧ F'.length = F.length ∧ w' = Sort.grow (Sort.putRow id (Sort.ahead w m) b 0 F'.toArray) os)
  (he : extra = ev.map .lit) : ap_ P f (.msl o k 0 n :: extra) σ fun v σ' => v = .tup [] ∧ ∃ F', Q F' ∧ σ' = σ.set o (.cells (F'.map .lit)) := by
 intro κ vs hI hn hv
 subst he
 obtain ⟨b, cap, e0, hb⟩ := (hv 0 (by simp)).mslInv
 have hvs : vs = #[.slice (some ⟨b, 0, none⟩) n cap] ++ ev.toArray := by
  apply Array.ext (by simpa [Nat.add_comm] using hn)
  intro i h1 h2
  have hi : i < (AVal.msl o k 0 n :: ev.map .lit).length := by rw [← hn]; exact h1
  have hr := hv i hi
  have eg : vs.getD i undef = vs[i] := by simp [h1]
  rw [eg] at hr
  cases i with
  |zero => rw [← eg, e0]; simp
  |succ i =>
   simp only [List.getElem_cons_succ, List.getElem_map] at hr
   rw [hr.litInv]
   simp [Array.getElem_append]
 obtain ⟨b', hb', hbase, hIb, c, e, hheap, hlen', hR⟩ := hI.heap o _ ho
 rw [hb] at hb'
 obtain rfl := Option.some.inj hb'
 have hlt : b < κ.w.heap.size := (Array.getElem?_eq_some_iff.1 hheap).1
 have hH : Sort.Holds id κ.w b 0 F.toArray := ow_ id F.toArray hheap (by simpa using hlen') fun j hj => by
  have hj' : j < F.length := by simpa using hj
  have h1 := hR j (by simpa using hj')
  simp only [List.getElem_map] at h1
  rw [h1.litInv]
  simp [hj']
 rw [hvs]
 refine (h b cap κ.w (fun p hp => ⟨Nat.lt_of_lt_of_le (hI.glob p hp).1 hbase, (hI.glob p hp).2⟩) hH hlt).mono fun ex w' ⟨he, F', m, os, hQ, hlen, hw⟩ => ⟨_, he, ?_⟩
 have key := hI.rowed ho hb m (Sort.putCells id 0 F'.toArray) os (fun c => hn_ id 0 _ c) (cs' := F'.map .lit) (fun c hc _ => ⟨by simpa [hlen] using hc, fun i hi => by
  have hi' : i < F'.length := by simpa using hi
  rw [iZ_ id F'.toArray c i (by simpa using hi') (by simp at hc ⊢; omega)]
  simp [hi']
  exact .lit _⟩)
 rw [hw]
 exact p1_ (κ' := { κ with w := Ab.rowed κ.w m b (Sort.putCells id 0 F'.toArray) os }) key.1 key.2 ⟨rfl, F', hQ, rfl⟩
theorem gR_ {α : Type} [Inhabited α] (s : α → AVal) (enc : α → List Value) {k : Nat} (hs : ∀ x, (s x).cells = (enc x).map .lit) (hk : ∀ x, (enc x).length = k) (L : List α) : flat (L.map s) = ((flatK enc k L.toArray).toList).map .lit := by
 have hsz : ∀ y ∈ L.map s, y.cells.length = k := fun y hy => by
  obtain ⟨x, _, rfl⟩ := List.mem_map.1 hy
  rw [hs, List.length_map, hk]
 have hlen := aS_ hsz
 rw [List.length_map] at hlen
 apply List.ext_getElem (by simp [hlen])
 intro i h1 h2
 obtain ⟨hi, hj, e⟩ := hB_ hsz i h1
 rw [e]
 have hi' : i / k < L.length := by simpa using hi
 have hmod : i % k < k := by
  simp only [List.getElem_map, hs, List.length_map, hk] at hj
  exact hj
 simp only [List.getElem_map, hs, Array.getElem_toList]
 have h3 : i < L.toArray.size * k := by simpa [hlen] using h1
 have := get_flatK enc k L.toArray i h3
 rw [getElem!_pos (flatK enc k L.toArray) i (by simpa using h3)] at this
 rw [this]
 simp [hi', hk, hmod]
theorem mb_ {α : Type} [Inhabited α] {d d' : Array α} (h : Sort.PermIn 0 d.size d d') : d'.toList.Perm d.toList := by
 obtain ⟨h1, _, h2⟩ := h
 have e1 : (d'.extract 0 d.size).toList = d'.toList := by rw [← h1]; simp
 have e2 : (d.extract 0 d.size).toList = d.toList := by simp
 rw [e1, e2] at h2
 exact h2
theorem h7_ {α : Type} [Inhabited α] {lt : α → α → Bool} {d : Array α} {n : Nat} (hn : d.size = n) (h : Sort.SortedIn lt 0 n d) : d.toList.Pairwise fun x y => lt y x = false := by
 rw [List.pairwise_iff_getElem]
 intro i j hi hj hij
 have := h i j (Nat.zero_le _) hij (by simp at hj; omega)
 simp at hi hj
 simpa [hi, hj] using this
end
end Go.Ab
end

section
set_option linter.all false
namespace Go.Ab
def rC_ (Q : Exit → Env → Store → Prop) : Exit → Env → Store → Prop
 |.goto _, _, _ => False
 |ex, e, σ => Q ex e σ
theorem hR_ {P : Program} {n : Nat} {c : Code} {Q : Exit → Env → Store → Prop} {e : Env} {σ : Store} (h : awp P n c (rC_ Q) e σ) : awp P n (.scope c) Q e σ := by
 intro κ a hs
 refine wp_scope_straight (wp_mono (h κ a hs) fun ex a' w' ⟨κ', e', σ', h1, h2, h3, h4⟩ => ?_)
 cases ex with
 |goto l => exact h4.elim
 |normal => exact ⟨κ', e', σ', h1, h2, h3, h4⟩
 |exit id => exact ⟨κ', e', σ', h1, h2, h3, h4⟩
 |ret => exact ⟨κ', e', σ', h1, h2, h3, h4⟩
 |panic c => exact ⟨κ', e', σ', h1, h2, h3, h4⟩
 |outgrown => exact ⟨κ', e', σ', h1, h2, h3, h4⟩
theorem im_ {P : Program} {n l : Nat} {Q : Exit → Env → Store → Prop} {e : Env} {σ : Store} (h : Q .normal e σ) : awp P n (.label l) Q e σ :=
 fun κ a hs => wp_label ⟨κ, e, σ, rfl, .refl κ, hs, h⟩
def bare (S : Store) : Store := { S with tok := fun _ => none }
theorem mm_ (S : Store) : (bare S).Sub S := ⟨fun _ _ h => h, fun _ _ h => by cases h⟩
theorem nZ_ (S : Store) (a : Option Nat) (k : Nat) (p : TypeId × Nat) : (bare S).Sub (S.newTok a k p) := ⟨fun _ _ h => h, fun _ _ h => by cases h⟩
theorem mf_ (S : Store) (a b : Option Nat) (k j : Nat) (p q : TypeId × Nat) : (bare S).Sub ((S.newTok a k p).newTok b j q) := ⟨fun _ _ h => h, fun _ _ h => by cases h⟩
theorem lE_ (S : Store) : ∃ T : Store, (∀ i, T.heap i = S.heap i) ∧ T.Sub S ∧ (∀ a k p, T.Sub (S.newTok a k p)) ∧ ∀ a b k j p q, T.Sub ((S.newTok a k p).newTok b j q) :=
 ⟨bare S, fun _ => rfl, mm_ S, nZ_ S, mf_ S⟩
theorem eI_ {P : Program} {n id : Nat} {l : List Oper} {Q : Exit → Env → Store → Prop} {e : Env} {σ : Store} (t : DT) (hm : P.follows .mixedOrders = true) (s0 : Store) (h0 : s0.Sub σ) (hB : jo_ n l.toArray t = true)
  (h : dRun P l.toArray s0 (Q .normal) t e σ) : awp P n (.region id l.toArray true) Q e σ := by
 intro κ a hs
 simp only [jo_, Bool.and_eq_true, decide_eq_true_eq] at hB
 obtain ⟨⟨hlen, hdst⟩, hok⟩ := hB
 have hI := hs.inv.drew
 have hs' : ASat { κ with w := κ.w.drew } n e σ a := ⟨hs.defers, hs.size, fun k => (hs.env k).mono hI.1, hI.2⟩
 refine wp_region_any hm ?_
 have key := (bu_ (P := P) (ops := l.toArray) (hd := fun i => !t.tails.contains i) (s0 := s0) (Kk := Q .normal) t false (Array.replicate l.toArray.size false) e σ ⟨by simp, fun j oj _ hl => (by rw [fK_] at hl; cases hl)⟩ (.inr h0) h).1 hok _ hlen
 exact cc_ (κ0 := κ) (fun i o ho => Array.all_eq_true_iff_forall_mem.1 hdst o (Array.mem_of_getElem? ho)) (fun κ' e' σ' a' hle hs'' hk => ⟨κ', e', σ', rfl, hle, hs'', hk⟩) _ _ e σ { κ with w := κ.w.drew } a hI.1 hs' key
end Go.Ab
end

section
set_option linter.all false
set_option maxRecDepth 100000
namespace Go.Proofs
open Go.Shelf
end Go.Proofs
namespace Go.Proofs.YtkcmbjodladflaaGreatDoor
open Go.Ab Go.Shelf
end Go.Proofs.YtkcmbjodladflaaGreatDoor
end

section
set_option linter.all false
set_option maxRecDepth 100000
namespace Go.Proofs
open Go.Shelf
end Go.Proofs
namespace Go.Ab
open Go.RowKit (Below)
open Go.Shelf Go.Proofs
section
variable {P : Program} {σ : Store}
theorem ap_.after {f : FuncId} {args : List AVal} {Q1 Q2 : AVal → Store → Prop} (h : ap_ P f args σ Q1)
  (hk : ∀ (κ : K) a σ' cv, Inv κ σ' → Rv κ a cv → Q1 a σ' → ∃ κ' a' σ'', κ'.w = κ.w ∧ κ.Le κ' ∧ Inv κ' σ'' ∧ Rv κ' a' cv ∧ Q2 a' σ'') : ap_ P f args σ Q2 :=
 fun κ vs hI hn hv => (h κ vs hI hn hv).mono fun e w' ⟨cv, he, κ1, a, σ', h1, h2, h3, h4, h5⟩ => by
  obtain ⟨κ2, a', σ'', g1, g2, g3, g4, g5⟩ := hk κ1 a σ' cv h3 h4 h5
  exact ⟨cv, he, κ2, a', σ'', g1.trans h1, h2.trans g2, g3, g4, g5⟩
end
end Go.Ab
namespace Go.Proofs.YtkcmbjodladflaaGreatDoor
open Go.Ab Go.Shelf
end Go.Proofs.YtkcmbjodladflaaGreatDoor
end

section
set_option linter.all false
set_option maxRecDepth 100000
namespace Go.Proofs.YtkcmbjodladflaaGreatDoor
open Go.Ab
theorem hA_ (a b : ByteArray) : sLt a b = decide (Lb a < Lb b) := by rw [sLt, bytesLess_eq, Lib.toList_data, Lib.toList_data]; rfl
theorem bh_ (a : ByteArray) : sLt a a = false := by rw [hA_]; simp [List.lt_irrefl]
theorem b3_ {a b c : ByteArray} (h : sLt a b = true) (k : sLt b c = true) : sLt a c = true := by
 rw [hA_, decide_eq_true_eq] at *
 exact List.lt_trans h k
theorem dB_ {a b : ByteArray} (h : sLt a b = false) (hn : a ≠ b) : sLt b a = true := by
 rw [hA_, decide_eq_false_iff_not] at h
 rw [hA_, decide_eq_true_eq]
 by_cases k : Lb b < Lb a
 ·exact k
 ·exact absurd (dY_ (List.le_antisymm (List.not_lt.1 k) (List.not_lt.1 h))) hn
theorem fD_ {α : Type} {r : α → α → Prop} (irr : ∀ a, ¬ r a a) (tr : ∀ a b c, r a b → r b c → r a c) : ∀ {l m : List α}, l.Pairwise r → m.Pairwise r → (∀ x, x ∈ l ↔ x ∈ m) → l = m
 |[], [], _, _, _ => rfl
 |[], y :: m, _, _, h => absurd ((h y).2 (.head _)) (by simp)
 |x :: l, [], _, _, h => absurd ((h x).1 (.head _)) (by simp)
 |x :: l, y :: m, hl, hm, h => by
  rw [List.pairwise_cons] at hl hm
  have hxy : x = y := by
   rcases List.mem_cons.1 ((h x).1 (.head _)) with e | e
   ·exact e
   ·rcases List.mem_cons.1 ((h y).2 (.head _)) with e' | e'
    ·exact e'.symm
    ·exact absurd (tr _ _ _ (hm.1 x e) (hl.1 y e')) (irr _)
  subst hxy
  rw [fD_ irr tr hl.2 hm.2 fun z => ?_]
  constructor
  ·intro hz
   rcases List.mem_cons.1 ((h z).1 (.tail _ hz)) with e | e
   ·subst e; exact absurd (hl.1 _ hz) (irr _)
   ·exact e
  ·intro hz
   rcases List.mem_cons.1 ((h z).2 (.tail _ hz)) with e | e
   ·subst e; exact absurd (hm.1 _ hz) (irr _)
   ·exact e
end Go.Proofs.YtkcmbjodladflaaGreatDoor
end

section
set_option linter.all false
set_option maxRecDepth 100000
namespace Go.Proofs.YtkcmbjodladflaaGreatDoor
open Go.Ab
theorem ei_ {m : Nat} (h : m < 10) : Lib.decDigits m = [UInt8.ofNat (48 + m)] := by rw [Lib.decDigits, dif_pos h]
theorem fA_ {m : Nat} (h : ¬ m < 10) : Lib.decDigits m = Lib.decDigits (m / 10) ++ [UInt8.ofNat (48 + m % 10)] := by conv => lhs; rw [Lib.decDigits, dif_neg h]
theorem rR_ (u : Nat) : Lib.decDigits u ≠ [] := by
 by_cases h : u < 10
 ·rw [ei_ h]; simp
 ·rw [fA_ h]; simp
theorem ja_ : ∀ (k u : Nat), u < 10 ^ (k + 1) → (Lib.decDigits u).length ≤ k + 1
 |0, u, h => by rw [ei_ (by simpa using h)]; simp
 |k + 1, u, h => by
  by_cases h1 : u < 10
  ·rw [ei_ h1]; simp
  ·rw [fA_ h1, List.length_append]
   have := ja_ k (u / 10) (by rw [Nat.pow_succ] at h; omega)
   simp; omega
theorem k4_ {v : Int} (h0 : -9223372036854775808 ≤ v) (h1 : v ≤ 9223372036854775807) : 1 ≤ (Lib.itoa v).length ∧ (Lib.itoa v).length ≤ 20 := by
 by_cases hn : v < 0
 ·obtain ⟨u, rfl⟩ : ∃ u : Nat, v = -(u : Int) := ⟨v.natAbs, by omega⟩
  rw [Lib.itoa_neg u (by omega), List.length_cons]
  have := ja_ 18 u (by omega)
  omega
 ·obtain ⟨u, rfl⟩ : ∃ u : Nat, v = (u : Int) := ⟨v.natAbs, by omega⟩
  rw [Lib.itoa_nonneg]
  have := ja_ 18 u (by omega)
  have h2 := rR_ u
  have : (Lib.decDigits u).length ≠ 0 := fun e => h2 (List.eq_nil_of_length_eq_zero e)
  omega
end Go.Proofs.YtkcmbjodladflaaGreatDoor
end

section
set_option linter.all false
set_option maxRecDepth 100000
namespace Go.Proofs.YtkcmbjodladflaaGreatDoor
open Go.Ab
def a7_ : List UInt8 → List (List UInt8)
 |[] => [[]]
 |c :: l => if c = 47 then [] :: a7_ l else (c :: (a7_ l).headD []) :: (a7_ l).tail
theorem l7_ : ∀ (l : List UInt8), a7_ l ≠ []
 |[] => by simp [a7_]
 |c :: l => by unfold a7_; split <;> simp
theorem fF_ : ∀ {a b : List UInt8}, (∀ c ∈ a, c ≠ 47) → a7_ (a ++ 47 :: b) = a :: a7_ b
 |[], b, _ => by rw [List.nil_append, a7_, if_pos rfl]
 |c :: a, b, h => by
  have ih := fF_ (a := a) (b := b) fun d hd => h d (.tail _ hd)
  rw [List.cons_append, a7_, if_neg (h c (.head _)), ih]; rfl
theorem dy_ : ∀ {a : List UInt8}, (∀ c ∈ a, c ≠ 47) → a7_ a = [a]
 |[], _ => rfl
 |c :: a, h => by
  have ih := dy_ (a := a) fun d hd => h d (.tail _ hd)
  rw [a7_, if_neg (h c (.head _)), ih]; rfl
theorem kM_ (l : List UInt8) : 1 ≤ (a7_ l).length ∧ (a7_ l).length ≤ l.length + 1 := by
 induction l with
 |nil => simp [a7_]
 |cons c l ih =>
  unfold a7_
  split
  ·simp; omega
  ·simp; omega
theorem cV_ : ∀ {l : List UInt8} {p : List UInt8}, p ∈ a7_ l → (∀ c ∈ p, c ≠ 47) ∧ p.length ≤ l.length
 |[], p, h => by
  rw [a7_, List.mem_singleton] at h
  subst h
  exact ⟨fun c hc => (by cases hc), Nat.le_refl _⟩
 |c :: l, p, h => by
  have hh : (a7_ l).headD [] ∈ a7_ l := by
   cases hs : a7_ l with
   |nil => exact absurd hs (l7_ l)
   |cons a b => exact .head _
  unfold a7_ at h
  split at h
  ·rcases List.mem_cons.1 h with rfl | h
   ·exact ⟨fun c hc => (by cases hc), Nat.zero_le _⟩
   ·obtain ⟨h1, h2⟩ := cV_ h
    exact ⟨h1, by rw [List.length_cons]; omega⟩
  ·rename_i hc
   rcases List.mem_cons.1 h with rfl | h
   ·obtain ⟨h1, h2⟩ := cV_ hh
    exact ⟨fun d hd => by rcases List.mem_cons.1 hd with rfl | hd; exact hc; exact h1 d hd, by rw [List.length_cons, List.length_cons]; omega⟩
   ·obtain ⟨h1, h2⟩ := cV_ (List.mem_of_mem_tail h)
    exact ⟨h1, by rw [List.length_cons]; omega⟩
def bE_ (s : ByteArray) : List ByteArray := if s.size = 0 then [] else (a7_ (Lb s)).map B
theorem gB_ (s : ByteArray) : (bE_ s).length ≤ s.size + 1 := by
 unfold bE_
 split
 ·simp
 ·rw [List.length_map]; have := (kM_ (Lb s)).2; rw [aH_] at this; omega
theorem gw_ {s x : ByteArray} (h : x ∈ bE_ s) : (∀ c ∈ Lb x, c ≠ 47) ∧ x.size ≤ s.size := by
 unfold bE_ at h
 split at h
 ·cases h
 ·obtain ⟨p, hp, rfl⟩ := List.mem_map.1 h
  obtain ⟨h1, h2⟩ := cV_ hp
  rw [Lb_B, cr_]
  rw [aH_] at h2
  exact ⟨h1, h2⟩
def eH_ : List ByteArray → List UInt8
 |[] => []
 |x :: r => Lb x ++ r.flatMap fun s => 47 :: Lb s
def cM_ (l : List ByteArray) : ByteArray := B (eH_ l)
end Go.Proofs.YtkcmbjodladflaaGreatDoor
end

section
set_option linter.all false
namespace Go.Ab
open Go.RowKit (Below)
open Go.ChangeShapes Go.WideShapes
inductive Sh where
 |int (k : IntKind)
 |bool
 |str
 |sl (g : Bool) (e : Sh)
 |unit
 |pair (a b : Sh)
def Sh.size : Sh → Nat
 |.unit => 0
 |.pair a b => a.size + b.size
 |_ => 1
def Sh.ok : Sh → List AVal → Prop
 |.int k, cs => ∃ n, cs = [.lit (.int k n)] ∧ (Lit.int k n).wf = true
 |.bool, cs => ∃ b, cs = [.lit (.bool b)]
 |.str, cs => ∃ s, cs = [.lit (.string s)] ∧ s.size ≤ maxLen
 |.sl g e, cs => ∃ l : List AVal, cs = [.sl e.size l false] ∧ l.length ≤ maxLen ∧ ∀ x ∈ l, ∃ c, e.ok c ∧ (if g then x = .agg c else c = [x])
 |.unit, cs => cs = []
 |.pair a b, cs => ∃ c d, cs = c ++ d ∧ a.ok c ∧ b.ok d
def Sh.okv (s : Sh) (g : Bool) (a : AVal) : Prop := ∃ c, s.ok c ∧ (if g then a = .agg c else c = [a])
def fs_ (sh : TypeId → Option Sh) (P : Program) : List Field → Nat → Option Sh
 |[], _ => some .unit
 |f :: fs, off => if f.offset = off then match sh f.type with
   |some s => if s.size = P.cellsOf f.type then (fs_ sh P fs (off + s.size)).map (.pair s) else none
   |none => none
  else none
def ps_ (s : Sh) : Nat → Sh
 |0 => .unit
 |n + 1 => .pair s (ps_ s n)
def dA_ (P : Program) : Nat → TypeId → Option Sh
 |0, _ => none
 |d + 1, t => match P.underlying t with
  |some .bool => some .bool
  |some (.int k) => some (.int k)
  |some .string => some .str
  |some (.slice e) => match dA_ P d e with
   |some s => if s.size = P.cellsOf e ∧ 0 < s.size ∧ (aggB P e = false → s.size = 1) then some (.sl (aggB P e) s) else none
   |none => none
  |some (.struct fs) => match fs_ (dA_ P d) P fs.toList 0 with
   |some s => if s.size = P.cellsOf t then some s else none
   |none => none
  |some (.array n e) => match dA_ P d e with
   |some s => if s.size = P.cellsOf e ∧ P.cellsOf t = n * s.size then some (ps_ s n) else none
   |none => none
  |_ => none
theorem Sh.ok_length : ∀ {s : Sh} {cs : List AVal}, s.ok cs → cs.length = s.size
 |.int k, cs, h => by obtain ⟨n, rfl, _⟩ := h; rfl
 |.bool, cs, h => by obtain ⟨n, rfl⟩ := h; rfl
 |.str, cs, h => by obtain ⟨n, rfl, _⟩ := h; rfl
 |.sl g e, cs, h => by obtain ⟨n, rfl, _⟩ := h; rfl
 |.unit, cs, h => by obtain rfl : cs = [] := h; rfl
 |.pair a b, cs, h => by
  obtain ⟨c, d, rfl, h1, h2⟩ := h
  simp [Sh.size, Sh.ok_length h1, Sh.ok_length h2]
theorem jv_ {p : Nat → AVal → Prop} : ∀ (n : Nat), (∀ i, i < n → ∃ x, p i x) → ∃ l : List AVal, l.length = n ∧ ∀ i (hi : i < l.length), p i l[i]
 |0, _ => ⟨[], rfl, fun i hi => by simp at hi⟩
 |n + 1, h => by
  obtain ⟨l, hl, hp⟩ := jv_ n fun i hi => h i (by omega)
  obtain ⟨x, hx⟩ := h n (by omega)
  refine ⟨l ++ [x], by simp [hl], fun i hi => ?_⟩
  by_cases hlt : i < l.length
  ·rw [List.getElem_append_left hlt]; exact hp i hlt
  ·have : i = n := by simp at hi; omega
   subst this
   rw [List.getElem_append_right (by omega)]
   simpa [hl] using hx
section
variable {H : Type} {enc : TypeId × Value → H} {P : Program} {κ : K} {held : Bool}
theorem cells?_at {w : World} {base : Nat} {a : Addr} {n : Nat} {cs : List Value} (h : w.cells? base a n = some cs) : cs.length = n ∧ ∀ i (hi : i < cs.length), w.cell? (a.add i) = some cs[i] := by
 unfold World.cells? at h
 split at h
 ·have hl : cs.length = n := by
   have := mapM_len h
   simpa using this
  refine ⟨hl, fun i hi => ?_⟩
  have := mapM_at h i (by simpa [hl] using hi) hi
  simpa using this
 ·cases h
where
 mapM_len {α β : Type} {f : α → Option β} : ∀ {l : List α} {r : List β}, l.mapM f = some r → r.length = l.length
  |[], r, h => by simp at h; subst h; rfl
  |x :: l, r, h => by
   rw [List.mapM_cons] at h
   obtain ⟨y, _, h2⟩ := Option.bind_eq_some_iff.1 h
   obtain ⟨ys, h3, h4⟩ := Option.bind_eq_some_iff.1 h2
   obtain rfl := Option.some.inj h4
   simp [mapM_len h3]
 mapM_at {α β : Type} {f : α → Option β} : ∀ {l : List α} {r : List β}, l.mapM f = some r → ∀ i (hi : i < l.length) (hj : i < r.length), f l[i] = some r[i]
  |[], r, h, i, hi, _ => by simp at hi
  |x :: l, r, h, i, hi, hj => by
   rw [List.mapM_cons] at h
   obtain ⟨y, h1, h2⟩ := Option.bind_eq_some_iff.1 h
   obtain ⟨ys, h3, h4⟩ := Option.bind_eq_some_iff.1 h2
   obtain rfl := Option.some.inj h4
   cases i with
   |zero => simpa using h1
   |succ i => simpa using mapM_at h3 i (by simpa using hi) (by simpa using hj)
def ro_ (enc : TypeId × Value → H) (P : Program) (κ : K) (held : Bool) (d : Nat) : Prop :=
 ∀ (t : TypeId) (s : Sh) (fuel : Nat) (cs : List Value) (x : DataW H × List MemPlace), dA_ P d t = some s → DataW.trod enc P κ.w 0 (fun _ => true) held fuel t cs = some x → ∃ av, s.ok av ∧ RvC κ av cs
theorem fN_ {d : Nat} (ih : ro_ enc P κ held d) {n : Nat} {cs : List Value} : ∀ (fs : List Field) (off : Nat) (s : Sh), fs_ (dA_ P d) P fs off = some s → off + s.size ≤ cs.length →
  (∀ (i : Nat) (f : Field), fs[i]? = some f → ∃ y, DataW.trod enc P κ.w 0 (fun _ => true) held n f.type ((cs.drop f.offset).take (P.cellsOf f.type)) = some y) → ∃ av, s.ok av ∧ RvC κ av ((cs.drop off).take s.size)
 |[], off, s, hs, _, _ => by
  obtain rfl := Option.some.inj hs
  exact ⟨[], rfl, by simp [Sh.size], fun i hi => by simp at hi⟩
 |f :: fs, off, s, hs, hle, hf => by
  unfold fs_ at hs
  split at hs
  ·rename_i ho
   split at hs
   ·rename_i s1 h1
    split at hs
    ·rename_i hsz
     obtain ⟨s2, h2, rfl⟩ := Option.map_eq_some_iff.1 hs
     simp only [Sh.size] at hle ⊢
     obtain ⟨y, hy⟩ := hf 0 f rfl
     obtain ⟨av, ha1, ha2⟩ := ih f.type s1 n _ y h1 hy
     obtain ⟨bs, hb1, hb2⟩ := fN_ ih fs (off + s1.size) s2 h2 (by omega) fun i g hg => hf (i + 1) g (by simpa using hg)
     refine ⟨av ++ bs, ⟨av, bs, rfl, ha1, hb1⟩, ?_⟩
     have e : (cs.drop off).take (s1.size + s2.size) = (cs.drop f.offset).take (P.cellsOf f.type) ++ (cs.drop (off + s1.size)).take s2.size := by
      rw [List.take_add, ho, ← hsz, List.drop_drop]
     rw [e]
     exact ha2.append hb2
    ·cases hs
   ·cases hs
  ·cases hs
theorem kh_ {s : Sh} {cs : List Value} : ∀ (n off : Nat), (∀ i, i < n → ∃ av, s.ok av ∧ RvC κ av ((cs.drop (off + i * s.size)).take s.size)) → ∃ av, (ps_ s n).ok av ∧ RvC κ av ((cs.drop off).take (n * s.size))
 |0, off, _ => ⟨[], rfl, by simp, fun i hi => by simp at hi⟩
 |n + 1, off, h => by
  obtain ⟨av, ha1, ha2⟩ := h 0 (by omega)
  obtain ⟨bs, hb1, hb2⟩ := kh_ n (off + s.size) fun i hi => by
   have := h (i + 1) (by omega)
   rwa [show off + (i + 1) * s.size = off + s.size + i * s.size by rw [Nat.succ_mul]; omega] at this
  refine ⟨av ++ bs, ⟨av, bs, rfl, ha1, hb1⟩, ?_⟩
  have e : (cs.drop off).take ((n + 1) * s.size) = (cs.drop (off + 0 * s.size)).take s.size ++ (cs.drop (off + s.size)).take (n * s.size) := by
   rw [show (n + 1) * s.size = s.size + n * s.size by rw [Nat.succ_mul]; omega, List.take_add, List.drop_drop]; simp
  rw [e]
  exact ha2.append hb2
theorem Sh.ok_one {d : Nat} {t : TypeId} {s : Sh} {av : List AVal} (hs : dA_ P d t = some s) (hg : aggB P t = false) (h : s.ok av) : ∃ x, av = [x] ∧ x.cells = [x] := by
 cases d with
 |zero => cases hs
 |succ d =>
  unfold dA_ at hs
  split at hs
  ·obtain rfl := Option.some.inj hs; obtain ⟨b, rfl⟩ := h; exact ⟨_, rfl, rfl⟩
  ·obtain rfl := Option.some.inj hs; obtain ⟨b, rfl, _⟩ := h; exact ⟨_, rfl, rfl⟩
  ·obtain rfl := Option.some.inj hs; obtain ⟨b, rfl, _⟩ := h; exact ⟨_, rfl, rfl⟩
  ·split at hs
   ·split at hs
    ·obtain rfl := Option.some.inj hs; obtain ⟨b, rfl, _⟩ := h; exact ⟨_, rfl, rfl⟩
    ·cases hs
   ·cases hs
  ·rename_i fs ht; simp [aggB, ht] at hg
  ·rename_i fs ht; simp [aggB, ht] at hg
  ·cases hs
theorem sk_ (hI : ∀ b off v, κ.w.cell? ⟨b, off, none⟩ = some v → off < κ.I b) : ∀ d, ro_ enc P κ held d
 |0 => fun t s fuel cs x hs _ => by cases hs
 |d + 1 => fun t s fuel cs x hs hx => by
  have ih := sk_ hI d
  have hs0 := hs
  unfold dA_ at hs
  split at hs
  ·rename_i ht
   obtain rfl := Option.some.inj hs
   obtain ⟨b, rfl, _⟩ := DataW.trod_bool ht hx
   exact ⟨_, ⟨b, rfl⟩, .one (.lit _)⟩
  ·rename_i k ht
   obtain rfl := Option.some.inj hs
   obtain ⟨b, rfl, _, hw⟩ := DataW.trod_int ht hx
   exact ⟨_, ⟨b, rfl, hw⟩, .one (.lit _)⟩
  ·rename_i ht
   obtain rfl := Option.some.inj hs
   obtain ⟨b, rfl, _, hw⟩ := DataW.trod_string ht hx
   exact ⟨_, ⟨b, rfl, hw⟩, .one (.lit _)⟩
  ·rename_i e ht
   split at hs
   ·rename_i s1 h1
    split at hs
    ·rename_i hc
     obtain ⟨hsz, hpos, hone⟩ := hc
     obtain rfl := Option.some.inj hs
     rcases DataW.trod_slice ht hx with ⟨rfl, _⟩ | ⟨a, len, cap, elems, rest, n, _, rfl, _, _, hl, hm, hlen, hel, hsp, _⟩
     ·exact ⟨_, ⟨[], rfl, by simp, by simp⟩, .one (.slNil _ _)⟩
     ·have each : ∀ i, i < cap → ∃ cs' y, κ.w.cells? 0 (a.add (i * P.cellsOf e)) (P.cellsOf e) = some cs' ∧ DataW.trod enc P κ.w 0 (fun _ => true) held n e cs' = some y := by
       intro i hi
       by_cases hil : i < len
       ·have := hel i hil
        rw [List.getElem?_eq_getElem (by omega)] at this
        obtain ⟨cs', q1, q2⟩ := Option.bind_eq_some_iff.1 this
        exact ⟨cs', _, q1, q2⟩
       ·obtain ⟨hr, hj⟩ := hsp rfl
        have := hj (i - len) (by omega)
        rw [show len + (i - len) = i by omega, List.getElem?_eq_getElem (by omega)] at this
        obtain ⟨cs', q1, q2⟩ := Option.bind_eq_some_iff.1 this
        exact ⟨cs', _, q1, q2⟩
      by_cases hcap : cap = 0
      ·subst hcap
       obtain rfl : len = 0 := by omega
       exact ⟨_, ⟨[], rfl, by simp, by simp⟩, .one (.slE _ _ a)⟩
      ·have hspot : a.spot = none := by
        obtain ⟨cs', y, q1, _⟩ := each 0 (by omega)
        obtain ⟨r1, r2⟩ := cells?_at q1
        have := r2 0 (by omega)
        rw [Nat.zero_mul] at this
        exact World.cell?_spot (by simpa [Addr.add] using this)
       obtain ⟨b, off, spot⟩ := a
       subst hspot
       have each' : ∀ i, i < len → ∃ x : AVal, x.cells.length = s1.size ∧ (∃ c, s1.ok c ∧ (if aggB P e then x = .agg c else c = [x])) ∧
         ∀ j (hj : j < x.cells.length), ∃ v, κ.w.cell? ⟨b, off + (i * s1.size + j), none⟩ = some v ∧ Rv κ x.cells[j] v := by
        intro i hi
        obtain ⟨cs', y, q1, q2⟩ := each i (by omega)
        obtain ⟨r1, r2⟩ := cells?_at q1
        obtain ⟨av, ha, hr⟩ := ih e s1 n cs' y h1 q2
        have hal := Sh.ok_length ha
        obtain ⟨x, hxc, hxo⟩ : ∃ x : AVal, x.cells = av ∧ (∃ c, s1.ok c ∧ (if aggB P e then x = .agg c else c = [x])) := by
         cases hg : aggB P e with
         |true => exact ⟨.agg av, rfl, av, ha, by simp⟩
         |false =>
          obtain ⟨x, rfl, hx⟩ := Sh.ok_one h1 hg ha
          exact ⟨x, hx, [x], ha, by simp⟩
        refine ⟨x, by rw [hxc]; exact hal, hxo, fun j hj => ?_⟩
        have hj' : j < cs'.length := by rw [← hr.1, ← hxc]; exact hj
        refine ⟨cs'[j], ?_, ?_⟩
        ·have := r2 j hj'
         rw [← hsz] at this
         rw [← this]
         simp only [Addr.add]
         congr 1
         by_cases h0 : i * s1.size = 0
         ·rw [if_pos h0, h0]
          by_cases hj0 : j = 0
          ·simp [hj0]
          ·simp [hj0]
         ·rw [if_neg h0]
          by_cases hj0 : j = 0
          ·simp [hj0]
          ·simp [hj0]; omega
        ·have := hr.2 j (by rw [← hxc]; exact hj) hj'
         simp only [hxc]
         exact this
       obtain ⟨l, hll, hlp⟩ := jv_ len each'
       have hszl : ∀ x ∈ l, x.cells.length = s1.size := fun x hx => by
        obtain ⟨i, hi, rfl⟩ := List.getElem_of_mem hx
        exact (hlp i hi).1
       refine ⟨[.sl s1.size l false], ⟨l, rfl, by omega, fun x hx => ?_⟩, .one ?_⟩
       ·obtain ⟨i, hi, rfl⟩ := List.getElem_of_mem hx
        exact (hlp i hi).2.1
       ·have at_ : ∀ k (hk : k < (flat l).length), ∃ v, κ.w.cell? ⟨b, off + k, none⟩ = some v ∧ Rv κ (flat l)[k] v := by
         intro k hk
         obtain ⟨hi, hj, e1⟩ := hB_ hszl k hk
         obtain ⟨v, hv1, hv2⟩ := (hlp _ hi).2.2 _ hj
         rw [show k / s1.size * s1.size + k % s1.size = k by rw [Nat.mul_comm]; exact Nat.div_add_mod k s1.size] at hv1
         exact ⟨v, hv1, by rw [e1]; exact hv2⟩
        have := Rv.sl (κ := κ) s1.size l false b off cap (fun k => (κ.w.cell? ⟨b, off + k, none⟩).getD undef) (by omega) (by simp) hszl
         (fun k hk => by obtain ⟨v, hv1, _⟩ := at_ k hk; exact ⟨hI _ _ _ hv1, by simp [hv1]⟩)
         (fun k hk => by obtain ⟨v, hv1, hv2⟩ := at_ k hk; simpa [hv1] using hv2)
        rwa [hll] at this
    ·cases hs
   ·cases hs
  ·rename_i fs ht
   split at hs
   ·rename_i s1 h1
    split at hs
    ·rename_i hc
     obtain rfl := Option.some.inj hs
     obtain ⟨xs, n, _, _, hcl, hxl, hf⟩ := DataW.trod_struct ht hx
     obtain ⟨av, ha, hr⟩ := fN_ (cs := cs) (n := n) ih fs.toList 0 s1 h1 (by omega) fun i f hfi => by
      have hfi' : fs[i]? = some f := by simpa using hfi
      have := hf i f hfi'
      have hlt : i < xs.length := by rw [hxl]; exact (Array.getElem?_eq_some_iff.1 hfi').1
      rw [List.getElem?_eq_getElem hlt] at this
      exact ⟨_, this⟩
     refine ⟨av, ha, ?_⟩
     rw [List.drop_zero, List.take_of_length_le (by omega)] at hr
     exact hr
    ·cases hs
   ·cases hs
  ·rename_i n e ht
   split at hs
   ·rename_i s1 h1
    split at hs
    ·rename_i hc
     obtain rfl := Option.some.inj hs
     obtain ⟨xs, m, _, _, hcl, hxl, hf⟩ := DataW.trod_array ht hx
     obtain ⟨av, ha, hr⟩ := kh_ (κ := κ) (s := s1) (cs := cs) n 0 fun i hi => by
      have := hf i hi
      rw [List.getElem?_eq_getElem (by omega), ← hc.1] at this
      rw [Nat.zero_add]
      exact ih e s1 m _ _ h1 this
     refine ⟨av, ha, ?_⟩
     rw [List.drop_zero, List.take_of_length_le (by rw [hcl, hc.2]; omega)] at hr
     exact hr
    ·cases hs
   ·cases hs
  ·cases hs
theorem dw_ (hI : ∀ b off v, κ.w.cell? ⟨b, off, none⟩ = some v → off < κ.I b) {d base : Nat} {r : Reach} {W : World} {t : TypeId} {s : Sh} {g : Bool} {v : Value} {x : DataW H} {ps : List MemPlace} (hs : dA_ P d t = some s) (hg : aggB P t = g)
  (hval : Value.okWide P W r base t v) (h : DataW.Trod enc P κ.w 0 (fun _ => true) held t v x ps) : ∃ a, Rv κ a v ∧ s.okv g a := by
 subst hg
 obtain ⟨fuel, hf⟩ := h
 obtain ⟨av, ha, hr⟩ := sk_ hI d t s fuel _ _ hs hf
 cases hg : aggB P t with
 |true =>
  have : ∃ cs, v = .agg cs := by
   unfold Value.okWide at hval
   unfold aggB at hg
   split at hval <;> simp_all
   ·obtain ⟨cs, rfl, _⟩ := hval; exact ⟨cs, rfl⟩
   ·obtain ⟨cs, rfl, _⟩ := hval; exact ⟨cs, rfl⟩
  obtain ⟨cs, rfl⟩ := this
  refine ⟨.agg av, .agg av cs ?_ fun i hi => ?_, av, ha, by simp⟩
  ·have := hr.1; simpa [Value.cells] using this.symm
  ·have hl : av.length = cs.size := by have := hr.1; simpa [Value.cells] using this
   have := hr.2 i hi (by simp [Value.cells]; omega)
   simpa [Value.cells, show i < cs.size by omega] using this
 |false =>
  obtain ⟨x, rfl, hx⟩ := Sh.ok_one hs hg ha
  have hv : v.cells = #[v] := by
   unfold Value.okWide at hval
   unfold aggB at hg
   split at hval
   ·simp_all
   ·simp_all
   ·unfold Cell.okWide at hval
    split at hval <;> first | rfl | skip
    unfold Cell.ok at hval
    split at hval <;> first | rfl | exact hval.elim
  refine ⟨x, ?_, [x], ha, by simp⟩
  have := hr.2 0 (by simp) (by rw [hv]; simp)
  simpa [hv] using this
def kOf (W : World) : K := { w := W, base := W.heap.size, ρ := fun _ => none, τ := fun _ => none, I := fun b => match W.heap[b]? with | some (.cells c _ _) => c.size | _ => 0 }
def s0 : Store := { heap := fun _ => none, tok := fun _ => none }
theorem eq_ (W : World) : ∀ b off v, (kOf W).w.cell? ⟨b, off, none⟩ = some v → off < (kOf W).I b := by
 intro b off v h
 simp only [kOf, World.cell?] at *
 cases hb : W.heap[b]? with
 |none => simp [hb] at h
 |some o =>
  rw [hb] at h
  cases o <;> simp_all
  have := (Array.getElem?_eq_some_iff.1 h).1
  omega
theorem p2_ (W : World) (hG : Glob W W.heap.size) : Inv (kOf W) s0 where
 glob := hG
 base := Nat.le_refl _
 heap o x e := by cases e
 inj o o' x x' b e := by cases e
 tok t sz e := by cases e
 tokinj t t' sz sz' v v' b e := by cases e
 tokobj t sz v b o x e := by cases e
 frO := ⟨0, fun _ _ => rfl⟩
 frT := ⟨0, fun _ _ => rfl⟩
 frI b hb := by
  have hb' : W.heap.size ≤ b := hb
  simp [kOf, Array.getElem?_eq_none hb']
theorem d1_ {f : FuncId} {av : List AVal} {vs : Array Value} {W : World} (h : ap_ P f av s0 fun v _ => v = f0_ true) (hn : vs.size = av.length) (hr : ∀ i (hi : i < av.length), Rv (kOf W) av[i] (vs.getD i undef))
  (hG : Glob W W.heap.size := by intro p hp; cases hp) : Calls P f vs W (fun e w' => e = .returned (.bool true) ∧ Below W.heap.size W w') := by
 have := h (kOf W) vs (p2_ W hG) hn hr
 refine this.mono fun e w' ⟨cv, he, κ', a, σ', hw, hle, _, hv, ha⟩ => ?_
 subst ha
 obtain rfl := hv.litInv
 subst hw
 exact ⟨he, hle.below⟩
end
theorem mH_ {α : Type} (f : α → AVal) : ∀ {l : List AVal}, (∀ x ∈ l, ∃ a, x = f a) → ∃ zs : List α, l = zs.map f
 |[], _ => ⟨[], rfl⟩
 |x :: l, h => by
  obtain ⟨zs, rfl⟩ := mH_ f fun y hy => h y (List.mem_cons_of_mem _ hy)
  obtain ⟨a, rfl⟩ := h x (List.mem_cons_self ..)
  exact ⟨a :: zs, rfl⟩
end Go.Ab
end

section
set_option linter.all false
set_option maxRecDepth 100000
namespace Go.Proofs.YtkcmbjodladflaaGreatDoor
open Go.Ab
abbrev sb_ : Sh := .pair .str (.pair (.pair (.int .i64) (.pair .str (.pair .str .unit))) .unit)
theorem ru_ {α : Type} (f : α → AVal) {e : Sh} (he : ∀ c, e.ok c → ∃ a, .agg c = f a) {c : List AVal} (h : (Sh.sl true e).ok c) : ∃ zs : List α, c = [.sl e.size (zs.map f) false] := by
 obtain ⟨l, rfl, _, hl⟩ := h
 obtain ⟨zs, rfl⟩ := mH_ f (l := l) fun x hx => by
  obtain ⟨c, hc, e⟩ := hl x hx
  simp only [if_true] at e
  rw [e]; exact he c hc
 exact ⟨zs, rfl⟩
theorem q5_ {c : List AVal} (h : sb_.ok c) : ∃ x : Ent, .agg c = sEnt x := by
 obtain ⟨_, _, rfl, ⟨s, rfl, _⟩, _, _, rfl, ⟨_, _, rfl, ⟨n, rfl, _⟩, _, _, rfl, ⟨t, rfl, _⟩, _, _, rfl, ⟨v, rfl, _⟩, rfl⟩, rfl⟩ := h
 exact ⟨⟨s, n, t, v⟩, rfl⟩
theorem jk_ {a : AVal} (h : Sh.okv (.sl true sb_) false a) : ∃ l : List Ent, a = .sl 4 (l.map sEnt) false := by
 obtain ⟨c, hc, e⟩ := h
 obtain ⟨l, rfl⟩ := ru_ sEnt (fun c hc => q5_ hc) hc
 simp only [Bool.false_eq_true, if_false, List.cons.injEq, and_true] at e
 exact ⟨l, e.symm⟩
end Go.Proofs.YtkcmbjodladflaaGreatDoor
end
