/-
  A ROW MADE FOR WHAT WILL COME: append of a make, of nothing; cap of nil; SLICES WHOSE ROOM IS KNOWN: cut out beyond their length, copied into, grown; a row of bytes made without zeros; GUARDED OPERATIONS BEHIND ONE THAT WRITES, in a drawn region; A ROW CLEARED: the builtin 'clear' of a slice that is written; A STORE BY ITS FACTS: what was built is let go, what is known of it stays; Rows that are copied, found in and cut, in the abstract; THE LIBRARY's SORTS by the kit's contracts: a slice that is written, sorted in place; THE LIBRARY's SORT OF STRUCTS by the kit's contract; what a comparison that only looks costs there; A scope through which the code goes without a jump; a label; The library's sorts at this program; Sorted rows of numbers and of texts; texts once each: rows that grew; Texts sorted, once each, plainly; Numbers and their digits, plainly: the number that has just these digits; Paths and their parts, plainly; WHAT COMES IN, READ: a value of data (numbers, bools, strings, structs, arrays, slices of these, to any depth) that the row's reading met is described by an abstract value; a call's contract gives the row's; ENTRIES, as they come in. Own work (an AI agent).
-/
import Derived.Test.YtkcmbjodladflaaGreatDoorGD
import Derived.Lib.AppendZerosOnto
import Derived.Lib.Overlaps
import Derived.Lib.MakeNoZero
import Derived.Shelf.Sort.Plain
import Derived.Shelf.Slices.In.SortNone
import Derived.Shelf.SlSortCmp.WholeK
import Derived.Scope
import Derived.Test.YtkcmbjodladflaaGreatDoorGC
import Derived.Shelf.Slices.CompactS
import Derived.Lib.ItoaLen
import Derived.Lib.ItoaMem
import Derived.Lib.AtoiAllCases
import Derived.Lib.SplitLaws
import Derived.Lib.IndexBytes
import Derived.Lib.IndexLaws
import Derived.ProofKit
import Derived.OpenShut
import Derived.ShutString
import Derived.ChangeOld
import Derived.Below

section
set_option linter.all false
namespace Go.Ab
open Go.RowKit (Below)
section
variable {P : Program} {o : Oper} {α : Operand → AVal} {σ : Store} {Kk : AVal → Store → Prop}
theorem f9_ {x : Operand} {t e : TypeId} (ho : o.op = .call { callee := .builtin .cap, args := #[x], argTypes := #[t] }) (ht : P.underlying t = some (.slice e)) (hx : α x = .lit (.slice none 0 0)) (hk : Kk (.lit (.int .i64 0)) σ) : AOp P o α σ Kk := by
 obtain ⟨dst, op, ty, pos, after, guard⟩ := o
 obtain rfl : op = _ := ho
 intro κ ev hI hxx
 have hv := hxx x (by simp [Op.operands, Call.operands])
 rw [hx] at hv
 refine bo_ (s := Builtin.cap_ #[t] ty #[ev x]) (by simp [execOp, resolve, invoke, builtin]) ⟨.int .i64 0, κ.w, ?_, κ, .lit (.int .i64 0), σ, rfl, .refl κ, hI, .lit _, hk⟩
 rw [hv.litInv]
 simp [Builtin.cap_, run_underlying ht, goInt]
theorem ia_ {s x : Operand} {t tx e : TypeId} {sz by_ : Nat}
  (ho : o.op = .call { callee := .builtin .append, args := #[s, x], argTypes := #[t, tx] }) (hse : aE_ P t = some e) (hte : a5_ P e = some (sz, by_))
  (hs : (∃ so len, α s = .msl so sz 0 len) ∨ α s = .lit (.slice none 0 0)) (hx : ASrc P sz tx (α x) []) (hk : Kk (α s) σ) : AOp P o α σ Kk := by
 obtain ⟨dst, op, ty, pos, after, guard⟩ := o
 obtain rfl : op = .call { callee := .builtin .append, args := #[s, x], argTypes := #[t, tx] } := ho
 intro κ ev hI hxx
 obtain ⟨i, z, hi, hz, hisz, hiby, hzs, hsz, hby⟩ := a3_ hte
 have hts : P.underlying t = some (.slice e) := by
  unfold aE_ at hse
  split at hse
  ·rename_i e' he'; obtain rfl := Option.some.inj hse; exact he'
  ·cases hse
 have hvs := hxx s (by simp [Op.operands, Call.operands])
 have hvx := hxx x (by simp [Op.operands, Call.operands])
 obtain ⟨vs, _, hvsr, hsrc⟩ := hx.spec hvx
 have hv0 : vs = [] := List.eq_nil_of_length_eq_zero (by rw [← hvsr.1]; rfl)
 subst hv0
 obtain ⟨a, n, cap, he, hnc⟩ : ∃ a n cap, ev s = .slice a n cap ∧ n ≤ cap := by
  rcases hs with ⟨so, len, hs⟩ | hs
  ·rw [hs] at hvs
   generalize ev s = u at hvs
   cases hvs with
   |msl _ _ _ _ b cap n e hb hlen hs hn => exact ⟨_, _, _, rfl, hlen⟩
  ·rw [hs] at hvs
   exact ⟨none, 0, 0, hvs.litInv, Nat.le_refl _⟩
 refine bo_ (s := Builtin.append_ #[t, tx] ty #[ev s, ev x]) (by simp [execOp, resolve, invoke, builtin]) ⟨ev s, κ.w, ?_, κ, α s, σ, rfl, .refl κ, hI, hvs, hk⟩
 rw [he]
 exact cF_ hts hi hisz hsrc a n cap hnc
def CBp (σ0 σ : Store) (sz : Nat) (l : List AVal) (a : AVal) : Prop := (a = .lit (.slice none 0 0) ∧ l = [] ∧ σ = σ0) ∨ ∃ o, σ0.heap o = none ∧ a = .msl o sz 0 l.length ∧ σ = σ0.set o (.cells (flat l))
theorem CBp.sub {σ0 σ : Store} {sz : Nat} {l : List AVal} {a : AVal} (h : CBp σ0 σ sz l a) : σ0.Sub σ := by
 rcases h with ⟨_, _, rfl⟩ | ⟨o, ho, _, rfl⟩
 ·exact .refl _
 ·exact ⟨fun i x hx => by rw [Store.set_ne _ _ (fun hh => by rw [hh, ho] at hx; cases hx)]; exact hx, fun _ _ h => h⟩
theorem np_ {σ0 : Store} {o o' : Nat} {x y : AObj} (ho : σ0.heap o = none) : ((σ0.set o x).delO (some o)).set o' y = σ0.set o' y := by
 show ((σ0.set o x).del o).set o' y = _
 rw [Store.set_del ho]
theorem bz_ {σ0 : Store} {s x : Operand} {t e : TypeId} {sz by_ : Nat} {l l2 : List AVal} {b : AVal}
  (ho : o.op = .call { callee := .builtin .append, args := #[s, x], argTypes := #[t, t] }) (hse : aE_ P t = some e) (hte : a5_ P e = some (sz, by_)) (hb : CBp σ0 σ sz l b) (hs : α s = b) (hsz : ∀ y ∈ l, y.cells.length = sz)
  (hx : slOf (α x) = some (sz, l2)) (hone : ∀ y ∈ l2, ∀ c ∈ y.cells, c.one = true) (hlen : (l.length + l2.length) * by_ ≤ 140737488355328)
  (hk : ∀ a' σ', CBp σ0 σ' sz (l ++ l2) a' → Kk a' σ') : AOp P o α σ Kk := by
 subst hs
 have hts : P.underlying t = some (.slice e) := by
  unfold aE_ at hse
  split at hse
  ·rename_i e' he'; obtain rfl := Option.some.inj hse; exact he'
  ·cases hse
 by_cases hne : l2 = []
 ·subst hne
  refine ia_ ho hse hte ?_ (.inl ⟨⟨_, hts⟩, .inl hx, hone⟩) (hk _ _ (by rwa [List.append_nil]))
  rcases hb with ⟨h, _⟩ | ⟨o, _, h, _⟩
  ·exact .inr h
  ·exact .inl ⟨o, _, h⟩
 ·have hfl := aU_ hsz
  rcases hb with ⟨h, rfl, rfl⟩ | ⟨ob, hob, h, rfl⟩
  ·refine bX_ ho hse hte (len := 0) (.inr ⟨h, rfl, rfl, rfl⟩) hx hne hone (by simpa using hlen) fun o' ho' => hk _ _ (.inr ⟨o', ho', by simp, ?_⟩)
   simp [Store.delO]
  ·refine bX_ ho hse hte (.inl ⟨ob, flat l, h, Store.set_get .., rfl, rfl, by rw [hfl]; exact Nat.le_refl _⟩) hx hne hone hlen fun o' ho' => hk _ _ (.inr ⟨o', ?_, by simp, ?_⟩)
   ·by_cases hh : o' = ob
    ·rw [hh]; exact hob
    ·rwa [Store.set_ne _ _ hh] at ho'
   ·rw [np_ hob, List.take_of_length_le (by rw [hfl]; exact Nat.le_refl _), dk_]
theorem ao_.wkA {f : FuncId} {args args' : List AVal} {Q : AVal → Store → Prop} (h : ao_ P f args' σ Q) (hn : args.length = args'.length) (hw : ∀ i (hi : i < args.length) (hi' : i < args'.length), Wk args[i] args'[i]) : ao_ P f args σ Q :=
 fun κ vs hI hs hv => h κ vs hI (hs.trans hn) fun i hi => (hv i (by omega)).wk (hw i (by omega) hi)
end
end Go.Ab
end

section
set_option linter.all false
namespace Go.Ab
open Go.RowKit (Below)
section
variable {P : Program} {o : Oper} {α : Operand → AVal} {σ : Store} {Kk : AVal → Store → Prop}
theorem ix_ {κ : K} {so sz off len cap : Nat} {e : TypeId} {v : Value} (h : Rv κ (.mslc so sz off len cap e) v) : ∃ b, v = .slice (some ⟨b, off, none⟩) len cap ∧ κ.ρ so = some b ∧ len ≤ cap ∧ κ.w.shape? b = some (e, off + cap * sz) := by
 cases h with
 |mslc _ _ _ _ _ _ b n hb hlen hs hn => subst hn; exact ⟨b, rfl, hb, hlen, hs⟩
theorem cu_ {t e : TypeId} (hse : aE_ P t = some e) : P.underlying t = some (.slice e) := by
 unfold aE_ at hse
 split at hse
 ·rename_i e' he'; obtain rfl := Option.some.inj hse; exact he'
 ·cases hse
theorem kw_ {κ : K} {t e : TypeId} {ti : TypeInfo} (ht : P.underlying t = some (.slice e)) (hti : P.info? e = some ti) {lo hi : Option Operand} {ev : Operand → Value} {b off len cap l h : Nat} (hf : ∀ y, (lo = some y ∨ hi = some y) → Rv κ (α y) (ev y)) (hl : alow (lo.map α) = some l) (hh : f3_ len (hi.map α) = some h) (h1 : l ≤ h) (h2 : h ≤ cap) :
  (Instr.sliceAt t (.slice (some ⟨b, off, none⟩) len cap) (lo.map ev) (hi.map ev) none).run P κ.w = .ok (.slice (if cap = l then some ⟨b, off, none⟩ else some ⟨b, off + l * ti.size, none⟩) (h - l) (cap - l)) κ.w := by
 unfold Instr.sliceAt Instr.slice
 simp only [Sem.run_bind, run_underlying ht, Result.andThen_ok]
 rw [bw_ (α := α) hf hl hh h1 h2]
 simp only [Result.andThen_ok, aV_ hti, Sem.run_pure, Option.map_some, bB_]
theorem j1_ {x : Operand} {t e e' : TypeId} {lo hi : Option Operand} {so sz by_ off len cap l h : Nat} (ho : o.op = .slice t x lo hi none) (hse : aE_ P t = some e) (hte : a5_ P e = some (sz, by_)) (hx : α x = .mslc so sz off len cap e') (hl : alow (lo.map α) = some l) (hh : f3_ len (hi.map α) = some h) (h1 : l ≤ h) (h2 : h ≤ cap) (h0 : l = 0 ∨ l < cap) (hk : Kk (.mslc so sz (off + l * sz) (h - l) (cap - l) e') σ) : AOp P o α σ Kk := by
 obtain ⟨dst, op, ty, pos, after, guard⟩ := o
 obtain rfl : op = _ := ho
 intro κ ev hI hxx
 have hv := hxx x (by simp [Op.operands])
 rw [hx] at hv
 obtain ⟨b, hev, hb, hlc, hs⟩ := ix_ hv
 obtain ⟨i, z, hi', _, hsz, _⟩ := a3_ hte
 have hr := kw_ (P := P) (α := α) (κ := κ) (ev := ev) (b := b) (off := off) (cu_ hse) hi' (fun y hy => hxx y (by simp only [Op.operands]; rcases hy with rfl | rfl <;> simp)) hl hh h1 h2
 have hif : (if cap = l then some (⟨b, off, none⟩ : Addr) else some ⟨b, off + l * i.size, none⟩) = some ⟨b, off + l * sz, none⟩ := by
  rw [hsz]
  split
  ·rename_i hcl
   rcases h0 with h0 | h0
   ·subst h0; simp
   ·omega
  ·rfl
 rw [hif] at hr
 refine bo_ (s := Instr.sliceAt t (ev x) (lo.map ev) (hi.map ev) (none.map ev)) rfl ⟨_, κ.w, by rw [hev]; exact hr, κ, .mslc so sz (off + l * sz) (h - l) (cap - l) e', σ, rfl, .refl κ, hI, .mslc so sz _ _ _ e' b _ hb (by omega) hs ?_, hk⟩
 rw [Nat.add_assoc, ← Nat.add_mul, show l + (cap - l) = cap by omega]
theorem kH_ {x y : Operand} {t t2 e e' : TypeId} {d sz by_ off cap : Nat} (ho : o.op = .call { callee := .builtin .copy, args := #[x, y], argTypes := #[t, t2] }) (hse : aE_ P t = some e) (hte : a5_ P e = some (sz, by_)) (hx : (∃ k, α x = .own k sz []) ∨ α x = .mslc d sz off 0 cap e') (hy : α y = .lit (.slice none 0 0)) (hk : Kk (.lit (.int .i64 0)) σ) : AOp P o α σ Kk := by
 obtain ⟨dst, op, ty, pos, after, guard⟩ := o
 obtain rfl : op = _ := ho
 intro κ ev hI hxx
 obtain ⟨i, z, hi, hz, hisz, hiby, hzs, hsz, hby⟩ := a3_ hte
 have hts := cu_ hse
 have hvx := hxx x (by simp [Op.operands, Call.operands])
 have hvy := hxx y (by simp [Op.operands, Call.operands])
 rw [hy] at hvy
 obtain ⟨a, c, hev⟩ : ∃ a c, ev x = .slice a 0 c := by
  rcases hx with ⟨k, hx⟩ | hx
  ·rw [hx] at hvx
   obtain ⟨a, cap, us2, hev2, _⟩ := cG_ (hvx.wk (.own1 _ _ _))
   exact ⟨a, cap, hev2⟩
  ·rw [hx] at hvx
   obtain ⟨b, hev, _⟩ := ix_ hvx
   exact ⟨_, _, hev⟩
 have hl : ∀ (q : Addr), (loadCells q 0).run P κ.w = .ok #[] κ.w := fun q => by simpa using run_loadCells_list (P := P) κ.w q [] (by simp)
 refine bo_ (s := Builtin.copy_ #[t, t2] ty #[ev x, ev y]) (by simp [execOp, resolve, invoke, builtin]) ⟨.int .i64 0, κ.w, ?_, κ, .lit (.int .i64 0), σ, rfl, .refl κ, hI, .lit _, hk⟩
 rw [hev, hvy.litInv]
 cases a <;> simp [Builtin.copy_, run_underlying hts, Builtin.lenOf, Builtin.firstCells, aV_ hi, storeCells, hl, goInt]
theorem jW_ {s x : Operand} {t e : TypeId} {sz by_ : Nat} {l2 : List AVal}
  (ho : o.op = .call { callee := .builtin .append, args := #[s, x], argTypes := #[t, t] }) (hse : aE_ P t = some e) (hte : a5_ P e = some (sz, by_))
  (hs : α s = .sl sz [] true) (hx : slOf (α x) = some (sz, l2)) (hne : l2 ≠ []) (hlen : l2.length * by_ ≤ 140737488355328)
  (hk : ∀ o' c, σ.heap o' = none → l2.length ≤ c → Kk (.mslc o' sz 0 l2.length c e) (σ.set o' (.cells (flat l2)))) : AOp P o α σ Kk := by
 obtain ⟨dst, op, ty, pos, after, guard⟩ := o
 obtain rfl : op = .call { callee := .builtin .append, args := #[s, x], argTypes := #[t, t] } := ho
 intro κ ev hI hxx
 obtain ⟨i, z, hi, hz, hisz, hiby, hzs, hsz, hby⟩ := a3_ hte
 subst hisz
 subst hiby
 have hts := cu_ hse
 have hvs := hxx s (by simp [Op.operands, Call.operands])
 have hvx := hxx x (by simp [Op.operands, Call.operands])
 have hm : 0 < l2.length := List.length_pos_iff.2 hne
 have hle47 : l2.length ≤ 140737488355328 := Nat.le_trans (Nat.le_mul_of_pos_right _ hby) hlen
 obtain ⟨ad, cap2, vs, hevx, hl2sz, hvsr, hcu⟩ : ∃ ad cap2 vs, ev x = .slice (some ad) l2.length cap2 ∧ (∀ y ∈ l2, y.cells.length = i.size) ∧ RvC κ (flat l2) vs ∧ ∀ j u, vs[j]? = some u → κ.w.cell? (ad.add j) = some u := by
  obtain ⟨a, cap, us2, hev, hsz', hr, hc⟩ := cG_ (co_ hx hvx)
  rcases hc with ⟨_, h0, _⟩ | ⟨ad, rfl, hcu⟩
  ·exact absurd h0 hne
  ·exact ⟨ad, cap, us2, hev, hsz', hr, hcu⟩
 have hfl2 : vs.length = l2.length * i.size := by rw [← hvsr.1, aU_ hl2sz]
 obtain ⟨o', ho', hfr⟩ := hI.fresh
 have hd := hI.drew
 have fresh : ∀ (cap' : Nat), l2.length ≤ cap' → Post κ Kk (.slice (some ⟨κ.w.heap.size, 0, none⟩) l2.length cap') (κ.w.drew.alloc (.cells (vs.toArray ++ Builtin.zeroCells z.cells (cap' - l2.length)) e)) := by
  intro cap' hcap
  have hsize : (vs.toArray ++ Builtin.zeroCells z.cells (cap' - l2.length)).size = cap' * i.size := by
   simp only [Array.size_append, List.size_toArray, size_zeroCells, hzs, hfl2, ← Nat.add_mul]
   congr 1; omega
  obtain ⟨κ', hw, hle, hρ, hI'⟩ := hd.2.alloc o' ho' (.cells (flat l2)) (.cells (vs.toArray ++ Builtin.zeroCells z.cells (cap' - l2.length)) e) fun κ' hle hh _ => by
   refine ⟨_, e, hh, ?_, fun j hj => ?_⟩
   ·rw [hsize, hvsr.1, hfl2]; exact Nat.mul_le_mul_right _ hcap
   ·have hj' : j < vs.length := by rw [← hvsr.1]; exact hj
    have e1 : (vs.toArray ++ Builtin.zeroCells z.cells (cap' - l2.length)).getD j undef = vs[j] := by
     simp only [Array.getD_eq_getD_getElem?]
     rw [Array.getElem?_append_left (by simpa using hj')]
     simp [hj']
    rw [e1]
    exact (hvsr.2 j hj hj').mono (hd.1.trans hle)
  have hheap : κ'.w.heap[κ.w.heap.size]? = some (.cells (vs.toArray ++ Builtin.zeroCells z.cells (cap' - l2.length)) e (0, 0)) := by
   rw [hw]; exact Go.heap_alloc_new κ.w.drew _
  exact ⟨κ', .mslc o' i.size 0 l2.length cap' e, _, hw, hd.1.trans hle, hI', .mslc o' i.size 0 _ _ e κ.w.heap.size _ hρ hcap (by unfold World.shape?; rw [hheap]) (by rw [hsize]; omega), hk o' cap' hfr hcap⟩
 refine bo_ (s := Builtin.append_ #[t, t] ty #[ev s, ev x]) (by simp [execOp, resolve, invoke, builtin]) ?_
 rw [hs] at hvs
 have hnil : (ev s = .slice none 0 0) ∨ ∃ b, ev s = .slice (some b) 0 0 := by
  rcases hvs.slInv with ⟨a, h1, h2⟩ | ⟨b, off, cap, vals, h1, hcap, htt, _⟩
  ·cases a with
   |none => exact .inl h1
   |some b => exact .inr ⟨b, h1⟩
  ·right
   have := htt rfl
   simp at this
   subst this
   exact ⟨_, h1⟩
 rw [hevx]
 rcases hnil with h0 | ⟨b, h0⟩
 ·rw [h0]
  have hr := run_append_nil (P := P) κ.w t ty e i z hts hi hz ad l2.length cap2 vs hfl2 hcu hm (by omega) (by omega)
  exact ⟨_, _, hr, fresh _ (grownCap_ge _ _ _ _)⟩
 ·rw [h0]
  have hr := run_append_grow (P := P) κ.w t ty e i z hts hi hz b 0 0 [] (by simp) (by simp) ad l2.length cap2 vs hfl2 hcu (by omega) (by omega) (growslice_fits (by omega) (by simpa using hlen))
  simp only [Nat.zero_add] at hr
  refine ⟨_, _, hr, ?_⟩
  have := fresh (grownCap κ.w l2.length 0 e) (grownCap_ge _ _ _ _)
  simpa using this
theorem f1_ {f : FuncId} {x : Operand} {ts ps : Array TypeId} {t e : TypeId} {n : Nat} (ho : o.op = .call { callee := .value (.func f), args := #[x], argTypes := ts }) (he : fg_ P f = some (Extern.BytealgMakeNoZero.makeNoZero ps #[t])) (ht : P.underlying t = some (.slice e)) (hf : α (.func f) = .lit (.func (.func f) #[] #[]))
  (hx : α x = .lit (.int .i64 (n : Int))) (hn : n ≤ 1099511627776) (hk : ∀ o' c, σ.heap o' = none → n ≤ c → c ≤ maxLen → Kk (.mslc o' 1 0 n c e) (σ.set o' (.cells []))) : AOp P o α σ Kk := by
 obtain ⟨dst', op, ty, pos, after, guard⟩ := o
 obtain rfl : op = _ := ho
 intro κ ev hI hxx
 have hfv : Rv κ (α (.func f)) (ev (.func f)) := hxx (.func f) (by simp [Op.operands, Call.operands])
 rw [hf] at hfv
 have hvx := hxx x (by simp [Op.operands, Call.operands])
 rw [hx] at hvx
 obtain ⟨cs, hrun, hc1, hc2⟩ := Lib.run_makeNoZero (P := P) κ.w ps t e ht n (by omega)
 have hmx : n ≤ maxLen := by simp only [maxLen]; omega
 have hd := hI.drew
 have hd2 := hd.2.drew
 obtain ⟨o', ho', hfr⟩ := hI.fresh
 obtain ⟨κ', hw, hle, hρ, hI'⟩ := hd2.2.alloc o' ho' (.cells []) (.cells cs e) fun κ' hle hh _ => ⟨_, e, hh, Nat.zero_le _, fun j hj => absurd hj (by simp)⟩
 have hheap : κ'.w.heap[κ.w.heap.size]? = some (.cells cs e (0, 0)) := by rw [hw]; exact Go.heap_alloc_new κ.w.drew.drew _
 have hr : (execOp ev ⟨dst', .call { callee := .value (.func f), args := #[x], argTypes := ts }, ty, pos, after, guard⟩).run P κ.w = .ok (.value (.slice (some ⟨κ.w.heap.size, 0, none⟩) n cs.size)) (κ.w.drew.drew.alloc (.cells cs e)) := by
  simp only [execOp, resolve, Sem.run_bind, hfv.litInv, Deferred.ofValue, Sem.run_pure, Result.andThen_ok, invoke]
  rw [gz_ he]
  simp [hvx.litInv, hrun]
 rw [hr]
 exact ⟨κ', .mslc o' 1 0 n cs.size e, _, hw, hd.1.trans (hd2.1.trans hle), hI', .mslc o' 1 0 n cs.size e κ.w.heap.size _ hρ hc1 (by unfold World.shape?; rw [hheap]) (by omega), hk o' cs.size hfr hc1 (hc2 hmx)⟩
theorem mU_ {x : Operand} {e : TypeId} {so sz cap : Nat} {cs : List AVal} (ho : o.op = .assign x ∨ o.op = .move x) (hx : α x = .mslc so sz 0 0 cap e) (hh : σ.heap so = some (.cells cs)) (hc : cap ≤ maxLen) (hk : ∀ t', σ.tok t' = none → Kk (.own t' sz []) ((σ.del so).newTok none t' (e, sz))) : AOp P o α σ Kk := by
 intro κ ev hI hxx
 have hv := hxx x (by rcases ho with ho | ho <;> (rw [ho]; simp [Op.operands]))
 rw [hx] at hv
 have he : (execOp ev o).run P κ.w = .ok (.value (ev x)) κ.w := by
  obtain ⟨dst, op, ty, pos, after, guard⟩ := o
  rcases ho with ho | ho <;> (obtain rfl : op = _ := ho; simp [execOp])
 rw [he]
 obtain ⟨b, hev, hb, _, hs⟩ := ix_ hv
 obtain ⟨b', hb', hbase, hIb, c, e2, hheap, hl, hR⟩ := hI.heap so _ hh
 rw [hb] at hb'
 obtain rfl := Option.some.inj hb'
 have hce : e2 = e ∧ c.size = cap * sz := by
  unfold World.shape? at hs
  rw [hheap] at hs
  simp only [Option.some.injEq, Prod.mk.injEq] at hs
  exact ⟨hs.1, by omega⟩
 obtain ⟨rfl, hcz⟩ := hce
 obtain ⟨t', ht', htok'⟩ := hI.freshTok
 obtain ⟨κ', hκ⟩ : ∃ κ' : K, κ' = { κ with τ := fun i => if i = t' then some (ev x) else κ.τ i } := ⟨_, rfl⟩
 have hle : κ.Le κ' := by
  rw [hκ]
  refine ⟨rfl, Below.refl _ _, fun _ _ h => h, fun _ _ h => h, fun t v h => ?_, fun _ => Nat.le_refl _, fun _ _ _ _ h => h, Nat.le_refl _⟩
  show (if t = t' then _ else _) = _
  rw [if_neg (fun hh' => by rw [hh', ht'] at h; cases h)]
  exact h
 have hw : κ'.w = κ.w := by rw [hκ]
 have hτ : κ'.τ t' = some (ev x) := by rw [hκ]; simp
 have hτo : ∀ t, t ≠ t' → κ'.τ t = κ.τ t := fun t ht => by rw [hκ]; simp [ht]
 have hρ : κ'.ρ = κ.ρ := by rw [hκ]
 have hII : κ'.I = κ.I := by rw [hκ]
 have hb0 : κ'.base = κ.base := by rw [hκ]
 have htb : aN_ (ev x) = some b := by rw [hev]; rfl
 have hold : ∀ i y, (σ.del so).heap i = some y → i ≠ so ∧ σ.heap i = some y := fun i y hy => by
  by_cases hi : i = so
  ·rw [hi, Store.del_get] at hy; cases hy
  ·rw [Store.del_ne _ hi] at hy; exact ⟨hi, hy⟩
 have htk : ∀ t q, ((σ.del so).newTok none t' (e2, sz)).tok t = some q → (t = t' ∧ q = (e2, sz)) ∨ (t ≠ t' ∧ σ.tok t = some q) := fun t q hq => by
  simp only [Store.newTok] at hq
  by_cases ht : t = t'
  ·rw [if_pos ht] at hq; exact .inl ⟨ht, (Option.some.inj hq).symm⟩
  ·rw [if_neg ht] at hq; simp at hq; exact .inr ⟨ht, hq⟩
 have htok1 : fo_ κ' (e2, sz) (ev x) := by
  refine ⟨0, [], ⟨by simp, .inr ⟨b, cap, c, (0, 0), hev, by rw [hb0]; exact hbase, by rw [hw]; exact hheap, .inl rfl, Nat.zero_le _, hc, hcz, by simp⟩⟩, fun q hq => ?_⟩
  rw [htb] at hq
  obtain rfl := Option.some.inj hq
  rw [hII, hIb]; simp
 have hI' : Inv κ' ((σ.del so).newTok none t' (e2, sz)) := by
  refine ⟨hI.glob.le hle, by rw [hb0, hw]; exact hI.base, fun i y hy => ?_, fun i i' y y' k hy hy' => ?_, fun t q hq => ?_, fun t u q q' v v' k hq hq' hv1 hv2 hk1 hk2 => ?_, fun t q v k i y hq hv1 hk1 hy => ?_, by rw [hρ]; exact hI.frO, ?_, fun k hk => by rw [hII]; exact hI.frI k (by rw [← hw]; exact hk)⟩
  ·obtain ⟨_, hy'⟩ := hold i y hy
   obtain ⟨k, hk, hkb, hkI, hR'⟩ := hI.heap i y hy'
   exact ⟨k, by rw [hρ]; exact hk, by rw [hb0]; exact hkb, by rw [hII]; exact hkI, hR'.mono hle (by rw [hw])⟩
  ·rw [hρ]; exact hI.inj i i' y y' k (hold i y hy).2 (hold i' y' hy').2
  ·rcases htk t q hq with ⟨rfl, rfl⟩ | ⟨ht, hq⟩
   ·exact ⟨_, hτ, htok1⟩
   ·obtain ⟨v, hv1, hok⟩ := hI.tok t q hq
    exact ⟨v, by rw [hτo t ht]; exact hv1, hok.mono hle fun k _ => ⟨by rw [hw], by rw [hII]⟩⟩
  ·rcases htk t q hq with ⟨rfl, rfl⟩ | ⟨ht, hq0⟩
   ·rcases htk u q' hq' with ⟨rfl, rfl⟩ | ⟨hu, hq1⟩
    ·rfl
    ·exfalso
     rw [hτ] at hv1
     obtain rfl := Option.some.inj hv1
     rw [htb] at hk1
     obtain rfl := Option.some.inj hk1
     rw [hτo u hu] at hv2
     exact hI.tokobj u q' v' b so _ hq1 hv2 hk2 hh hb
   ·rcases htk u q' hq' with ⟨rfl, rfl⟩ | ⟨hu, hq1⟩
    ·exfalso
     rw [hτ] at hv2
     obtain rfl := Option.some.inj hv2
     rw [htb] at hk2
     obtain rfl := Option.some.inj hk2
     rw [hτo t ht] at hv1
     exact hI.tokobj t q v b so _ hq0 hv1 hk1 hh hb
    ·rw [hτo t ht] at hv1
     rw [hτo u hu] at hv2
     exact hI.tokinj t u q q' v v' k hq0 hq1 hv1 hv2 hk1 hk2
  ·obtain ⟨hi, hy'⟩ := hold i y hy
   rw [hρ]
   rcases htk t q hq with ⟨rfl, rfl⟩ | ⟨ht, hq⟩
   ·rw [hτ] at hv1
    obtain rfl := Option.some.inj hv1
    rw [htb] at hk1
    obtain rfl := Option.some.inj hk1
    intro hib
    exact hi (hI.inj i so y _ b hy' hh hib hb)
   ·rw [hτo t ht] at hv1
    exact hI.tokobj t q v k i y hq hv1 hk1 hy'
  ·obtain ⟨N, hN⟩ := hI.frT
   refine ⟨N + t' + 1, fun t ht => ?_⟩
   rw [hτo t (by omega)]
   exact hN t (by omega)
 refine ⟨κ', .own t' sz [], _, hw, hle, hI', .own t' sz [] _ ?_ hτ, hk t' htok'⟩
 rw [hev]
 exact .sl sz [] false b 0 cap (fun _ => undef) (Nat.zero_le _) (by simp) (by simp) (fun k hk => absurd hk (by simp [flat])) (fun k hk => absurd hk (by simp [flat]))
end
end Go.Ab
end

section
set_option linter.all false
namespace Go.Ab
section
variable {P : Program} {ops : Array Oper} {s0 : Store} {Kk : Env → Store → Prop} {o : Oper} {i : Nat} {r : DT} {e : Env} {σ : Store}
end
end Go.Ab
end

section
set_option linter.all false
namespace Go.Ab
open Go.RowKit (Below)
section
variable {P : Program} {o : Oper} {α : Operand → AVal} {σ : Store} {Kk : AVal → Store → Prop}
theorem Store.set_same {o : Nat} {x : AObj} (h : σ.heap o = some x) : σ.set o x = σ := by
 unfold Store.set
 have : (fun k => if k = o then some x else σ.heap k) = σ.heap := by
  funext k
  split
  ·rename_i hk; subst hk; exact h.symm
  ·rfl
 rw [this]
theorem kF_ {x : Operand} {t e : TypeId} {so sz off len : Nat} {z : Value} {cs : List AVal} (ho : o.op = .call { callee := .builtin .clear, args := #[x], argTypes := #[t] }) (hse : aE_ P t = some e) (hz : b9_ P e = some z)
  (hzs : z.cells.size = sz) (hzo : ∀ j, j < z.cells.size → (AVal.lit z.cells[j]!).one = true) (hx : α x = .msl so sz off len) (hh : σ.heap so = some (.cells cs)) (hle : off + len * sz ≤ cs.length)
  (hk : ∀ zs : List AVal, zs.length = len * sz → Kk (.tup []) (σ.set so (.cells (aput cs off zs)))) : AOp P o α σ Kk := by
 obtain ⟨dst, op, ty, pos, after, guard⟩ := o
 obtain rfl : op = _ := ho
 intro κ ev hI hxx
 have hts : P.underlying t = some (.slice e) := by
  unfold aE_ at hse
  split at hse
  ·rename_i e' he'; obtain rfl := Option.some.inj hse; exact he'
  ·cases hse
 have hv := hxx x (by simp [Op.operands, Call.operands])
 rw [hx] at hv
 obtain ⟨b, cap, hev, hb⟩ : ∃ b cap, ev x = .slice (some ⟨b, off, none⟩) len cap ∧ κ.ρ so = some b := by
  generalize ev x = u at hv
  cases hv with
  |msl _ _ _ _ b cap n el hb hlc hsh hcap => exact ⟨b, cap, rfl, hb⟩
 have hnil : ∀ κ' : K, Rv κ' (.tup []) (.tuple #[]) := fun κ' => .tup [] #[] rfl (fun i hi => by simp at hi)
 by_cases h0 : len = 0
 ·subst h0
  refine bo_ (s := Builtin.clear_ #[t] ty #[ev x]) (by simp [execOp, resolve, invoke, builtin]) ⟨.tuple #[], κ.w, ?_, κ, .tup [], σ, rfl, .refl κ, hI, hnil κ, ?_⟩
  ·rw [hev]; simp [Builtin.clear_, run_underlying hts]
  ·have := hk [] (by simp)
   rw [iS_ _ _ (by omega), Store.set_same hh] at this
   exact this
 ·have hzl : (Builtin.zeroCells z.cells len).size = len * z.cells.size := by simp [Builtin.zeroCells]
  obtain ⟨w', h1, h2, h3⟩ := b7_ (P := P) (b := b) (off := off) (i := so) ((Builtin.zeroCells z.cells len).toList.map .lit) (Builtin.zeroCells z.cells len).toList 0 κ σ cs hI hh hb (by simp) (fun k hk hk' => by
   rw [List.getElem_map]; exact .lit _) (fun a ha => by
   obtain ⟨c, hc, rfl⟩ := List.mem_map.1 ha
   rw [Array.mem_toList_iff] at hc
   obtain ⟨k, hk, rfl⟩ := Array.mem_iff_getElem.1 hc
   rw [hzl] at hk
   have hpos : 0 < z.cells.size := by rcases Nat.eq_zero_or_pos z.cells.size with h | h; rw [h] at hk; simp at hk; exact h
   have : (Builtin.zeroCells z.cells len)[k]'(by rw [hzl]; exact hk) = z.cells[k % z.cells.size]! := by simp [Builtin.zeroCells]
   rw [this]
   exact hzo _ (Nat.mod_lt _ hpos)) (by simp [hzl, hzs]; omega)
  refine bo_ (s := Builtin.clear_ #[t] ty #[ev x]) (by simp [execOp, resolve, invoke, builtin]) ⟨.tuple #[], w', ?_, { κ with w := w' }, .tup [], _, rfl, h2, h3, hnil _, ?_⟩
  ·rw [hev]
   obtain ⟨m, rfl⟩ := Nat.exists_eq_succ_of_ne_zero h0
   simp only [Builtin.clear_, Sem.run_bind, List.getElem?_toArray, List.getElem?_cons_zero, Sem.run_pure, Result.andThen_ok, run_underlying hts, ba_ hz]
   simp only [Nat.succ_eq_add_one] at h1
   simp [h1]
  ·rw [Nat.add_zero]
   exact hk _ (by simp [hzl, hzs])
end
end Go.Ab
end

section
set_option linter.all false
namespace Go.Ab
section
variable {S S0 σ : Store} {o i : Nat} {x y z : AObj}
end
end Go.Ab
end

section
set_option linter.all false
set_option maxRecDepth 100000
namespace Go.Ab
open Go.RowKit (Below)
section
variable {P : Program} {o : Oper} {α : Operand → AVal} {σ : Store} {Kk : AVal → Store → Prop}
theorem ml_ {κ : K} {sz : Nat} {tight : Bool} {v : Value} (h : Rv κ (.sl sz [] tight) v) : ∃ a cap, v = .slice a 0 cap ∧ Rv κ (.sl sz [] false) v := by
 generalize hl : ([] : List AVal) = l at h
 cases h with
 |slNil => exact ⟨_, _, rfl, .slNil _ _⟩
 |slE => exact ⟨_, _, rfl, .slE _ _ _⟩
 |sl _ _ _ b off cap vals hcap ht hsz hc hv => subst hl; exact ⟨_, _, rfl, .sl sz [] false b off cap vals hcap (by simp) hsz hc hv⟩
theorem jX_ {t yt : TypeId} {x y : Operand} {sz e : Nat} {tight : Bool} (ho : o.op = .binOp .eql t x y yt) (hse : aE_ P t = some e) (hx : α x = .sl sz [] tight) (hy : α y = .lit (.slice none 0 0)) (hk : ∀ b, Kk (.lit (.bool b)) σ) : AOp P o α σ Kk := by
 obtain ⟨dst, op, ty, pos, after, guard⟩ := o
 obtain rfl : op = _ := ho
 intro κ ev hI hxx
 have hvx := hxx x (by simp [Op.operands])
 have hvy := hxx y (by simp [Op.operands])
 rw [hx] at hvx
 rw [hy] at hvy
 have hts : P.underlying t = some (.slice e) := by
  unfold aE_ at hse
  split at hse
  ·rename_i e' he'; obtain rfl := Option.some.inj hse; exact he'
  ·cases hse
 obtain ⟨a, cap, hev, _⟩ := ml_ hvx
 have hb : (binOp .eql t (ev x) (ev y)).run P κ.w = .ok (.bool a.isNone) κ.w := by
  have e1 : binOp .eql t (ev x) (ev y) = (do pure (.bool (← Op.equal t (ev x) (ev y)))) := by
   rw [hev, hvy.litInv]
   rfl
  rw [e1, hev, hvy.litInv]
  simp only [Sem.run_bind, run_equal_slice_nil κ.w t e a 0 cap hts, Result.andThen_ok, Sem.run_pure]
 have hg : (eqGuard .eql t x y (ev x) (ev y)).run P κ.w = .ok () κ.w := bv_ (by rintro u v ⟨h1, _⟩; rw [hev] at h1; cases h1) (by intro h1; rw [hev] at h1; cases h1)
 refine bo_ (s := do eqGuard .eql t x y (ev x) (ev y); binOp .eql t (ev x) (ev y)) (by simp [execOp]) ⟨.bool a.isNone, κ.w, ?_, κ, .lit (.bool a.isNone), σ, rfl, .refl κ, hI, .lit _, hk _⟩
 simp only [Sem.run_bind, hg, Result.andThen_ok, hb]
end
section
variable {P : Program} {o : Oper} {α : Operand → AVal} {σ : Store} {Kk : AVal → Store → Prop}
theorem gE_ {s x : Operand} {t e : TypeId} {sz by_ : Nat} {t1 t2 : Bool}
  (ho : o.op = .call { callee := .builtin .append, args := #[s, x], argTypes := #[t, t] }) (hse : aE_ P t = some e) (hte : a5_ P e = some (sz, by_))
  (hs : α s = .sl sz [] t1) (hx : α x = .sl sz [] t2) (hk : Kk (.sl sz [] t1) σ) : AOp P o α σ Kk := by
 obtain ⟨dst, op, ty, pos, after, guard⟩ := o
 obtain rfl : op = .call { callee := .builtin .append, args := #[s, x], argTypes := #[t, t] } := ho
 intro κ ev hI hxx
 obtain ⟨i, z, hi, hz, hisz, hiby, hzs, hsz, hby⟩ := a3_ hte
 have hts := cu_ hse
 have hvs := hxx s (by simp [Op.operands, Call.operands])
 have hvx := hxx x (by simp [Op.operands, Call.operands])
 have hsrc0 : ASrc P sz t (α x) [] := o0_ hts (by rw [hx]; rfl) (by simp)
 obtain ⟨vs, _, hvsr, hsrc⟩ := hsrc0.spec hvx
 have hv0 : vs = [] := List.eq_nil_of_length_eq_zero (by rw [← hvsr.1]; rfl)
 subst hv0
 rw [hs] at hvs
 obtain ⟨a, cap, hev, hw⟩ := ml_ hvs
 refine bo_ (s := Builtin.append_ #[t, t] ty #[ev s, ev x]) (by simp [execOp, resolve, invoke, builtin]) ⟨ev s, κ.w, ?_, κ, .sl sz [] t1, σ, rfl, .refl κ, hI, hvs, hk⟩
 rw [hev]
 exact cF_ hts hi hisz hsrc a 0 cap (Nat.zero_le _)
end
section
variable {P : Program} {ops : Array Oper} {s0 : Store} {Kk : Env → Store → Prop} {o : Oper} {i : Nat} {r : DT} {e : Env} {σ : Store}
end
section
variable {P : Program} {σ : Store}
theorem ao_.aft {f : FuncId} {args : List AVal} {Q1 Q2 : AVal → Store → Prop} (h : ao_ P f args σ Q1)
  (hk : ∀ (κ : K) a σ' cv, Inv κ σ' → Rv κ a cv → Q1 a σ' → ∃ κ' a' σ'', κ'.w = κ.w ∧ κ.Le κ' ∧ Inv κ' σ'' ∧ Rv κ' a' cv ∧ Q2 a' σ'') : ao_ P f args σ Q2 :=
 fun κ vs hI hn hv => (h κ vs hI hn hv).mono fun e w' ⟨cv, he, κ1, a, σ', h1, h2, h3, h4, h5⟩ => by
  obtain ⟨κ2, a', σ'', g1, g2, g3, g4, g5⟩ := hk κ1 a σ' cv h3 h4 h5
  exact ⟨cv, he, κ2, a', σ'', g1.trans h1, h2.trans g2, g3, g4, g5⟩
end
end Go.Ab
namespace Go.Proofs.YtkcmbjodladflaaGreatDoor
open Go.Ab
theorem gP_ {α : Type} {f : α → Bool} : ∀ {l : List α} {r : Nat} {x : α}, l[r]? = some x → f x = true → (∀ m y, m < r → l[m]? = some y → f y = false) → l.find? f = some x
 |[], r, x, h, _, _ => by simp at h
 |a :: l, 0, x, h, hx, _ => by
  simp only [List.getElem?_cons_zero, Option.some.injEq] at h
  subst h
  rw [List.find?_cons_of_pos hx]
 |a :: l, r + 1, x, h, hx, hm => by
  rw [List.find?_cons_of_neg (by rw [hm 0 a (by omega) rfl]; simp)]
  exact gP_ (r := r) h hx fun m y hmr hy => hm (m + 1) y (by omega) hy
end Go.Proofs.YtkcmbjodladflaaGreatDoor
end

section
set_option linter.all false
namespace Go.Ab
open Go.RowKit (Below)
open Go.Shelf Go.Proofs
section
variable {P : Program} {σ : Store}
def rowed (w : World) (n b : Nat) (f : Array Value → Array Value) (os : Array Obj) : World := Sort.grow (Sort.mapBlock (Sort.ahead w n) b f) os
theorem ct_ (w : World) (n : Nat) {b b' : Nat} (f : Array Value → Array Value) (os : Array Obj) (h : b' ≠ b) (hlt : b' < w.heap.size) : (rowed w n b f os).heap[b']? = w.heap[b']? := by
 unfold rowed Sort.grow Sort.mapBlock Sort.ahead
 dsimp only
 rw [Array.getElem?_append_left (by simpa using hlt), Array.getElem?_modify, if_neg (Ne.symm h)]
theorem kt_ {w : World} (n : Nat) {b : Nat} (f : Array Value → Array Value) (os : Array Obj) {c : Array Value} {e : TypeId} {fr : Nat × Nat} (h : w.heap[b]? = some (.cells c e fr)) : (rowed w n b f os).heap[b]? = some (.cells (f c) e fr) := by
 have hlt : b < w.heap.size := (Array.getElem?_eq_some_iff.1 h).1
 unfold rowed Sort.grow Sort.mapBlock Sort.ahead
 dsimp only
 rw [Array.getElem?_append_left (by simpa using hlt), Array.getElem?_modify, if_pos rfl, h]
 rfl
theorem Inv.rowed {κ : K} (h : Inv κ σ) {o : Nat} {cs cs' : List AVal} (ho : σ.heap o = some (.cells cs)) {b : Nat} (hb : κ.ρ o = some b) (n : Nat) (f : Array Value → Array Value) (os : Array Obj) (hf : ∀ c, (f c).size = c.size)
  (hv : ∀ c : Array Value, cs.length ≤ c.size → (∀ i (hi : i < cs.length), Rv κ cs[i] (c.getD i undef)) → cs'.length ≤ c.size ∧ ∀ i (hi : i < cs'.length), Rv κ cs'[i] ((f c).getD i undef)) :
  κ.Le { κ with w := Ab.rowed κ.w n b f os } ∧ Inv { κ with w := Ab.rowed κ.w n b f os } (σ.set o (.cells cs')) := by
 obtain ⟨b', hb', hbase, hIb, c, e, hheap, hlen, hR⟩ := h.heap o _ ho
 rw [hb] at hb'
 obtain rfl := Option.some.inj hb'
 have hlt : b < κ.w.heap.size := (Array.getElem?_eq_some_iff.1 hheap).1
 have hnew := kt_ n f os hheap
 have hle : κ.Le { κ with w := Ab.rowed κ.w n b f os } := by
  refine ⟨rfl, ⟨rfl, rfl, rfl, by simp [Ab.rowed, Sort.grow, Sort.mapBlock, Sort.ahead], fun k hk => ?_⟩, fun b' s e' => ?_, fun _ _ e' => e', fun _ _ e' => e', fun _ => Nat.le_refl _, fun b' off' u hi e' => ?_, by simp [Ab.rowed, Sort.grow, Sort.mapBlock, Sort.ahead]⟩
  ·exact ct_ _ _ _ _ (by omega) (by omega)
  ·by_cases hbb : b' = b
   ·subst hbb
    unfold World.shape? at e' ⊢
    rw [hheap] at e'
    dsimp only
    rw [hnew]
    simpa [hf] using e'
   ·have hlt' : b' < κ.w.heap.size := by
     unfold World.shape? at e'
     cases hq : κ.w.heap[b']? with
     |none => rw [hq] at e'; cases e'
     |some q => exact (Array.getElem?_eq_some_iff.1 hq).1
    unfold World.shape? at e' ⊢
    dsimp only
    rw [ct_ _ _ _ _ hbb hlt']; exact e'
  ·have hne : b' ≠ b := fun hh' => by rw [hh', hIb] at hi; omega
   have hlt' : b' < κ.w.heap.size := by
    unfold World.cell? at e'
    cases hq : κ.w.heap[b']? with
    |none => rw [hq] at e'; cases e'
    |some q => exact (Array.getElem?_eq_some_iff.1 hq).1
   simp only [World.cell?] at e' ⊢
   rw [ct_ _ _ _ _ hne hlt']; exact e'
 obtain ⟨h1, h2⟩ := hv c hlen hR
 have big : κ.w.heap.size ≤ (Ab.rowed κ.w n b f os).heap.size := hle.below.size
 refine ⟨hle, ?_⟩
 refine h.step hle rfl rfl h.frO b hbase hIb (fun b' hne hl' => ct_ _ _ _ _ hne hl') o _ (fun _ _ => rfl) hb ⟨f c, e, hnew, by rw [hf]; exact h1, fun i hi => (h2 i hi).mono hle⟩ ?_ ?_
 ·intro j z hz hne hh'
  exact hne (h.inj j o _ _ b hz ho hh' hb)
 ·intro t sz u ht hu hh'
  exact h.tokobj t sz u b o _ ht hu hh' ho hb
theorem i9_ {α : Type} [Inhabited α] {κ : K} (enc : α → Value) (d : Array α) {b : Nat} {c : Array Value} {e : TypeId} (hh : κ.w.heap[b]? = some (.cells c e (0, 0))) (hl : d.size ≤ c.size) (h : ∀ j, j < d.size → c.getD j undef = enc d[j]!) : Sort.Holds enc κ.w b 0 d := by
 intro j hj
 refine ⟨?_, by simp [World.frozen?, hh]⟩
 have h1 := h j hj
 simp only [World.cell?, hh, Nat.zero_add]
 rw [← h1]
 simp [show j < c.size by omega]
theorem eF_ {α : Type} [Inhabited α] (enc : α → Value) (off : Nat) (d : Array α) (c : Array Value) : (Sort.putCells enc off d c).size = c.size := by simp [Sort.putCells]
theorem fP_ {α : Type} [Inhabited α] (enc : α → Value) (d : Array α) (c : Array Value) (j : Nat) (hj : j < d.size) (hc : d.size ≤ c.size) : (Sort.putCells enc 0 d c).getD j undef = enc d[j]! := by
 simp [Sort.putCells, show j < c.size by omega, hj]
theorem Rv.mslInv {κ : K} {o sz off len : Nat} {v : Value} (h : Rv κ (.msl o sz off len) v) : ∃ b cap, v = .slice (some ⟨b, off, none⟩) len cap ∧ κ.ρ o = some b := by
 cases h with
 |msl _ _ _ _ b cap n e hb hlen hs hn => exact ⟨b, cap, rfl, hb⟩
theorem l3_ {κ κ' : K} {σ : Store} (hle : κ.Le κ') (hI : Inv κ' σ) {Kk : AVal → Store → Prop} (hk : Kk (.tup []) σ) : Post κ Kk (.tuple #[]) κ'.w :=
 ⟨κ', .tup [], σ, rfl, hle, hI, .tup [] #[] rfl (fun i hi => by simp at hi), hk⟩
theorem of_ {α : Type} [Inhabited α] (enc : α → Value) {f : FuncId} {o : Nat} (zs zs' : List α) (hlen : zs'.length = zs.length) (ho : σ.heap o = some (.cells (zs.map fun z => .lit (enc z)))) (extra : List AVal) (ev : List Value)
  (h : ∀ (b cap : Nat) (w : World), Sort.Holds enc w b 0 zs.toArray → b < w.heap.size → Calls P f (#[.slice (some ⟨b, 0, none⟩) zs.length cap] ++ ev.toArray) w fun e w' => e = .returned (.tuple #[]) ∧ ∃ n os, w' = Sort.grow (Sort.putRow enc (Sort.ahead w n) b 0 zs'.toArray) os)
  (he : extra = ev.map .lit) : ao_ P f (.msl o 1 0 zs.length :: extra) σ fun v σ' => v = .tup [] ∧ σ' = σ.set o (.cells (zs'.map fun z => .lit (enc z))) := by
 intro κ vs hI hn hv
 subst he
 obtain ⟨b, cap, e0, hb⟩ := (hv 0 (by simp)).mslInv
 have hvs : vs = #[.slice (some ⟨b, 0, none⟩) zs.length cap] ++ ev.toArray := by
  apply Array.ext (by simpa [Nat.add_comm] using hn)
  intro i h1 h2
  have hi : i < (AVal.msl o 1 0 zs.length :: ev.map .lit).length := by rw [← hn]; exact h1
  have hr := hv i hi
  have eg : vs.getD i undef = vs[i] := by simp [h1]
  rw [eg] at hr
  cases i with
  |zero => rw [← eg, e0]; simp
  |succ i =>
   simp only [List.getElem_cons_succ, List.getElem_map] at hr
   rw [hr.litInv]
   simp [Array.getElem_append]
 obtain ⟨b', hb', hbase, hIb, c, e, hheap, hlen', hR⟩ := hI.heap o _ ho
 rw [hb] at hb'
 obtain rfl := Option.some.inj hb'
 have hlt : b < κ.w.heap.size := (Array.getElem?_eq_some_iff.1 hheap).1
 have hH : Sort.Holds enc κ.w b 0 zs.toArray := i9_ enc zs.toArray hheap (by simpa using hlen') fun j hj => by
  have hj' : j < zs.length := by simpa using hj
  have h1 := hR j (by simpa using hj')
  simp only [List.getElem_map] at h1
  rw [h1.litInv]
  simp [hj']
 rw [hvs]
 refine (h b cap κ.w hH hlt).mono fun ex w' ⟨he, n, os, hw⟩ => ⟨_, he, ?_⟩
 have key := hI.rowed ho hb n (Sort.putCells enc 0 zs'.toArray) os (fun c => eF_ enc 0 _ c) (cs' := zs'.map fun z => .lit (enc z)) (fun c hc _ => ⟨by simpa [hlen] using hc, fun i hi => by
  have hi' : i < zs'.length := by simpa using hi
  rw [fP_ enc zs'.toArray c i (by simpa using hi') (by simp at hc ⊢; omega)]
  simp [hi']
  exact .lit _⟩)
 rw [hw]
 exact l3_ (κ' := { κ with w := Ab.rowed κ.w n b (Sort.putCells enc 0 zs'.toArray) os }) key.1 key.2 ⟨rfl, rfl⟩
end
end Go.Ab
end

section
set_option linter.all false
namespace Go.Ab
open Go.RowKit (Below)
open Go.Shelf Go.Proofs Go.Sort
section
variable {P : Program} {σ : Store}
end
end Go.Ab
end

section
set_option linter.all false
namespace Go.Ab
end Go.Ab
end

section
set_option linter.all false
set_option maxRecDepth 100000
namespace Go.Proofs
open Go.Shelf
def mr_ : Go.Shelf.Ren := ⟨(fun n => match n with | 125 => 115 | 128 => 166 | 129 => 167 | 190 => 126 | 258 => 175 | 302 => 204 | 303 => 205 | 304 => 206 | 305 => 207 | 306 => 208 | 307 => 209 | 308 => 210 | 309 => 211 | 310 => 212 | 329 => 198 | 330 => 199 | 333 => 230 | 334 => 231 | 335 => 232 | 336 => 233 | 344 => 252 | _ => 0), (fun n => match n with | 0 => 0 | 3 => 3 | 4 => 4 | 5 => 5 | 9 => 9 | 31 => 50 | 46 => 139 | 51 => 185 | 53 => 187 | 131 => 98 | 182 => 178 | 183 => 179 | 218 => 213 | 222 => 217 | 228 => 238 | 229 => 122 | _ => 0), (fun n => match n with  | _ => 0)⟩
theorem r5_ : Lays.n190 Tryz.prog mr_ := {
 mixed := Tryz.mixed
 f125 := by kernel_rfl
 f128 := by kernel_rfl
 f129 := by kernel_rfl
 f190 := by kernel_rfl
 f258 := by kernel_rfl
 f302 := by kernel_rfl
 f303 := by kernel_rfl
 f304 := by kernel_rfl
 f305 := by kernel_rfl
 f306 := by kernel_rfl
 f307 := by kernel_rfl
 f308 := by kernel_rfl
 f309 := by kernel_rfl
 f310 := by kernel_rfl
 f329 := by kernel_rfl
 f330 := by kernel_rfl
 f333 := by kernel_rfl
 f334 := by kernel_rfl
 f335 := by kernel_rfl
 f336 := by kernel_rfl
 f344 := by kernel_rfl
 t0 := Tryz.underlying0
 a0 := Tryz.isAgg0
 z0 := Tryz.sizeOf0
 v0 := Tryz.zeroValue0
 t3 := Tryz.underlying3
 a3 := Tryz.isAgg3
 z3 := Tryz.sizeOf3
 v3 := Tryz.zeroValue3
 t4 := Tryz.underlying4
 a4 := Tryz.isAgg4
 z4 := Tryz.sizeOf4
 v4 := Tryz.zeroValue4
 t5 := Tryz.underlying5
 a5 := Tryz.isAgg5
 z5 := Tryz.sizeOf5
 v5 := Tryz.zeroValue5
 t9 := Tryz.underlying9
 a9 := Tryz.isAgg9
 z9 := Tryz.sizeOf9
 v9 := Tryz.zeroValue9
 t31 := Tryz.underlying50
 a31 := Tryz.isAgg50
 z31 := Tryz.sizeOf50
 v31 := Tryz.zeroValue50
 t46 := Tryz.underlying139
 a46 := Tryz.isAgg139
 z46 := Tryz.sizeOf139
 v46 := Tryz.zeroValue139
 t51 := Tryz.underlying185
 a51 := Tryz.isAgg185
 z51 := Tryz.sizeOf185
 v51 := Tryz.zeroValue185
 t53 := Tryz.underlying187
 a53 := Tryz.isAgg187
 z53 := Tryz.sizeOf187
 v53 := Tryz.zeroValue187
 t131 := Tryz.underlying98
 a131 := Tryz.isAgg98
 z131 := Tryz.sizeOf98
 v131 := Tryz.zeroValue98
 t182 := Tryz.underlying178
 a182 := Tryz.isAgg178
 z182 := Tryz.sizeOf178
 v182 := Tryz.zeroValue178
 t183 := Tryz.underlying179
 a183 := Tryz.isAgg179
 z183 := Tryz.sizeOf179
 v183 := Tryz.zeroValue179
 t218 := Tryz.underlying213
 a218 := Tryz.isAgg213
 z218 := Tryz.sizeOf213
 v218 := Tryz.zeroValue213
 t222 := Tryz.underlying217
 a222 := Tryz.isAgg217
 z222 := Tryz.sizeOf217
 v222 := Tryz.zeroValue217
 t228 := Tryz.underlying238
 a228 := Tryz.isAgg238
 z228 := Tryz.sizeOf238
 v228 := Tryz.zeroValue238
 t229 := Tryz.underlying122
 a229 := Tryz.isAgg122
 z229 := Tryz.sizeOf122
 v229 := Tryz.zeroValue122 }
end Go.Proofs
namespace Go.Proofs.YtkcmbjodladflaaGreatDoor
open Go.Ab Go.Shelf
def bK_ (ss : List ByteArray) : List ByteArray := ((ss.map Lb).mergeSort fun x y => decide (x ≤ y)).map B
theorem ms_ {o : Nat} {ss : List ByteArray} {σ : Store} (ho : σ.heap o = some (.cells (ss.map vStr))) (hl : ss.length ≤ 1000000000) :
    ao_ Tryz.prog 126 [.msl o 1 0 ss.length] σ fun v σ' => v = .tup [] ∧ σ' = σ.set o (.cells ((bK_ ss).map vStr)) := by
  have e1 : ∀ z : List (List UInt8), (z.map fun l => AVal.lit (Go.Proofs.encStr l)) = (z.map B).map vStr := fun z => by rw [List.map_map]; rfl
  have e2 : (ss.map Lb).map B = ss := by rw [List.map_map]; conv => rhs; rw [← List.map_id ss]
                                         apply List.map_congr_left; intro x _; exact B_Lb x
  have h := of_ (P := Tryz.prog) (σ := σ) (f := 126) (o := o) Go.Proofs.encStr (ss.map Lb) ((ss.map Lb).mergeSort fun x y => decide (x ≤ y)) (by simp) (by rw [e1, e2]; exact ho) [] [] (fun b cap w hH hb => by
    have h : Calls Tryz.prog 126 #[.slice (some ⟨b, 0, none⟩) (ss.map Lb).length cap] w _ := Any.slices_Sort_string r5_ b 0 cap (ss.map Lb) w hH hb (by simp; omega)
    simpa using h) rfl
  rw [e1] at h
  simpa only [List.length_map, bK_] using h
theorem mq_ {f : FuncId} {σ : Store} (h : ∀ w, Calls Tryz.prog f #[.slice none 0 0] w fun e w' => e = .returned (.tuple #[]) ∧ w' = w) :
  ao_ Tryz.prog f [.lit (.slice none 0 0)] σ fun v σ' => v = .tup [] ∧ σ' = σ := by
 intro κ vs hI hn hv
 have e0 := (hv 0 (by simp)).litInv
 have hvs : vs = #[.slice none 0 0] := by
  apply Array.ext (by simpa using hn)
  intro i h1 h2
  simp at h2
  subst h2
  have eg : vs.getD 0 undef = vs[0] := by simp [h1]
  rw [← eg, e0]; rfl
 rw [hvs]
 exact (h κ.w).mono fun ex w' ⟨he, hw⟩ => ⟨_, he, by rw [hw]; exact l3_ (K.Le.refl κ) hI ⟨rfl, rfl⟩⟩
end Go.Proofs.YtkcmbjodladflaaGreatDoor
end

section
set_option linter.all false
set_option maxRecDepth 100000
namespace Go.Proofs
open Go.Shelf
def gL_ : Go.Shelf.Ren := ⟨(fun n => match n with | 194 => 127 | _ => 0), (fun n => match n with | 0 => 0 | 3 => 3 | 4 => 4 | 9 => 9 | 31 => 50 | _ => 0), (fun n => match n with  | _ => 0)⟩
theorem hx_ : Lays.n194 Tryz.prog gL_ := {
 mixed := Tryz.mixed
 f194 := by kernel_rfl
 t0 := Tryz.underlying0
 a0 := Tryz.isAgg0
 z0 := Tryz.sizeOf0
 v0 := Tryz.zeroValue0
 t3 := Tryz.underlying3
 a3 := Tryz.isAgg3
 z3 := Tryz.sizeOf3
 v3 := Tryz.zeroValue3
 t4 := Tryz.underlying4
 a4 := Tryz.isAgg4
 z4 := Tryz.sizeOf4
 v4 := Tryz.zeroValue4
 t9 := Tryz.underlying9
 a9 := Tryz.isAgg9
 z9 := Tryz.sizeOf9
 v9 := Tryz.zeroValue9
 t31 := Tryz.underlying50
 a31 := Tryz.isAgg50
 z31 := Tryz.sizeOf50
 v31 := Tryz.zeroValue50 }
end Go.Proofs
namespace Go.Ab
open Go.RowKit (Below)
open Go.Shelf Go.Proofs
section
variable {P : Program} {σ : Store}
theorem ao_.after {f : FuncId} {args : List AVal} {Q1 Q2 : AVal → Store → Prop} (h : ao_ P f args σ Q1)
  (hk : ∀ (κ : K) a σ' cv, Inv κ σ' → Rv κ a cv → Q1 a σ' → ∃ κ' a' σ'', κ'.w = κ.w ∧ κ.Le κ' ∧ Inv κ' σ'' ∧ Rv κ' a' cv ∧ Q2 a' σ'') : ao_ P f args σ Q2 :=
 fun κ vs hI hn hv => (h κ vs hI hn hv).mono fun e w' ⟨cv, he, κ1, a, σ', h1, h2, h3, h4, h5⟩ => by
  obtain ⟨κ2, a', σ'', g1, g2, g3, g4, g5⟩ := hk κ1 a σ' cv h3 h4 h5
  exact ⟨cv, he, κ2, a', σ'', g1.trans h1, h2.trans g2, g3, g4, g5⟩
theorem ij_ {α : Type} [Inhabited α] (enc : α → Value) {f : FuncId} {o k : Nat} (zs ys : List α) (hlen : ys.length = zs.length) (hk : k ≤ zs.length) (ho : σ.heap o = some (.cells (zs.map fun z => .lit (enc z))))
  (h : ∀ (b cap : Nat) (w : World), Sort.Holds enc w b 0 zs.toArray → zs.length ≤ cap → Calls P f #[.slice (some ⟨b, 0, none⟩) zs.length cap] w fun e w' => e = .returned (.slice (some ⟨b, 0, none⟩) k cap) ∧ ∃ q, w' = Sort.putRow enc (Sort.ahead w q) b 0 ys.toArray) :
  ao_ P f [.msl o 1 0 zs.length] σ fun v σ' => v = .msl o 1 0 k ∧ σ' = σ.set o (.cells (ys.map fun z => .lit (enc z))) := by
 intro κ vs hI hn hv
 have hv0 := hv 0 (by simp)
 simp only [List.getElem_cons_zero] at hv0
 have hvs : ∃ u, vs = #[u] ∧ vs.getD 0 undef = u := by
  have h1 : 0 < vs.size := by rw [hn]; simp
  refine ⟨vs[0], ?_, by simp [h1]⟩
  apply Array.ext (by simpa using hn)
  intro i h1 h2
  simp at h2; subst h2; rfl
 obtain ⟨u, rfl, hu⟩ := hvs
 rw [hu] at hv0
 cases hv0 with
 |msl _ _ _ _ b cap nn e1 hb hlc hs hnn =>
 obtain ⟨b', hb', hbase, hIb, c, e, hheap, hlen', hR⟩ := hI.heap o _ ho
 rw [hb] at hb'
 obtain rfl := Option.some.inj hb'
 have hlt : b < κ.w.heap.size := (Array.getElem?_eq_some_iff.1 hheap).1
 have hH : Sort.Holds enc κ.w b 0 zs.toArray := i9_ enc zs.toArray hheap (by simpa using hlen') fun j hj => by
  have hj' : j < zs.length := by simpa using hj
  have h1 := hR j (by simpa using hj')
  simp only [List.getElem_map] at h1
  rw [h1.litInv]
  simp [hj']
 refine (h b cap κ.w hH hlc).mono fun ex w' ⟨he, q, hw⟩ => ⟨_, he, ?_⟩
 have key := hI.rowed ho hb q (Sort.putCells enc 0 ys.toArray) #[] (fun c => eF_ enc 0 _ c) (cs' := ys.map fun z => .lit (enc z)) (fun c hc _ => ⟨by simpa [hlen] using hc, fun i hi => by
  have hi' : i < ys.length := by simpa using hi
  rw [fP_ enc ys.toArray c i (by simpa using hi') (by simp at hc ⊢; omega)]
  simp [hi']
  exact .lit _⟩)
 have hw2 : w' = Ab.rowed κ.w q b (Sort.putCells enc 0 ys.toArray) #[] := by rw [hw]; simp [Ab.rowed, Sort.grow, Sort.putRow]
 rw [hw2]
 exact ⟨{ κ with w := Ab.rowed κ.w q b (Sort.putCells enc 0 ys.toArray) #[] }, .msl o 1 0 k, _, rfl, key.1, key.2, .msl o 1 0 k b cap nn e1 hb (by omega) (key.1.shape _ _ hs) hnn, rfl, rfl⟩
end
end Go.Ab
namespace Go.Proofs.YtkcmbjodladflaaGreatDoor
open Go.Ab Go.Shelf
theorem ey_ (ss : List ByteArray) : flat (ss.map vStr) = ss.map vStr := i4_ fun x hx => by
 obtain ⟨s, _, rfl⟩ := List.mem_map.1 hx
 rfl
def bC_ (ss : List ByteArray) : List ByteArray := (Lib.compact (ss.map Lb)).map B
theorem g8_ {σ0 σ : Store} {ss : List ByteArray} {a : AVal} (h : CBp σ0 σ 1 (ss.map vStr) a) (hl : ss.length ≤ 1000000000) :
  ao_ Tryz.prog 126 [a] σ fun v σ' => v = .tup [] ∧ CBp σ0 σ' 1 ((bK_ ss).map vStr) a := by
 rcases h with ⟨rfl, h0, rfl⟩ | ⟨o, ho, rfl, rfl⟩
 ·obtain rfl : ss = [] := by simpa using h0
  exact (mq_ fun w => Any.slices_Sort_string_none r5_ none 0 w).wkS fun v σ' ⟨hv, hs⟩ => ⟨v, σ', .refl _, .refl _, hv, .inl ⟨rfl, by simp [bK_], hs⟩⟩
 ·rw [ey_, List.length_map]
  exact (ms_ (Store.set_get ..) hl).wkS fun v σ' ⟨hv, hs⟩ => ⟨v, σ', .refl _, .refl _, hv, .inr ⟨o, ho, by simp [bK_], by rw [hs, Store.set_set, ey_]⟩⟩
theorem n0_ {f : FuncId} {σ : Store} (h : ∀ w, Calls Tryz.prog f #[.slice none 0 0] w fun e w' => e = .returned (.slice none 0 0) ∧ w' = w) :
  ao_ Tryz.prog f [.lit (.slice none 0 0)] σ fun v σ' => v = .lit (.slice none 0 0) ∧ σ' = σ := by
 intro κ vs hI hn hv
 have e0 := (hv 0 (by simp)).litInv
 have hvs : vs = #[.slice none 0 0] := by
  apply Array.ext (by simpa using hn)
  intro i h1 h2
  simp at h2
  subst h2
  have eg : vs.getD 0 undef = vs[0] := by simp [h1]
  rw [← eg, e0]; rfl
 rw [hvs]
 exact (h κ.w).mono fun ex w' ⟨he, hw⟩ => ⟨_, he, by rw [hw]; exact ⟨κ, _, σ, rfl, .refl κ, hI, .lit _, rfl, rfl⟩⟩
theorem eg_ {σ0 σ : Store} {ss : List ByteArray} {a : AVal} (h : CBp σ0 σ 1 (ss.map vStr) a) (hl : ss.length ≤ 1000000000) (hc : (Lib.compact (ss.map Lb)).length ≤ ss.length) :
  ao_ Tryz.prog 127 [a] σ fun v σ' => v = .sl 1 ((bC_ ss).map vStr) false ∧ σ0 = σ' := by
 rcases h with ⟨rfl, h0, rfl⟩ | ⟨o, ho, rfl, rfl⟩
 ·obtain rfl : ss = [] := by simpa using h0
  exact (n0_ fun w => Any.slices_Compact_string_empty hx_ none 0 w).wkS fun v σ' ⟨hv, hs⟩ => ⟨_, σ', by rw [hv]; exact .nil 1 false, .refl _, rfl, hs.symm⟩
 ·rw [ey_, List.length_map]
  have e1 : ∀ z : List (List UInt8), (z.map fun l => AVal.lit (Go.Proofs.encStr l)) = (z.map B).map vStr := fun z => by rw [List.map_map]; rfl
  have e2 : (ss.map Lb).map B = ss := by
   rw [List.map_map]; conv => rhs; rw [← List.map_id ss]
   apply List.map_congr_left; intro x _; exact B_Lb x
  have key := ij_ (P := Tryz.prog) (f := 127) (o := o) (σ := σ0.set o (.cells (ss.map vStr))) Go.Proofs.encStr (ss.map Lb) (Lib.compact (ss.map Lb) ++ List.replicate ((ss.map Lb).length - (Lib.compact (ss.map Lb)).length) []) (k := (Lib.compact (ss.map Lb)).length) (by simp; omega) (by simpa using hc) (by rw [e1, e2]; exact Store.set_get ..) fun b cap w hH hcap => Any.slices_Compact_string hx_ b 0 cap (ss.map Lb) w hH (by simp; omega) hcap
  rw [List.length_map] at key
  refine key.after ?_
  rintro κ _ _ cv hI hr ⟨rfl, rfl⟩
  obtain ⟨κ', h1, h2, h3, h4⟩ := Ab.freeze hI hr (Store.set_get ..) (l := (bC_ ss).map vStr) (by rw [ey_, e1, List.map_append, List.map_append, Nat.mul_one, List.take_left' (by simp)]; rfl) (by simp [bC_]) fun x hx => by
   obtain ⟨s, _, rfl⟩ := List.mem_map.1 hx
   rfl
  rw [Store.set_set, Store.set_del ho] at h3
  exact ⟨κ', _, _, h1, h2, h3, h4, rfl, rfl⟩
end Go.Proofs.YtkcmbjodladflaaGreatDoor
end

section
set_option linter.all false
set_option maxRecDepth 100000
namespace Go.Proofs.YtkcmbjodladflaaGreatDoor
open Go.Ab
theorem fT_ (a b : ByteArray) : sLt a b = decide (Lb a < Lb b) := by rw [sLt, bytesLess_eq, Lib.toList_data, Lib.toList_data]; rfl
theorem dc_ (a : ByteArray) : sLt a a = false := by rw [fT_]; simp [List.lt_irrefl]
theorem eI_ {a b c : ByteArray} (h : sLt a b = true) (k : sLt b c = true) : sLt a c = true := by
 rw [fT_, decide_eq_true_eq] at *
 exact List.lt_trans h k
theorem iB_ {a b : ByteArray} (h : sLt a b = false) (hn : a ≠ b) : sLt b a = true := by
 rw [fT_, decide_eq_false_iff_not] at h
 rw [fT_, decide_eq_true_eq]
 by_cases k : Lb b < Lb a
 ·exact k
 ·exact absurd (fn_ (List.le_antisymm (List.not_lt.1 k) (List.not_lt.1 h))) hn
theorem fS_ {α : Type} {r : α → α → Prop} (irr : ∀ a, ¬ r a a) (tr : ∀ a b c, r a b → r b c → r a c) : ∀ {l m : List α}, l.Pairwise r → m.Pairwise r → (∀ x, x ∈ l ↔ x ∈ m) → l = m
 |[], [], _, _, _ => rfl
 |[], y :: m, _, _, h => absurd ((h y).2 (.head _)) (by simp)
 |x :: l, [], _, _, h => absurd ((h x).1 (.head _)) (by simp)
 |x :: l, y :: m, hl, hm, h => by
  rw [List.pairwise_cons] at hl hm
  have hxy : x = y := by
   rcases List.mem_cons.1 ((h x).1 (.head _)) with e | e
   ·exact e
   ·rcases List.mem_cons.1 ((h y).2 (.head _)) with e' | e'
    ·exact e'.symm
    ·exact absurd (tr _ _ _ (hm.1 x e) (hl.1 y e')) (irr _)
  subst hxy
  rw [fS_ irr tr hl.2 hm.2 fun z => ?_]
  constructor
  ·intro hz
   rcases List.mem_cons.1 ((h z).1 (.tail _ hz)) with e | e
   ·subst e; exact absurd (hl.1 _ hz) (irr _)
   ·exact e
  ·intro hz
   rcases List.mem_cons.1 ((h z).2 (.tail _ hz)) with e | e
   ·subst e; exact absurd (hm.1 _ hz) (irr _)
   ·exact e
theorem dr_ {α : Type} [Inhabited α] [DecidableEq α] {r : α → α → Prop} (tr : ∀ a b c, r a b → r b c → r a c) (zs : List α) (hs : zs.Pairwise fun x y => x = y ∨ r x y) :
  ∀ m, m ≤ zs.length → (Lib.compactUpTo zs.toArray m).Pairwise r ∧ (∀ x, x ∈ Lib.compactUpTo zs.toArray m ↔ x ∈ zs.take m) ∧ (∀ x ∈ Lib.compactUpTo zs.toArray m, ∀ y, zs[m - 1]? = some y → x = y ∨ r x y)
 |0, _ => by simp [Lib.compactUpTo]
 |m + 1, hm => by
  obtain ⟨h1, h2, h3⟩ := dr_ tr zs hs m (by omega)
  have hz : zs[m]? = some zs[m] := List.getElem?_eq_getElem (by omega)
  have hz' : zs.toArray[m]! = zs[m] := by simp [show m < zs.length by omega]
  rw [Lib.compactUpTo_succ, hz']
  have ht : zs.take (m + 1) = zs.take m ++ [zs[m]] := by rw [List.take_succ_eq_append_getElem (by omega)]
  have e1 : ∀ y, zs[m + 1 - 1]? = some y → y = zs[m] := fun y hy => by rw [Nat.add_sub_cancel, hz] at hy; exact (Option.some.inj hy).symm
  by_cases hk : m = 0
  ·subst hk
   have : Lib.keeps zs.toArray 0 = true := by simp [Lib.keeps]
   rw [this, ht]
   have hn : Lib.compactUpTo zs.toArray 0 = [] := by simp [Lib.compactUpTo]
   rw [hn]
   refine ⟨by simp, by simp, fun x hx y hy => ?_⟩
   have := e1 y hy
   simp at hx; subst hx; left; exact this.symm
  ·have hp : zs[m - 1]? = some zs[m - 1] := List.getElem?_eq_getElem (by omega)
   have hp' : zs.toArray[m - 1]! = zs[m - 1] := by simp [show m - 1 < zs.length by omega]
   have hord := List.pairwise_iff_getElem.1 hs (m - 1) m (by omega) (by omega) (by omega)
   by_cases he : zs[m] = zs[m - 1]
   ·have : Lib.keeps zs.toArray m = false := by simp only [Lib.keeps, hz', hp']; simp [hk, he]
    rw [this]
    simp only [Bool.false_eq_true, if_false, List.append_nil]
    refine ⟨h1, fun x => ?_, fun x hx y hy => ?_⟩
    ·rw [h2 x, ht, List.mem_append, List.mem_singleton]
     constructor
     ·exact .inl
     ·rintro (h | h)
      ·exact h
      ·rw [h, he]; exact List.mem_take_iff_getElem.2 ⟨m - 1, by omega, rfl⟩
    ·rw [e1 y hy, he]; exact h3 x hx _ hp
   ·have : Lib.keeps zs.toArray m = true := by simp only [Lib.keeps, hz', hp']; simp [he]
    rw [this]
    simp only [if_true]
    have hlt : r zs[m - 1] zs[m] := by
     rcases hord with h | h
     ·exact absurd h.symm he
     ·exact h
    have hall : ∀ x ∈ Lib.compactUpTo zs.toArray m, r x zs[m] := fun x hx => by
     rcases h3 x hx _ hp with h | h
     ·rw [h]; exact hlt
     ·exact tr _ _ _ h hlt
    refine ⟨?_, fun x => ?_, fun x hx y hy => ?_⟩
    ·rw [List.pairwise_append]
     exact ⟨h1, List.pairwise_singleton _ _, fun x hx y hy => by rw [List.mem_singleton.1 hy]; exact hall x hx⟩
    ·rw [List.mem_append, h2 x, ht, List.mem_append]
    ·rw [e1 y hy]
     rcases List.mem_append.1 hx with h | h
     ·exact .inr (hall x h)
     ·exact .inl (List.mem_singleton.1 h)
theorem hy_ {α : Type} [Inhabited α] [DecidableEq α] {r : α → α → Prop} (tr : ∀ a b c, r a b → r b c → r a c) (zs : List α) (hs : zs.Pairwise fun x y => x = y ∨ r x y) :
  (Lib.compact zs).Pairwise r ∧ ∀ x, x ∈ Lib.compact zs ↔ x ∈ zs := by
 obtain ⟨h1, h2, _⟩ := dr_ tr zs hs zs.length (Nat.le_refl _)
 rw [List.take_length] at h2
 exact ⟨h1, h2⟩
def f2_ (l : List ByteArray) : Prop := l.Pairwise fun x y => sLt x y = true
theorem dR_ (ss : List ByteArray) : f2_ (bC_ (bK_ ss)) ∧ ∀ s, s ∈ bC_ (bK_ ss) ↔ s ∈ ss := by
 have e : (bK_ ss).map Lb = (ss.map Lb).mergeSort fun x y => decide (x ≤ y) := by
  unfold bK_
  rw [List.map_map]
  conv => rhs; rw [← List.map_id ((ss.map Lb).mergeSort fun x y => decide (x ≤ y))]
  apply List.map_congr_left; intro x _; exact Lb_B x
 have hs : ((bK_ ss).map Lb).Pairwise fun x y : List UInt8 => x = y ∨ x < y := by
  rw [e]
  have := List.pairwise_mergeSort (le := fun x y : List UInt8 => decide (x ≤ y)) (fun a b c h1 h2 => by simp only [decide_eq_true_eq] at *; exact List.le_trans h1 h2) (fun a b => by simp only [Bool.or_eq_true, decide_eq_true_eq]; exact List.le_total a b) (ss.map Lb)
  exact this.imp fun {a b} h => by
   simp only [decide_eq_true_eq] at h
   by_cases hlt : a < b
   ·exact .inr hlt
   ·exact .inl (List.le_antisymm h (List.not_lt.1 hlt))
 obtain ⟨h1, h2⟩ := hy_ (r := fun x y : List UInt8 => x < y) (fun a b c h1 h2 => List.lt_trans h1 h2) _ hs
 refine ⟨?_, fun s => ?_⟩
 ·unfold f2_ bC_
  rw [List.pairwise_map]
  exact h1.imp fun h => by rw [fT_, Lb_B, Lb_B]; exact decide_eq_true h
 ·unfold bC_
  rw [List.mem_map]
  constructor
  ·rintro ⟨l, hl, rfl⟩
   have := (h2 l).1 hl
   rw [e, List.mem_mergeSort] at this
   obtain ⟨t, ht, rfl⟩ := List.mem_map.1 this
   rw [B_Lb]; exact ht
  ·intro hs'
   exact ⟨Lb s, (h2 _).2 (by rw [e, List.mem_mergeSort]; exact List.mem_map.2 ⟨s, hs', rfl⟩), B_Lb s⟩
theorem hW_ {l m : List ByteArray} (hl : f2_ l) (hm : f2_ m) (h : ∀ x, x ∈ l ↔ x ∈ m) : l = m :=
 fS_ (r := fun x y : ByteArray => sLt x y = true) (fun a => by rw [dc_]; simp) (fun a b c h1 h2 => eI_ h1 h2) hl hm h
theorem dO_ {α : Type} [Inhabited α] [DecidableEq α] (zs : List α) : (Lib.compact zs).length ≤ zs.length := by
 unfold Lib.compact Lib.compactUpTo
 rw [List.length_map]
 refine Nat.le_trans (List.length_filter_le _ _) (by simp)
def insS (s : ByteArray) : List ByteArray → List ByteArray
 |[] => [s]
 |x :: l => if sLt x s = true then x :: insS s l else if x = s then x :: l else s :: x :: l
theorem gS_ {s x : ByteArray} : ∀ {l : List ByteArray}, x ∈ insS s l ↔ x = s ∨ x ∈ l
 |[] => by simp [insS]
 |m :: l => by
  unfold insS
  split
  ·rw [List.mem_cons, gS_ (l := l), List.mem_cons]
   constructor
   ·rintro (h | h | h)
    ·exact .inr (.inl h)
    ·exact .inl h
    ·exact .inr (.inr h)
   ·rintro (h | h | h)
    ·exact .inr (.inl h)
    ·exact .inl h
    ·exact .inr (.inr h)
  ·split
   ·rename_i h; subst h; simp
   ·simp
theorem hM_ {s : ByteArray} : ∀ {l : List ByteArray}, f2_ l → f2_ (insS s l)
 |[], _ => List.pairwise_singleton _ _
 |m :: l, h => by
  have h' : f2_ (m :: l) := h
  unfold f2_ at h
  have hp := List.pairwise_cons.1 h
  unfold insS
  split
  ·rename_i hm
   exact List.pairwise_cons.2 ⟨fun x hx => by rcases gS_.1 hx with rfl | hx; exact hm; exact hp.1 x hx, hM_ hp.2⟩
  ·rename_i hm
   split
   ·exact h'
   ·rename_i hn
    have hlt : sLt s m = true := iB_ (by simpa using hm) hn
    exact List.pairwise_cons.2 ⟨fun x hx => by rcases List.mem_cons.1 hx with rfl | hx; exact hlt; exact eI_ hlt (hp.1 x hx), h⟩
theorem lJ_ : ∀ (M l : List ByteArray), f2_ l → f2_ (M.foldl (fun acc s => insS s acc) l) ∧ ∀ x, x ∈ M.foldl (fun acc s => insS s acc) l ↔ x ∈ l ∨ x ∈ M
 |[], l, h => ⟨h, fun x => by simp⟩
 |s :: M, l, h => by
  obtain ⟨h1, h2⟩ := lJ_ M (insS s l) (hM_ h)
  refine ⟨h1, fun x => ?_⟩
  rw [List.foldl_cons, h2, gS_, List.mem_cons]
  constructor
  ·rintro ((h | h) | h)
   ·exact .inr (.inl h)
   ·exact .inl h
   ·exact .inr (.inr h)
  ·rintro (h | h | h)
   ·exact .inl (.inr h)
   ·exact .inl (.inl h)
   ·exact .inr h
theorem jc_ (M : List ByteArray) : M.foldl (fun acc s => insS s acc) [] = bC_ (bK_ M) := by
 obtain ⟨h1, h2⟩ := lJ_ M [] .nil
 exact hW_ h1 (dR_ M).1 fun x => by rw [(dR_ M).2, h2]; simp
theorem jt_ (M : List ByteArray) : (bC_ (bK_ M)).length ≤ M.length := by
 unfold bC_
 rw [List.length_map]
 refine Nat.le_trans (dO_ _) ?_
 simp [bK_]
end Go.Proofs.YtkcmbjodladflaaGreatDoor
end

section
set_option linter.all false
set_option maxRecDepth 100000
namespace Go.Proofs.YtkcmbjodladflaaGreatDoor
open Go.Ab
theorem cB_ {m : Nat} (h : m < 10) : Lib.decDigits m = [UInt8.ofNat (48 + m)] := by rw [Lib.decDigits, dif_pos h]
theorem dP_ {m : Nat} (h : ¬ m < 10) : Lib.decDigits m = Lib.decDigits (m / 10) ++ [UInt8.ofNat (48 + m % 10)] := by conv => lhs; rw [Lib.decDigits, dif_neg h]
theorem digN {d : Nat} (h : d < 10) : (UInt8.ofNat (48 + d)).toNat = 48 + d := by
 rw [UInt8.toNat_ofNat']
 exact Nat.mod_eq_of_lt (by omega)
theorem oN_ : ∀ (l r : List UInt8) (a b : Nat), Lib.parseUint10 a l = .ok b → Lib.parseUint10 a (l ++ r) = Lib.parseUint10 b r
 |[], r, a, b, h => by
  simp only [Lib.parseUint10] at h
  injection h with h
  rw [h]; rfl
 |c :: l, r, a, b, h => by
  simp only [Lib.parseUint10, List.cons_append] at h ⊢
  split at h
  ·rename_i h1
   rw [if_pos h1]
   split at h
   ·cases h
   ·rename_i h2
    rw [if_neg h2]
    split at h
    ·cases h
    ·rename_i h3
     rw [if_neg h3]
     exact oN_ l r _ b h
  ·cases h
theorem oP_ {a d : Nat} (hd : d < 10) (h : a * 10 + d < 18446744073709551616) : Lib.parseUint10 a [UInt8.ofNat (48 + d)] = .ok (a * 10 + d) := by
 have e := digN hd
 simp only [Lib.parseUint10, e]
 rw [if_pos (by omega), if_neg (by omega), if_neg (by omega), show 48 + d - 48 = d by omega]
theorem oO_ : ∀ (k u : Nat), u ≤ k → u < 18446744073709551616 → Lib.parseUint10 0 (Lib.decDigits u) = .ok u
 |k, u, hk, hu => by
  by_cases h : u < 10
  ·rw [cB_ h, oP_ h (by omega)]
   congr 1; omega
  ·match k, hk with
   |0, hk => omega
   |k + 1, hk =>
    rw [dP_ h, oN_ _ _ _ _ (oO_ k (u / 10) (by omega) (by omega)), oP_ (Nat.mod_lt _ (by decide)) (by omega)]
    congr 1; omega
theorem k7_ : ∀ (k u : Nat), u ≤ k → ∀ c ∈ Lib.decDigits u, 48 ≤ c.toNat ∧ c.toNat ≤ 57
 |k, u, hk => by
  by_cases h : u < 10
  ·rw [cB_ h]
   intro c hc
   rw [List.mem_singleton.1 hc, digN h]; omega
  ·match k, hk with
   |0, hk => omega
   |k + 1, hk =>
    rw [dP_ h]
    intro c hc
    rcases List.mem_append.1 hc with hc | hc
    ·exact k7_ k (u / 10) (by omega) c hc
    ·rw [List.mem_singleton.1 hc, digN (Nat.mod_lt _ (by decide))]; omega
theorem k8_ (u : Nat) : Lib.decDigits u ≠ [] := by
 by_cases h : u < 10
 ·rw [cB_ h]; simp
 ·rw [dP_ h]; simp
theorem im_ : ∀ (k u : Nat), u < 10 ^ (k + 1) → (Lib.decDigits u).length ≤ k + 1
 |0, u, h => by rw [cB_ (by simpa using h)]; simp
 |k + 1, u, h => by
  by_cases h1 : u < 10
  ·rw [cB_ h1]; simp
  ·rw [dP_ h1, List.length_append]
   have := im_ k (u / 10) (by rw [Nat.pow_succ] at h; omega)
   simp; omega
theorem lN_ {u : Nat} (hu : u < 18446744073709551616) : Lib.parseMag (Lib.decDigits u) = .ok u := by
 unfold Lib.parseMag
 rw [if_neg (k8_ u), oO_ u u (Nat.le_refl _) hu]
theorem kX_ {v : Int} (h0 : -9223372036854775808 ≤ v) (h1 : v ≤ 9223372036854775807) : Lib.atoiAll (Lib.itoa v) = .ok v := by
 by_cases hn : v < 0
 ·obtain ⟨u, rfl⟩ : ∃ u : Nat, v = -(u : Int) := ⟨v.natAbs, by omega⟩
  rw [Lib.itoa_neg u (by omega), Lib.atoiAll_minus, lN_ (by omega)]
  unfold Lib.signed
  simp only
  rw [if_neg (by omega)]
 ·obtain ⟨u, rfl⟩ : ∃ u : Nat, v = (u : Int) := ⟨v.natAbs, by omega⟩
  rw [Lib.itoa_nonneg]
  cases hd : Lib.decDigits u with
  |nil => exact absurd hd (k8_ u)
  |cons c r =>
   have hc := k7_ u u (Nat.le_refl _) c (by rw [hd]; exact .head _)
   rw [Lib.atoiAll_plain c r (by omega) (by omega), ← hd, lN_ (by omega)]
   unfold Lib.signless
   simp only
   rw [if_neg (by omega)]
def numS (s : ByteArray) : Option Int := match Lib.atoiAll (Lb s) with | .ok v => if B (Lib.itoa v) = s then some v else none | _ => none
theorem fJ_ {s : ByteArray} {v : Int} : numS s = some v ↔ s = B (Lib.itoa v) ∧ -9223372036854775808 ≤ v ∧ v ≤ 9223372036854775807 := by
 constructor
 ·intro h
  unfold numS at h
  split at h
  ·rename_i u hu
   split at h
   ·rename_i he
    injection h with h
    subst h
    exact ⟨he.symm, Lib.atoiAll_bounds hu⟩
   ·cases h
  ·cases h
 ·rintro ⟨rfl, h0, h1⟩
  unfold numS
  rw [Lb_B, kX_ h0 h1]
  simp only
  rw [if_pos trivial]
theorem kf_ {v : Int} (h0 : -9223372036854775808 ≤ v) (h1 : v ≤ 9223372036854775807) : 1 ≤ (Lib.itoa v).length ∧ (Lib.itoa v).length ≤ 20 := by
 by_cases hn : v < 0
 ·obtain ⟨u, rfl⟩ : ∃ u : Nat, v = -(u : Int) := ⟨v.natAbs, by omega⟩
  rw [Lib.itoa_neg u (by omega), List.length_cons]
  have := im_ 18 u (by omega)
  omega
 ·obtain ⟨u, rfl⟩ : ∃ u : Nat, v = (u : Int) := ⟨v.natAbs, by omega⟩
  rw [Lib.itoa_nonneg]
  have := im_ 18 u (by omega)
  have h2 := k8_ u
  have : (Lib.decDigits u).length ≠ 0 := fun e => h2 (List.eq_nil_of_length_eq_zero e)
  omega
theorem qz_ {x : Int} (h0 : -9223372036854775808 ≤ x) (h1 : x ≤ 9223372036854775807) : IntKind.i64.wrap x = x := by
 unfold IntKind.wrap
 simp only [IntKind.bits, IntKind.signed, Bool.true_and]
 have e1 : (2 : Int) ^ 64 = 18446744073709551616 := by decide
 have e2 : (2 : Int) ^ 63 = 9223372036854775808 := by decide
 simp only [e1, e2, show (64 - 1 : Nat) = 63 from rfl]
 split <;> simp at * <;> omega
end Go.Proofs.YtkcmbjodladflaaGreatDoor
end

section
set_option linter.all false
set_option maxRecDepth 100000
namespace Go.Proofs.YtkcmbjodladflaaGreatDoor
open Go.Ab
def aY_ : List UInt8 → List (List UInt8)
 |[] => [[]]
 |c :: l => if c = 47 then [] :: aY_ l else (c :: (aY_ l).headD []) :: (aY_ l).tail
theorem fU_ : ∀ (l : List UInt8), aY_ l ≠ []
 |[] => by simp [aY_]
 |c :: l => by unfold aY_; split <;> simp
theorem dI_ : ∀ {a b : List UInt8}, (∀ c ∈ a, c ≠ 47) → aY_ (a ++ 47 :: b) = a :: aY_ b
 |[], b, _ => by rw [List.nil_append, aY_, if_pos rfl]
 |c :: a, b, h => by
  have ih := dI_ (a := a) (b := b) fun d hd => h d (.tail _ hd)
  rw [List.cons_append, aY_, if_neg (h c (.head _)), ih]; rfl
theorem cH_ : ∀ {a : List UInt8}, (∀ c ∈ a, c ≠ 47) → aY_ a = [a]
 |[], _ => rfl
 |c :: a, h => by
  have ih := cH_ (a := a) fun d hd => h d (.tail _ hd)
  rw [aY_, if_neg (h c (.head _)), ih]; rfl
theorem kB_ (l : List UInt8) : 1 ≤ (aY_ l).length ∧ (aY_ l).length ≤ l.length + 1 := by
 induction l with
 |nil => simp [aY_]
 |cons c l ih =>
  unfold aY_
  split
  ·simp; omega
  ·simp; omega
theorem cN_ : ∀ {l : List UInt8} {p : List UInt8}, p ∈ aY_ l → (∀ c ∈ p, c ≠ 47) ∧ p.length ≤ l.length
 |[], p, h => by
  rw [aY_, List.mem_singleton] at h
  subst h
  exact ⟨fun c hc => (by cases hc), Nat.le_refl _⟩
 |c :: l, p, h => by
  have hh : (aY_ l).headD [] ∈ aY_ l := by
   cases hs : aY_ l with
   |nil => exact absurd hs (fU_ l)
   |cons a b => exact .head _
  unfold aY_ at h
  split at h
  ·rcases List.mem_cons.1 h with rfl | h
   ·exact ⟨fun c hc => (by cases hc), Nat.zero_le _⟩
   ·obtain ⟨h1, h2⟩ := cN_ h
    exact ⟨h1, by rw [List.length_cons]; omega⟩
  ·rename_i hc
   rcases List.mem_cons.1 h with rfl | h
   ·obtain ⟨h1, h2⟩ := cN_ hh
    exact ⟨fun d hd => by rcases List.mem_cons.1 hd with rfl | hd; exact hc; exact h1 d hd, by rw [List.length_cons, List.length_cons]; omega⟩
   ·obtain ⟨h1, h2⟩ := cN_ (List.mem_of_mem_tail h)
    exact ⟨h1, by rw [List.length_cons]; omega⟩
theorem gA_ : ∀ {l p q : List UInt8} {r : List (List UInt8)}, aY_ l = p :: q :: r → ∃ b, l = p ++ 47 :: b ∧ aY_ b = q :: r
 |[], p, q, r, h => by simp [aY_] at h
 |c :: l, p, q, r, h => by
  unfold aY_ at h
  split at h
  ·rename_i hc
   injection h with h1 h2
   subst hc; subst h1
   exact ⟨l, rfl, h2⟩
  ·rename_i hc
   injection h with h1 h2
   cases hs : aY_ l with
   |nil => exact absurd hs (fU_ l)
   |cons a b =>
    rw [hs] at h1 h2
    simp only [List.headD_cons, List.tail_cons] at h1 h2
    subst h2
    obtain ⟨b', e1, e2⟩ := gA_ hs
    exact ⟨b', by rw [← h1, e1]; rfl, e2⟩
def aH_ (s : ByteArray) : List ByteArray := if s.size = 0 then [] else (aY_ (Lb s)).map B
theorem dT_ (s : ByteArray) : (aH_ s).length ≤ s.size + 1 := by
 unfold aH_
 split
 ·simp
 ·rw [List.length_map]; have := (kB_ (Lb s)).2; rw [aB_] at this; omega
theorem c9_ {s x : ByteArray} (h : x ∈ aH_ s) : (∀ c ∈ Lb x, c ≠ 47) ∧ x.size ≤ s.size := by
 unfold aH_ at h
 split at h
 ·cases h
 ·obtain ⟨p, hp, rfl⟩ := List.mem_map.1 h
  obtain ⟨h1, h2⟩ := cN_ hp
  rw [Lb_B, cK_]
  rw [aB_] at h2
  exact ⟨h1, h2⟩
theorem hS_ {a b : ByteArray} (h : ∀ c ∈ Lb a, c ≠ 47) : aH_ (B (Lb a ++ 47 :: Lb b)) = a :: (aY_ (Lb b)).map B := by
 unfold aH_
 rw [if_neg (by rw [cK_]; simp), Lb_B, dI_ h, List.map_cons, B_Lb]
def fM_ : List ByteArray → List UInt8
 |[] => []
 |x :: r => Lb x ++ r.flatMap fun s => 47 :: Lb s
def cJ_ (l : List ByteArray) : ByteArray := B (fM_ l)
theorem fN_ (x y : ByteArray) (r : List ByteArray) : fM_ (x :: y :: r) = Lb x ++ 47 :: fM_ (y :: r) := by simp [fM_]
theorem fV_ : ∀ {l : List ByteArray}, l ≠ [] → (∀ x ∈ l, ∀ c ∈ Lb x, c ≠ 47) → aY_ (fM_ l) = l.map Lb
 |[], h, _ => absurd rfl h
 |[x], _, h => by
  rw [fM_, List.flatMap_nil, List.append_nil, cH_ (h x (.head _))]; rfl
 |x :: y :: r, _, h => by
  rw [fN_, dI_ (h x (.head _)), fV_ (by simp) fun z hz => h z (.tail _ hz)]; rfl
theorem fL_ {l : List ByteArray} (h0 : l ≠ []) (hn : fM_ l ≠ []) (h : ∀ x ∈ l, ∀ c ∈ Lb x, c ≠ 47) : aH_ (cJ_ l) = l := by
 unfold aH_ cJ_
 rw [if_neg (by rw [cK_]; exact fun e => hn (List.eq_nil_of_length_eq_zero e)), Lb_B, fV_ h0 h, List.map_map]
 conv => rhs; rw [← List.map_id l]
 apply List.map_congr_left; intro x _; exact B_Lb x
end Go.Proofs.YtkcmbjodladflaaGreatDoor
end

section
set_option linter.all false
namespace Go.Ab
open Go.RowKit (Below)
open Go.ChangeShapes Go.WideShapes
inductive Sh where
 |int (k : IntKind)
 |bool
 |str
 |sl (g : Bool) (e : Sh)
 |unit
 |pair (a b : Sh)
def Sh.size : Sh → Nat
 |.unit => 0
 |.pair a b => a.size + b.size
 |_ => 1
def Sh.ok : Sh → List AVal → Prop
 |.int k, cs => ∃ n, cs = [.lit (.int k n)] ∧ (Lit.int k n).wf = true
 |.bool, cs => ∃ b, cs = [.lit (.bool b)]
 |.str, cs => ∃ s, cs = [.lit (.string s)] ∧ s.size ≤ maxLen
 |.sl g e, cs => ∃ l : List AVal, cs = [.sl e.size l false] ∧ l.length ≤ maxLen ∧ ∀ x ∈ l, ∃ c, e.ok c ∧ (if g then x = .agg c else c = [x])
 |.unit, cs => cs = []
 |.pair a b, cs => ∃ c d, cs = c ++ d ∧ a.ok c ∧ b.ok d
def Sh.okv (s : Sh) (g : Bool) (a : AVal) : Prop := ∃ c, s.ok c ∧ (if g then a = .agg c else c = [a])
def fh_ (sh : TypeId → Option Sh) (P : Program) : List Field → Nat → Option Sh
 |[], _ => some .unit
 |f :: fs, off => if f.offset = off then match sh f.type with
   |some s => if s.size = P.cellsOf f.type then (fh_ sh P fs (off + s.size)).map (.pair s) else none
   |none => none
  else none
def qc_ (s : Sh) : Nat → Sh
 |0 => .unit
 |n + 1 => .pair s (qc_ s n)
def dn_ (P : Program) : Nat → TypeId → Option Sh
 |0, _ => none
 |d + 1, t => match P.underlying t with
  |some .bool => some .bool
  |some (.int k) => some (.int k)
  |some .string => some .str
  |some (.slice e) => match dn_ P d e with
   |some s => if s.size = P.cellsOf e ∧ 0 < s.size ∧ (aggB P e = false → s.size = 1) then some (.sl (aggB P e) s) else none
   |none => none
  |some (.struct fs) => match fh_ (dn_ P d) P fs.toList 0 with
   |some s => if s.size = P.cellsOf t then some s else none
   |none => none
  |some (.array n e) => match dn_ P d e with
   |some s => if s.size = P.cellsOf e ∧ P.cellsOf t = n * s.size then some (qc_ s n) else none
   |none => none
  |_ => none
theorem Sh.ok_length : ∀ {s : Sh} {cs : List AVal}, s.ok cs → cs.length = s.size
 |.int k, cs, h => by obtain ⟨n, rfl, _⟩ := h; rfl
 |.bool, cs, h => by obtain ⟨n, rfl⟩ := h; rfl
 |.str, cs, h => by obtain ⟨n, rfl, _⟩ := h; rfl
 |.sl g e, cs, h => by obtain ⟨n, rfl, _⟩ := h; rfl
 |.unit, cs, h => by obtain rfl : cs = [] := h; rfl
 |.pair a b, cs, h => by
  obtain ⟨c, d, rfl, h1, h2⟩ := h
  simp [Sh.size, Sh.ok_length h1, Sh.ok_length h2]
theorem jw_ {p : Nat → AVal → Prop} : ∀ (n : Nat), (∀ i, i < n → ∃ x, p i x) → ∃ l : List AVal, l.length = n ∧ ∀ i (hi : i < l.length), p i l[i]
 |0, _ => ⟨[], rfl, fun i hi => by simp at hi⟩
 |n + 1, h => by
  obtain ⟨l, hl, hp⟩ := jw_ n fun i hi => h i (by omega)
  obtain ⟨x, hx⟩ := h n (by omega)
  refine ⟨l ++ [x], by simp [hl], fun i hi => ?_⟩
  by_cases hlt : i < l.length
  ·rw [List.getElem_append_left hlt]; exact hp i hlt
  ·have : i = n := by simp at hi; omega
   subst this
   rw [List.getElem_append_right (by omega)]
   simpa [hl] using hx
section
variable {H : Type} {enc : TypeId × Value → H} {P : Program} {κ : K} {held : Bool}
theorem cells?_at {w : World} {base : Nat} {a : Addr} {n : Nat} {cs : List Value} (h : w.cells? base a n = some cs) : cs.length = n ∧ ∀ i (hi : i < cs.length), w.cell? (a.add i) = some cs[i] := by
 unfold World.cells? at h
 split at h
 ·have hl : cs.length = n := by
   have := mapM_len h
   simpa using this
  refine ⟨hl, fun i hi => ?_⟩
  have := mapM_at h i (by simpa [hl] using hi) hi
  simpa using this
 ·cases h
where
 mapM_len {α β : Type} {f : α → Option β} : ∀ {l : List α} {r : List β}, l.mapM f = some r → r.length = l.length
  |[], r, h => by simp at h; subst h; rfl
  |x :: l, r, h => by
   rw [List.mapM_cons] at h
   obtain ⟨y, _, h2⟩ := Option.bind_eq_some_iff.1 h
   obtain ⟨ys, h3, h4⟩ := Option.bind_eq_some_iff.1 h2
   obtain rfl := Option.some.inj h4
   simp [mapM_len h3]
 mapM_at {α β : Type} {f : α → Option β} : ∀ {l : List α} {r : List β}, l.mapM f = some r → ∀ i (hi : i < l.length) (hj : i < r.length), f l[i] = some r[i]
  |[], r, h, i, hi, _ => by simp at hi
  |x :: l, r, h, i, hi, hj => by
   rw [List.mapM_cons] at h
   obtain ⟨y, h1, h2⟩ := Option.bind_eq_some_iff.1 h
   obtain ⟨ys, h3, h4⟩ := Option.bind_eq_some_iff.1 h2
   obtain rfl := Option.some.inj h4
   cases i with
   |zero => simpa using h1
   |succ i => simpa using mapM_at h3 i (by simpa using hi) (by simpa using hj)
def qI_ (enc : TypeId × Value → H) (P : Program) (κ : K) (held : Bool) (d : Nat) : Prop :=
 ∀ (t : TypeId) (s : Sh) (fuel : Nat) (cs : List Value) (x : DataW H × List MemPlace), dn_ P d t = some s → DataW.trod enc P κ.w 0 (fun _ => true) held fuel t cs = some x → ∃ av, s.ok av ∧ RvC κ av cs
theorem fQ_ {d : Nat} (ih : qI_ enc P κ held d) {n : Nat} {cs : List Value} : ∀ (fs : List Field) (off : Nat) (s : Sh), fh_ (dn_ P d) P fs off = some s → off + s.size ≤ cs.length →
  (∀ (i : Nat) (f : Field), fs[i]? = some f → ∃ y, DataW.trod enc P κ.w 0 (fun _ => true) held n f.type ((cs.drop f.offset).take (P.cellsOf f.type)) = some y) → ∃ av, s.ok av ∧ RvC κ av ((cs.drop off).take s.size)
 |[], off, s, hs, _, _ => by
  obtain rfl := Option.some.inj hs
  exact ⟨[], rfl, by simp [Sh.size], fun i hi => by simp at hi⟩
 |f :: fs, off, s, hs, hle, hf => by
  unfold fh_ at hs
  split at hs
  ·rename_i ho
   split at hs
   ·rename_i s1 h1
    split at hs
    ·rename_i hsz
     obtain ⟨s2, h2, rfl⟩ := Option.map_eq_some_iff.1 hs
     simp only [Sh.size] at hle ⊢
     obtain ⟨y, hy⟩ := hf 0 f rfl
     obtain ⟨av, ha1, ha2⟩ := ih f.type s1 n _ y h1 hy
     obtain ⟨bs, hb1, hb2⟩ := fQ_ ih fs (off + s1.size) s2 h2 (by omega) fun i g hg => hf (i + 1) g (by simpa using hg)
     refine ⟨av ++ bs, ⟨av, bs, rfl, ha1, hb1⟩, ?_⟩
     have e : (cs.drop off).take (s1.size + s2.size) = (cs.drop f.offset).take (P.cellsOf f.type) ++ (cs.drop (off + s1.size)).take s2.size := by
      rw [List.take_add, ho, ← hsz, List.drop_drop]
     rw [e]
     exact ha2.append hb2
    ·cases hs
   ·cases hs
  ·cases hs
theorem jF_ {s : Sh} {cs : List Value} : ∀ (n off : Nat), (∀ i, i < n → ∃ av, s.ok av ∧ RvC κ av ((cs.drop (off + i * s.size)).take s.size)) → ∃ av, (qc_ s n).ok av ∧ RvC κ av ((cs.drop off).take (n * s.size))
 |0, off, _ => ⟨[], rfl, by simp, fun i hi => by simp at hi⟩
 |n + 1, off, h => by
  obtain ⟨av, ha1, ha2⟩ := h 0 (by omega)
  obtain ⟨bs, hb1, hb2⟩ := jF_ n (off + s.size) fun i hi => by
   have := h (i + 1) (by omega)
   rwa [show off + (i + 1) * s.size = off + s.size + i * s.size by rw [Nat.succ_mul]; omega] at this
  refine ⟨av ++ bs, ⟨av, bs, rfl, ha1, hb1⟩, ?_⟩
  have e : (cs.drop off).take ((n + 1) * s.size) = (cs.drop (off + 0 * s.size)).take s.size ++ (cs.drop (off + s.size)).take (n * s.size) := by
   rw [show (n + 1) * s.size = s.size + n * s.size by rw [Nat.succ_mul]; omega, List.take_add, List.drop_drop]; simp
  rw [e]
  exact ha2.append hb2
theorem Sh.ok_one {d : Nat} {t : TypeId} {s : Sh} {av : List AVal} (hs : dn_ P d t = some s) (hg : aggB P t = false) (h : s.ok av) : ∃ x, av = [x] ∧ x.cells = [x] := by
 cases d with
 |zero => cases hs
 |succ d =>
  unfold dn_ at hs
  split at hs
  ·obtain rfl := Option.some.inj hs; obtain ⟨b, rfl⟩ := h; exact ⟨_, rfl, rfl⟩
  ·obtain rfl := Option.some.inj hs; obtain ⟨b, rfl, _⟩ := h; exact ⟨_, rfl, rfl⟩
  ·obtain rfl := Option.some.inj hs; obtain ⟨b, rfl, _⟩ := h; exact ⟨_, rfl, rfl⟩
  ·split at hs
   ·split at hs
    ·obtain rfl := Option.some.inj hs; obtain ⟨b, rfl, _⟩ := h; exact ⟨_, rfl, rfl⟩
    ·cases hs
   ·cases hs
  ·rename_i fs ht; simp [aggB, ht] at hg
  ·rename_i fs ht; simp [aggB, ht] at hg
  ·cases hs
theorem rV_ (hI : ∀ b off v, κ.w.cell? ⟨b, off, none⟩ = some v → off < κ.I b) : ∀ d, qI_ enc P κ held d
 |0 => fun t s fuel cs x hs _ => by cases hs
 |d + 1 => fun t s fuel cs x hs hx => by
  have ih := rV_ hI d
  have hs0 := hs
  unfold dn_ at hs
  split at hs
  ·rename_i ht
   obtain rfl := Option.some.inj hs
   obtain ⟨b, rfl, _⟩ := DataW.trod_bool ht hx
   exact ⟨_, ⟨b, rfl⟩, .one (.lit _)⟩
  ·rename_i k ht
   obtain rfl := Option.some.inj hs
   obtain ⟨b, rfl, _, hw⟩ := DataW.trod_int ht hx
   exact ⟨_, ⟨b, rfl, hw⟩, .one (.lit _)⟩
  ·rename_i ht
   obtain rfl := Option.some.inj hs
   obtain ⟨b, rfl, _, hw⟩ := DataW.trod_string ht hx
   exact ⟨_, ⟨b, rfl, hw⟩, .one (.lit _)⟩
  ·rename_i e ht
   split at hs
   ·rename_i s1 h1
    split at hs
    ·rename_i hc
     obtain ⟨hsz, hpos, hone⟩ := hc
     obtain rfl := Option.some.inj hs
     rcases DataW.trod_slice ht hx with ⟨rfl, _⟩ | ⟨a, len, cap, elems, rest, n, _, rfl, _, _, hl, hm, hlen, hel, hsp, _⟩
     ·exact ⟨_, ⟨[], rfl, by simp, by simp⟩, .one (.slNil _ _)⟩
     ·have each : ∀ i, i < cap → ∃ cs' y, κ.w.cells? 0 (a.add (i * P.cellsOf e)) (P.cellsOf e) = some cs' ∧ DataW.trod enc P κ.w 0 (fun _ => true) held n e cs' = some y := by
       intro i hi
       by_cases hil : i < len
       ·have := hel i hil
        rw [List.getElem?_eq_getElem (by omega)] at this
        obtain ⟨cs', q1, q2⟩ := Option.bind_eq_some_iff.1 this
        exact ⟨cs', _, q1, q2⟩
       ·obtain ⟨hr, hj⟩ := hsp rfl
        have := hj (i - len) (by omega)
        rw [show len + (i - len) = i by omega, List.getElem?_eq_getElem (by omega)] at this
        obtain ⟨cs', q1, q2⟩ := Option.bind_eq_some_iff.1 this
        exact ⟨cs', _, q1, q2⟩
      by_cases hcap : cap = 0
      ·subst hcap
       obtain rfl : len = 0 := by omega
       exact ⟨_, ⟨[], rfl, by simp, by simp⟩, .one (.slE _ _ a)⟩
      ·have hspot : a.spot = none := by
        obtain ⟨cs', y, q1, _⟩ := each 0 (by omega)
        obtain ⟨r1, r2⟩ := cells?_at q1
        have := r2 0 (by omega)
        rw [Nat.zero_mul] at this
        exact World.cell?_spot (by simpa [Addr.add] using this)
       obtain ⟨b, off, spot⟩ := a
       subst hspot
       have each' : ∀ i, i < len → ∃ x : AVal, x.cells.length = s1.size ∧ (∃ c, s1.ok c ∧ (if aggB P e then x = .agg c else c = [x])) ∧
         ∀ j (hj : j < x.cells.length), ∃ v, κ.w.cell? ⟨b, off + (i * s1.size + j), none⟩ = some v ∧ Rv κ x.cells[j] v := by
        intro i hi
        obtain ⟨cs', y, q1, q2⟩ := each i (by omega)
        obtain ⟨r1, r2⟩ := cells?_at q1
        obtain ⟨av, ha, hr⟩ := ih e s1 n cs' y h1 q2
        have hal := Sh.ok_length ha
        obtain ⟨x, hxc, hxo⟩ : ∃ x : AVal, x.cells = av ∧ (∃ c, s1.ok c ∧ (if aggB P e then x = .agg c else c = [x])) := by
         cases hg : aggB P e with
         |true => exact ⟨.agg av, rfl, av, ha, by simp⟩
         |false =>
          obtain ⟨x, rfl, hx⟩ := Sh.ok_one h1 hg ha
          exact ⟨x, hx, [x], ha, by simp⟩
        refine ⟨x, by rw [hxc]; exact hal, hxo, fun j hj => ?_⟩
        have hj' : j < cs'.length := by rw [← hr.1, ← hxc]; exact hj
        refine ⟨cs'[j], ?_, ?_⟩
        ·have := r2 j hj'
         rw [← hsz] at this
         rw [← this]
         simp only [Addr.add]
         congr 1
         by_cases h0 : i * s1.size = 0
         ·rw [if_pos h0, h0]
          by_cases hj0 : j = 0
          ·simp [hj0]
          ·simp [hj0]
         ·rw [if_neg h0]
          by_cases hj0 : j = 0
          ·simp [hj0]
          ·simp [hj0]; omega
        ·have := hr.2 j (by rw [← hxc]; exact hj) hj'
         simp only [hxc]
         exact this
       obtain ⟨l, hll, hlp⟩ := jw_ len each'
       have hszl : ∀ x ∈ l, x.cells.length = s1.size := fun x hx => by
        obtain ⟨i, hi, rfl⟩ := List.getElem_of_mem hx
        exact (hlp i hi).1
       refine ⟨[.sl s1.size l false], ⟨l, rfl, by omega, fun x hx => ?_⟩, .one ?_⟩
       ·obtain ⟨i, hi, rfl⟩ := List.getElem_of_mem hx
        exact (hlp i hi).2.1
       ·have at_ : ∀ k (hk : k < (flat l).length), ∃ v, κ.w.cell? ⟨b, off + k, none⟩ = some v ∧ Rv κ (flat l)[k] v := by
         intro k hk
         obtain ⟨hi, hj, e1⟩ := ip_ hszl k hk
         obtain ⟨v, hv1, hv2⟩ := (hlp _ hi).2.2 _ hj
         rw [show k / s1.size * s1.size + k % s1.size = k by rw [Nat.mul_comm]; exact Nat.div_add_mod k s1.size] at hv1
         exact ⟨v, hv1, by rw [e1]; exact hv2⟩
        have := Rv.sl (κ := κ) s1.size l false b off cap (fun k => (κ.w.cell? ⟨b, off + k, none⟩).getD undef) (by omega) (by simp) hszl
         (fun k hk => by obtain ⟨v, hv1, _⟩ := at_ k hk; exact ⟨hI _ _ _ hv1, by simp [hv1]⟩)
         (fun k hk => by obtain ⟨v, hv1, hv2⟩ := at_ k hk; simpa [hv1] using hv2)
        rwa [hll] at this
    ·cases hs
   ·cases hs
  ·rename_i fs ht
   split at hs
   ·rename_i s1 h1
    split at hs
    ·rename_i hc
     obtain rfl := Option.some.inj hs
     obtain ⟨xs, n, _, _, hcl, hxl, hf⟩ := DataW.trod_struct ht hx
     obtain ⟨av, ha, hr⟩ := fQ_ (cs := cs) (n := n) ih fs.toList 0 s1 h1 (by omega) fun i f hfi => by
      have hfi' : fs[i]? = some f := by simpa using hfi
      have := hf i f hfi'
      have hlt : i < xs.length := by rw [hxl]; exact (Array.getElem?_eq_some_iff.1 hfi').1
      rw [List.getElem?_eq_getElem hlt] at this
      exact ⟨_, this⟩
     refine ⟨av, ha, ?_⟩
     rw [List.drop_zero, List.take_of_length_le (by omega)] at hr
     exact hr
    ·cases hs
   ·cases hs
  ·rename_i n e ht
   split at hs
   ·rename_i s1 h1
    split at hs
    ·rename_i hc
     obtain rfl := Option.some.inj hs
     obtain ⟨xs, m, _, _, hcl, hxl, hf⟩ := DataW.trod_array ht hx
     obtain ⟨av, ha, hr⟩ := jF_ (κ := κ) (s := s1) (cs := cs) n 0 fun i hi => by
      have := hf i hi
      rw [List.getElem?_eq_getElem (by omega), ← hc.1] at this
      rw [Nat.zero_add]
      exact ih e s1 m _ _ h1 this
     refine ⟨av, ha, ?_⟩
     rw [List.drop_zero, List.take_of_length_le (by rw [hcl, hc.2]; omega)] at hr
     exact hr
    ·cases hs
   ·cases hs
  ·cases hs
theorem jE_ (hI : ∀ b off v, κ.w.cell? ⟨b, off, none⟩ = some v → off < κ.I b) {d base : Nat} {r : Reach} {W : World} {t : TypeId} {s : Sh} {g : Bool} {v : Value} {x : DataW H} {ps : List MemPlace} (hs : dn_ P d t = some s) (hg : aggB P t = g)
  (hval : Value.okWide P W r base t v) (h : DataW.Trod enc P κ.w 0 (fun _ => true) held t v x ps) : ∃ a, Rv κ a v ∧ s.okv g a := by
 subst hg
 obtain ⟨fuel, hf⟩ := h
 obtain ⟨av, ha, hr⟩ := rV_ hI d t s fuel _ _ hs hf
 cases hg : aggB P t with
 |true =>
  have : ∃ cs, v = .agg cs := by
   unfold Value.okWide at hval
   unfold aggB at hg
   split at hval <;> simp_all
   ·obtain ⟨cs, rfl, _⟩ := hval; exact ⟨cs, rfl⟩
   ·obtain ⟨cs, rfl, _⟩ := hval; exact ⟨cs, rfl⟩
  obtain ⟨cs, rfl⟩ := this
  refine ⟨.agg av, .agg av cs ?_ fun i hi => ?_, av, ha, by simp⟩
  ·have := hr.1; simpa [Value.cells] using this.symm
  ·have hl : av.length = cs.size := by have := hr.1; simpa [Value.cells] using this
   have := hr.2 i hi (by simp [Value.cells]; omega)
   simpa [Value.cells, show i < cs.size by omega] using this
 |false =>
  obtain ⟨x, rfl, hx⟩ := Sh.ok_one hs hg ha
  have hv : v.cells = #[v] := by
   unfold Value.okWide at hval
   unfold aggB at hg
   split at hval
   ·simp_all
   ·simp_all
   ·unfold Cell.okWide at hval
    split at hval <;> first | rfl | skip
    unfold Cell.ok at hval
    split at hval <;> first | rfl | exact hval.elim
  refine ⟨x, ?_, [x], ha, by simp⟩
  have := hr.2 0 (by simp) (by rw [hv]; simp)
  simpa [hv] using this
def kOf (W : World) : K := { w := W, base := W.heap.size, ρ := fun _ => none, τ := fun _ => none, I := fun b => match W.heap[b]? with | some (.cells c _ _) => c.size | _ => 0 }
def s0 : Store := { heap := fun _ => none, tok := fun _ => none }
theorem lB_ (W : World) : ∀ b off v, (kOf W).w.cell? ⟨b, off, none⟩ = some v → off < (kOf W).I b := by
 intro b off v h
 simp only [kOf, World.cell?] at *
 cases hb : W.heap[b]? with
 |none => simp [hb] at h
 |some o =>
  rw [hb] at h
  cases o <;> simp_all
  have := (Array.getElem?_eq_some_iff.1 h).1
  omega
theorem pE_ (W : World) (hG : Glob W W.heap.size) : Inv (kOf W) s0 where
 glob := hG
 base := Nat.le_refl _
 heap o x e := by cases e
 inj o o' x x' b e := by cases e
 tok t sz e := by cases e
 tokinj t t' sz sz' v v' b e := by cases e
 tokobj t sz v b o x e := by cases e
 frO := ⟨0, fun _ _ => rfl⟩
 frT := ⟨0, fun _ _ => rfl⟩
 frI b hb := by
  have hb' : W.heap.size ≤ b := hb
  simp [kOf, Array.getElem?_eq_none hb']
theorem hu_ {f : FuncId} {av : List AVal} {vs : Array Value} {W : World} (h : ao_ P f av s0 fun v _ => v = he_ true) (hn : vs.size = av.length) (hr : ∀ i (hi : i < av.length), Rv (kOf W) av[i] (vs.getD i undef))
  (hG : Glob W W.heap.size := by intro p hp; cases hp) : Calls P f vs W (fun e w' => e = .returned (.bool true) ∧ Below W.heap.size W w') := by
 have := h (kOf W) vs (pE_ W hG) hn hr
 refine this.mono fun e w' ⟨cv, he, κ', a, σ', hw, hle, _, hv, ha⟩ => ?_
 subst ha
 obtain rfl := hv.litInv
 subst hw
 exact ⟨he, hle.below⟩
end
theorem lI_ {α : Type} (f : α → AVal) : ∀ {l : List AVal}, (∀ x ∈ l, ∃ a, x = f a) → ∃ zs : List α, l = zs.map f
 |[], _ => ⟨[], rfl⟩
 |x :: l, h => by
  obtain ⟨zs, rfl⟩ := lI_ f fun y hy => h y (List.mem_cons_of_mem _ hy)
  obtain ⟨a, rfl⟩ := h x (List.mem_cons_self ..)
  exact ⟨a :: zs, rfl⟩
end Go.Ab
end

section
set_option linter.all false
set_option maxRecDepth 100000
namespace Go.Proofs.YtkcmbjodladflaaGreatDoor
open Go.Ab
abbrev r4_ : Sh := .pair .str (.pair (.pair (.int .i64) (.pair .str (.pair .str .unit))) .unit)
theorem s2_ {α : Type} (f : α → AVal) {e : Sh} (he : ∀ c, e.ok c → ∃ a, .agg c = f a) {c : List AVal} (h : (Sh.sl true e).ok c) : ∃ zs : List α, c = [.sl e.size (zs.map f) false] := by
 obtain ⟨l, rfl, _, hl⟩ := h
 obtain ⟨zs, rfl⟩ := lI_ f (l := l) fun x hx => by
  obtain ⟨c, hc, e⟩ := hl x hx
  simp only [if_true] at e
  rw [e]; exact he c hc
 exact ⟨zs, rfl⟩
theorem rU_ {c : List AVal} (h : r4_.ok c) : ∃ x : Ent, .agg c = sEnt x := by
 obtain ⟨_, _, rfl, ⟨s, rfl, _⟩, _, _, rfl, ⟨_, _, rfl, ⟨n, rfl, _⟩, _, _, rfl, ⟨t, rfl, _⟩, _, _, rfl, ⟨v, rfl, _⟩, rfl⟩, rfl⟩ := h
 exact ⟨⟨s, n, t, v⟩, rfl⟩
theorem qi_ {a : AVal} (h : Sh.okv (.sl true r4_) false a) : ∃ l : List Ent, a = .sl 4 (l.map sEnt) false := by
 obtain ⟨c, hc, e⟩ := h
 obtain ⟨l, rfl⟩ := s2_ sEnt (fun c hc => rU_ hc) hc
 simp only [Bool.false_eq_true, if_false, List.cons.injEq, and_true] at e
 exact ⟨l, e.symm⟩
end Go.Proofs.YtkcmbjodladflaaGreatDoor
end
