/-
  'aval' IS SOUND: the whole. Own work (an AI agent).
-/
import Derived.Test.YtdedpamcpgbgmaaAbSound3
import Derived.Laws.BytesString
set_option linter.all false
namespace Go.Ab

theorem numsOf_spec : ∀ {l : List AVal} {ns : List Int}, numsOf l = some ns → l = ns.map fun n => .lit (.int .u8 n)
  | [], ns, h => by obtain rfl := Option.some.inj (h : some [] = some ns); rfl
  | x :: l, ns, h => by
    unfold numsOf at h
    split at h
    · rename_i e; cases e
    · rename_i n l' e
      obtain ⟨rfl, rfl⟩ := List.cons.inj e
      obtain ⟨ns', h1, rfl⟩ := Option.map_eq_some_iff.1 h
      rw [numsOf_spec h1]
      rfl
    · cases h

theorem flat_nums : ∀ ns : List Int, flat (ns.map fun n => AVal.lit (.int .u8 n)) = ns.map fun n => AVal.lit (.int .u8 n)
  | [] => rfl
  | n :: ns => by
    have := flat_nums ns
    rw [List.map_cons, flat_cons, this]
    rfl

theorem snd_astring {P : Program} {κ : K} {x a : AVal} {u : Value} (h : astringOf x = some a) (hx : Rv κ x u) : ∃ cv, (Conv.bytesToString u).run P κ.w = .ok cv κ.w ∧ Rv κ a cv := by
  unfold astringOf at h
  split at h
  · obtain rfl := hx.litInv
    obtain rfl := Option.some.inj h
    exact ⟨_, by simp [Conv.bytesToString], .lit _⟩
  · split at h
    · rename_i sz l hsl
      split at h
      · rename_i hsz
        subst hsz
        obtain ⟨ns, hns, rfl⟩ := Option.map_eq_some_iff.1 h
        have hl := numsOf_spec hns
        rcases (slOf_rv hsl hx).slInv with ⟨a, rfl, rfl⟩ | ⟨b, off, cap, vals, rfl, hcap, _, hss, hc, hv⟩
        · obtain rfl : ns = [] := by
            cases ns with
            | nil => rfl
            | cons n ns => simp at hl
          refine ⟨.string ByteArray.empty, ?_, .lit _⟩
          cases a with
          | none => simp [Conv.bytesToString]
          | some ad =>
            have := run_bytesToString (P := P) κ.w ad 0 0 [] (by simp [loadCells, loadCellsFrom])
            exact this
        · have hfl : flat l = l := by rw [hl]; exact flat_nums ns
          have hload : (loadCells ⟨b, off, none⟩ l.length).run P κ.w = .ok (ns.map (Value.int .u8)).toArray κ.w := by
            rw [run_loadCells (vals := vals) (fun k hk => (hc k (by rw [hfl]; exact hk)).2)]
            congr 1
            apply Array.ext'
            simp only []
            apply List.ext_getElem
            · simp [hl]
            · intro k h1 h2
              have hk : k < l.length := by simpa using h1
              have := hv k (by rw [hfl]; exact hk)
              have e2 : (flat l)[k]'(by rw [hfl]; exact hk) = .lit (.int .u8 (ns[k]'(by simpa using h2))) := by
                simp only [hl, flat_nums, List.getElem_map]
              rw [e2] at this
              simpa using this.litInv
          exact ⟨_, run_bytesToString κ.w ⟨b, off, none⟩ l.length cap ns hload, .lit _⟩
      · cases h
    · cases h


section
variable {P : Program} {κ : K} {σ σ' : Store}

/-- what a look-up does behind the map's entries -/
def lookupCore (kt et : TypeId) (v : Value) (ok : Bool) (es : Array MapEntry) : Sem Value := do
  Instr.checkKey es.isEmpty 10000 kt v
  match ← Instr.findKey kt v es.toList with
  | some (_, w) => pure (if ok then .tuple #[w, .bool true] else w)
  | none => do
    let z ← zeroValue et
    pure (if ok then .tuple #[z, .bool false] else z)

theorem lookup_nil {t kt et : TypeId} (ht : P.underlying t = some (.map kt et)) (v : Value) (ok : Bool) (w : World) : (Instr.lookup t (.map none) v ok).run P w = (lookupCore kt et v ok #[]).run P w := by
  unfold Instr.lookup lookupCore
  simp only [Sem.run_bind, run_underlying ht, Result.andThen_ok, Sem.run_pure]
  congr 1

theorem lookup_map {t kt et : TypeId} (ht : P.underlying t = some (.map kt et)) {r : Nat} {es : Array MapEntry} {clock : Nat} {w : World} (hh : w.heap[r]? = some (.map es clock)) (v : Value) (ok : Bool) :
    (Instr.lookup t (.map (some r)) v ok).run P w = (lookupCore kt et v ok es).run P w := by
  unfold Instr.lookup lookupCore
  simp only [Sem.run_bind, run_underlying ht, Result.andThen_ok, getObj, Sem.run, hh, Sem.run_pure, Sem.run_pure']
  congr 1

theorem run_lookupCore {kt et : TypeId} {kd : TypeDesc} {z kv : Value} {kvs : List (Value × AVal)} {es : Array MapEntry} {ok : Bool} (hkd : P.underlying kt = some kd) (hz : zeroOf P et = some z) (hpk : plainKey kd = true)
    (hn : es.size = kvs.length) (hall : ∀ i (hi : i < kvs.length) (hj : i < es.size), es[i].key = kvs[i].1 ∧ Rv κ kvs[i].2 es[i].val) {r : Option AVal} (hr : afindNow kd kv kvs = some r) :
    ∃ cv, (lookupCore kt et kv ok es).run P κ.w = .ok cv κ.w ∧ Rv κ (lookupRes z ok r) cv := by
  have hck : (Instr.checkKey es.isEmpty 10000 kt kv).run P κ.w = .ok () κ.w := by
    generalize hd : (10000 : Nat) = d
    cases d with
    | zero => cases hd
    | succ d =>
      simp only [Instr.checkKey, Sem.run_bind, run_underlying hkd, Result.andThen_ok]
      unfold plainKey at hpk
      split at hpk <;> first | (simp; done) | cases hpk
  have hfind : ∀ (l : List MapEntry) (q : List (Value × AVal)) (j : Nat), l.length = q.length → (∀ i (hi : i < q.length) (hj : i < l.length), l[i].key = q[i].1 ∧ Rv κ q[i].2 l[i].val) → ∀ r, afindNow kd kv q = some r →
      ∃ r', Instr.findNow kd kv l j = some r' ∧ (match r with | none => r' = none | some x => ∃ i w, r' = some (i, w) ∧ Rv κ x w) := by
    intro l
    induction l with
    | nil =>
      intro q j hl _ r hr
      obtain rfl : q = [] := List.eq_nil_of_length_eq_zero hl.symm
      obtain rfl := Option.some.inj hr
      exact ⟨none, rfl, rfl⟩
    | cons e l ih =>
      intro q j hl hq r hr
      cases q with
      | nil => simp at hl
      | cons p q =>
        have h0 := hq 0 (by simp) (by simp)
        simp only [List.getElem_cons_zero] at h0
        unfold afindNow at hr
        unfold Instr.findNow
        rw [h0.1]
        split at hr
        · rename_i hsn
          obtain rfl := Option.some.inj hr
          rw [hsn]
          exact ⟨_, rfl, j, e.val, rfl, h0.2⟩
        · rename_i hsn
          rw [hsn]
          exact ih q (j + 1) (by simpa using hl) (fun i hi hj => by
            have := hq (i + 1) (by simpa using hi) (by simpa using hj)
            simpa using this) r hr
        · cases hr
  obtain ⟨r', h1, h2⟩ := hfind es.toList kvs 0 (by simpa using hn) (fun i hi hj => by
    have := hall i hi (by simpa using hj)
    simpa using this) r hr
  have hrun : (Instr.findKey kt kv es.toList).run P κ.w = .ok r' κ.w := by
    unfold Instr.findKey
    simp only [Sem.run_bind, run_underlying hkd, Result.andThen_ok, h1, Sem.run_pure]
  unfold lookupCore
  simp only [Sem.run_bind, hck, Result.andThen_ok, hrun]
  cases r with
  | some x =>
    obtain ⟨i, w, rfl, hw⟩ := h2
    simp only [Sem.run_pure]
    cases ok
    · exact ⟨w, rfl, hw⟩
    · refine ⟨_, rfl, .tup _ _ rfl fun i hi => ?_⟩
      match i, hi with
      | 0, _ => exact hw
      | 1, _ => exact .lit _
  | none =>
    simp only at h2
    subst h2
    simp only [Sem.run_bind, run_zeroValue' hz, Result.andThen_ok, Sem.run_pure]
    cases ok
    · exact ⟨z, rfl, .ofConst z⟩
    · refine ⟨_, rfl, .tup _ _ rfl fun i hi => ?_⟩
      match i, hi with
      | 0, _ => exact .ofConst z
      | 1, _ => exact .lit _

theorem snd_lookup (hI : Inv κ σ') (hs : σ.Sub σ') {t : TypeId} {m k a : AVal} {ok : Bool} {u v : Value} (h : alookup P σ t m k ok = some a) (hm : Rv κ m u) (hk : Rv κ k v) :
    ∃ cv, (Instr.lookup t u v ok).run P κ.w = .ok cv κ.w ∧ Rv κ a cv := by
  unfold alookup at h
  split at h
  case h_2 => cases h
  rename_i kt et ht
  split at h
  case h_2 => cases h
  rename_i kd z kvs kv hkd hz hkvs
  split at h
  case isFalse => cases h
  rename_i hpk
  obtain rfl := hk.litInv
  obtain ⟨r, hr, rfl⟩ := Option.map_eq_some_iff.1 h
  unfold amapOf at hkvs
  split at hkvs
  · obtain rfl := hm.litInv
    obtain rfl := Option.some.inj hkvs
    obtain ⟨cv, h1, h2⟩ := run_lookupCore (P := P) (κ := κ) (ok := ok) (es := #[]) hkd hz hpk rfl (fun i hi => by simp at hi) hr
    exact ⟨cv, by rw [lookup_nil ht]; exact h1, h2⟩
  · rename_i o
    split at hkvs
    · rename_i kvs' hk'
      obtain rfl := Option.some.inj hkvs
      cases hm with
      | map _ b hb =>
        obtain ⟨b', hb', _, _, es, clock, hh, hn, _, _, hall⟩ := hI.heap o _ (hs.heap _ _ hk')
        obtain rfl : b = b' := Option.some.inj (hb.symm.trans hb')
        obtain ⟨cv, h1, h2⟩ := run_lookupCore (P := P) (κ := κ) (ok := ok) hkd hz hpk hn hall hr
        exact ⟨cv, by rw [lookup_map ht hh]; exact h1, h2⟩
    · cases hkvs
  · cases hkvs

theorem snd_typeAssert {x a : AVal} {xt t : TypeId} {ok : Bool} {u : Value} (h : atypeAssert P x t ok = some a) (hx : Rv κ x u) :
    ∃ cv, (Instr.typeAssert u xt t ok).run P κ.w = .ok cv κ.w ∧ Rv κ a cv := by
  unfold atypeAssert at h
  split at h
  · cases h
  · rename_i d hni hd
    have two : ∀ (z : Value) (b : Bool), Rv κ (.tup [ofConst z, .lit (.bool b)]) (.tuple #[z, .bool b]) := fun z b => .tup _ _ rfl fun i hi => by
      match i, hi with
      | 0, _ => exact .ofConst z
      | 1, _ => exact .lit _
    unfold Instr.typeAssert
    simp only [Sem.run_bind, run_underlying hd, Result.andThen_ok]
    split at h
    · rename_i w a' 
      cases hx with
      | iface _ _ v hv =>
        have e : ∀ (A : Sem Value) (B C : Sem Value), (match d, Value.iface w v with
          | .interface _, .nilIface => A
          | .interface want, .iface t _ => B
          | _, .nilIface => A
          | _, .iface t' v => (if t' = t then (pure (if ok then .tuple #[v, .bool true] else v)) else C)
          | _, _ => stuck "TypeAssert: interface value expected" : Sem Value) = (if w = t then (pure (if ok then .tuple #[v, .bool true] else v)) else C) := by
          intro A B C
          cases d <;> first | rfl | (exact absurd rfl (hni _))
        split at h
        · rename_i hwt
          subst hwt
          obtain rfl := Option.some.inj h
          cases d <;> first
            | (exact absurd rfl (hni _))
            | (cases ok
               · exact ⟨v, by simp, hv⟩
               · refine ⟨.tuple #[v, .bool true], by simp, .tup _ _ rfl fun i hi => ?_⟩
                 match i, hi with
                 | 0, _ => exact hv
                 | 1, _ => exact .lit _)
        · rename_i hwt
          split at h
          · rename_i hok
            obtain ⟨z, hz, rfl⟩ := Option.map_eq_some_iff.1 h
            subst hok
            cases d <;> first
              | (exact absurd rfl (hni _))
              | (exact ⟨_, by simp [hwt, run_zeroValue' hz], two z false⟩)
          · cases h
    · obtain rfl := hx.litInv
      split at h
      · rename_i hok
        obtain ⟨z, hz, rfl⟩ := Option.map_eq_some_iff.1 h
        subst hok
        cases d <;> first
          | (exact absurd rfl (hni _))
          | (exact ⟨_, by simp [run_zeroValue' hz], two z false⟩)
      · cases h
    · cases h
  · cases h

theorem aval_sound {o : Oper} {α : Operand → AVal} {ev : Operand → Value} {a : AVal} (h : aval P o.op α σ = some a) (hs : σ.Sub σ') (hI : Inv κ σ') (hx : ∀ x ∈ o.op.operands, Rv κ (α x) (ev x)) : Yld P o κ ev a := by
  obtain ⟨dst, op, ty, pos, after, guard⟩ := o
  cases op <;> simp only [aval] at h <;> (try cases h)
  case move x => exact yld_value rfl (hx x (by simp [Op.operands]))
  case assign x => exact yld_value rfl (hx x (by simp [Op.operands]))
  case pick c x y =>
    split at h
    · rename_i t hc
      have hcv := hx c (by simp [Op.operands])
      rw [hc] at hcv
      obtain hcv := hcv.litInv
      obtain rfl := Option.some.inj h
      exact ⟨_, by simp [execOp, hcv, asBool], rv_apick (fun _ => hx x (by simp [Op.operands])) (fun _ => hx y (by simp [Op.operands]))⟩
    · cases h
  case nilCheck x => exact snd_nil h (hx x (by simp [Op.operands])) rfl rfl
  case binOp op t x y yt => exact yld_v rfl (run_abin rfl h (hx x (by simp [Op.operands])) (hx y (by simp [Op.operands])))
  case unOp op t x =>
    have hr := hx x (by simp [Op.operands])
    unfold aunop at h
    split at h
    · rename_i b heq; rw [heq] at hr; obtain hr := hr.litInv; obtain rfl := Option.some.inj h
      exact ⟨_, by simp [execOp, hr, Op.unary], .lit _⟩
    · rename_i k n heq; rw [heq] at hr; obtain hr := hr.litInv; obtain rfl := Option.some.inj h
      exact ⟨_, by simp [execOp, hr, Op.unary, Op.intArith], .lit _⟩
    · cases h
  case convert s d x =>
    have hr := hx x (by simp [Op.operands])
    unfold aconvert at h
    split at h
    · rename_i q k k' n hs' hd heq
      rw [heq] at hr; obtain hr := hr.litInv; obtain rfl := Option.some.inj h
      refine yld_v rfl ⟨_, ?_, .lit _⟩
      simp [hr, Go.convert, run_underlying hs', run_underlying hd, Conv.intToInt]
    · rename_i w hs' hd heq
      rw [heq] at hr; obtain hr := hr.litInv; obtain rfl := Option.some.inj h
      refine yld_v rfl ⟨_, ?_, .lit _⟩
      simp [hr, Go.convert, run_underlying hs', run_underlying hd]
    · rename_i e hs' hd
      split at h
      · rename_i he
        obtain ⟨cv, h1, h2⟩ := snd_astring (P := P) h hr
        refine yld_v rfl ⟨cv, ?_, h2⟩
        have : ∃ a n c, ev x = .slice a n c := by
          unfold astringOf at h
          split at h
          · rename_i heq; rw [heq] at hr; exact ⟨_, _, _, hr.litInv⟩
          · split at h
            · rename_i sz l hsl
              rcases (slOf_rv hsl hr).slInv with ⟨a, e1, _⟩ | ⟨b, off, cap, vals, e1, _⟩ <;> exact ⟨_, _, _, e1⟩
            · cases h
        obtain ⟨a, n, c, e1⟩ := this
        rw [e1] at h1 ⊢
        rw [run_convert_bytes_string κ.w s d e a n c hs' he hd]
        exact h1
      · cases h
    · cases h
  case fieldAddr s x f => exact yld_v rfl (snd_fieldAddr h (hx x (by simp [Op.operands])))
  case field t x f => exact yld_v rfl (snd_field h (hx x (by simp [Op.operands])))
  case indexAddr t x i => exact yld_v rfl (snd_indexAddr h (hx x (by simp [Op.operands])) (hx i (by simp [Op.operands])))
  case index t x i => exact yld_v rfl (snd_index h (hx x (by simp [Op.operands])) (hx i (by simp [Op.operands])))
  case load t x => exact yld_v rfl (snd_load hI hs h (hx x (by simp [Op.operands])))
  case extract x i =>
    split at h
    · rename_i vs hvs
      have hr := hx x (by simp [Op.operands])
      rw [hvs] at hr
      obtain ⟨us, heq, hn, hu⟩ := hr.tupInv
      obtain ⟨hlt, rfl⟩ := List.getElem?_eq_some_iff.1 h
      refine yld_v rfl ⟨us.getD i undef, ?_, hu i hlt⟩
      rw [heq]
      simp [Instr.extract, show i < us.size by omega]
    · cases h
  case slice t x lo hi mx => exact yld_v rfl (snd_slice (fun y hy => hx y (by simp only [Op.operands]; rcases hy with rfl | rfl | rfl <;> simp)) h (hx x (by simp [Op.operands])))
  case makeInterface t x =>
    split at h
    · cases h
    · rename_i d hni hd
      obtain rfl := Option.some.inj h
      refine yld_v rfl ⟨.iface t (ev x), ?_, .iface _ _ _ (hx x (by simp [Op.operands]))⟩
      unfold Instr.makeInterface
      simp only [Sem.run_bind, run_underlying hd, Result.andThen_ok]
      cases d <;> first | rfl | (exact absurd hd (hni _))
    · cases h
  case makeFunc fn f c =>
    refine yld_v rfl ⟨_, rfl, .fn _ _ _ _ _ (by simp) (fun i hi => ?_) (by simp) (fun i hi => ?_)⟩
    · simp only [List.length_map, Array.length_toList] at hi
      have := hx f[i] (by simp [Op.operands])
      simpa [hi] using this
    · simp only [List.length_map, Array.length_toList] at hi
      have := hx c[i] (by simp [Op.operands])
      simpa [hi] using this
  case build t ps =>
    obtain ⟨cv, h1, h2⟩ := run_abuild (ev := ev) (fun p hp => hx p.2 (by simp [Op.operands]; exact ⟨p.1, by simpa using hp⟩)) h
    refine yld_v rfl ⟨cv, ?_, h2⟩
    rw [show (ps.map fun (i, x) => (i, ev x)) = (ps.toList.map fun p => (p.1, ev p.2)).toArray from by apply Array.ext'; simp]
    exact h1
  case lookup t m k ok => exact yld_v rfl (snd_lookup hI hs h (hx m (by simp [Op.operands])) (hx k (by simp [Op.operands])))
  case typeAssert x xt t ok => exact yld_v rfl (snd_typeAssert h (hx x (by simp [Op.operands])))
  case call c =>
    obtain ⟨cal, args, argTypes⟩ := c
    have hop : ∀ x ∈ args.toList, Rv κ (α x) (ev x) := fun x hx' => hx x (by simp [Op.operands, Call.operands]; exact .inr (by simpa using hx'))
    unfold acall at h
    dsimp only at h
    split at h
    · split at h
      · rename_i x t hx1 ht
        obtain ⟨n, hn, rfl⟩ := Option.map_eq_some_iff.1 h
        refine ⟨.int .i64 n, ?_, .lit _⟩
        have hargs : args.map ev = #[ev x] := by apply Array.ext'; simp [hx1]
        simp only [execOp, resolve, invoke, builtin, hargs, Sem.run_bind, Sem.run_pure, Result.andThen_ok]
        rw [snd_len hI hs hn (hop x (by simp [hx1])) _ _ ht]
        rfl
      · cases h
    · unfold amaxL at h
      split at h
      · cases h
      · rename_i y rest heq
        obtain ⟨q, qs, hl, rfl, rfl⟩ := List.map_eq_cons_iff.1 heq
        obtain ⟨cv, h1, h2⟩ := snd_max (P := P) true (qs.map α) (qs.map ev) (α q) a (ev q) (by simp) (fun i hi hj => by
          simp only [List.getElem_map]
          exact hop _ (by rw [hl]; exact List.mem_cons_of_mem _ (List.getElem_mem _))) (hop q (by simp [hl])) h
        refine ⟨cv, ?_, h2⟩
        have e : (args.map ev).toList = ev q :: qs.map ev := by simp [hl]
        simp only [execOp, resolve, invoke, builtin, Sem.run_bind, Sem.run_pure, Result.andThen_ok, Builtin.max_, e]
        simp only [if_true] at h1
        rw [h1]
        rfl
    · unfold amaxL at h
      split at h
      · cases h
      · rename_i y rest heq
        obtain ⟨q, qs, hl, rfl, rfl⟩ := List.map_eq_cons_iff.1 heq
        obtain ⟨cv, h1, h2⟩ := snd_max (P := P) false (qs.map α) (qs.map ev) (α q) a (ev q) (by simp) (fun i hi hj => by
          simp only [List.getElem_map]
          exact hop _ (by rw [hl]; exact List.mem_cons_of_mem _ (List.getElem_mem _))) (hop q (by simp [hl])) h
        refine ⟨cv, ?_, h2⟩
        have e : (args.map ev).toList = ev q :: qs.map ev := by simp [hl]
        simp only [execOp, resolve, invoke, builtin, Sem.run_bind, Sem.run_pure, Result.andThen_ok, Builtin.min_, e]
        simp only [Bool.false_eq_true, if_false] at h1
        rw [h1]
        rfl
    · cases h

end
end Go.Ab
