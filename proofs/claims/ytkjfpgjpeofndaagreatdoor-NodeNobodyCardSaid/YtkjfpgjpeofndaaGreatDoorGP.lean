/-
  MAPS whose keys are structs,and loops over maps; An entry of a map that is found or laid,and stored into: three operations of a drawn region; The interpreter over code,and over calls,is sound; The interpreter over code and calls is sound; Calls that were run before: a table,looked up by the function and by what it is given. Own work (an AI agent).
-/
import Derived.Test.YtkjfpgjpeofndaaGreatDoorGB
import Derived.WideKeyRuns
import Derived.Laws.IdiomRangeMap
import Derived.Test.YtkjfpgjpeofndaaGreatDoorGI
import Derived.Test.YtkjfpgjpeofndaaGreatDoorGL
import Derived.Scope

section
set_option linter.all false
namespace Go.Ab
open Go.RowKit (Below)
section
variable {P:Program} {o:Oper} {α:Operand→AVal} {σ:Store} {Kk:AVal→Store→Prop} {β:Type} [DecidableEq β] {enc:β→Value}
structure WKey (P:Program) (kt:TypeId) {β:Type} [DecidableEq β] (enc:β→Value):Prop where
 wide:(match P.underlying kt with | some (.array _ _) | some (.struct _)=>true | _=>false)=true
 eq:∀ a b w,(Op.equal kt (enc a) (enc b)).run P w=.ok (decide (a=b)) w
 check:∀ a e w,(Instr.checkKey e 10000 kt (enc a)).run P w=.ok () w
 stays:∀ a w,(Instr.keyThatStays (enc a) (enc a)).run P w=.ok (enc a) w
def litM {α:Type} (kvs:List (α × Value)):List (α × AVal):=kvs.map fun p=>(p.1,.lit p.2)
theorem Inv.setMapX {κ:K} {σ:Store} (h:Inv κ σ) {o:Nat} {x:AObj} (ho:σ.heap o=some x) {b:Nat} (hb:κ.ρ o=some b) {es es':Array MapEntry} {clock clock':Nat} (hh:κ.w.heap[b]?=some (.map es clock))
  (hbase:κ.base≤b) (hIb:κ.I b=0) (x':AObj) (hx':∀ κ',κ.Le κ'→κ'.w.heap[b]?=some (.map es' clock')→ORel κ' x' b) :
  κ.Le { κ with w:={ κ.w with heap:=κ.w.heap.setIfInBounds b (.map es' clock') } }∧Inv { κ with w:={ κ.w with heap:=κ.w.heap.setIfInBounds b (.map es' clock') } } (σ.set o x'):=by
 have hle:κ.Le { κ with w:={ κ.w with heap:=κ.w.heap.setIfInBounds b (.map es' clock') } }:=by
  refine ⟨rfl,⟨rfl,rfl,rfl,by simp,fun k hk=>aR_ _ (by omega)⟩,fun b' s e'=>?_,fun _ _ e'=>e',fun _ _ e'=>e',fun _=>Nat.le_refl _,fun b' off' u hi e'=>?_,Nat.le_refl _,fun _ _=>rfl⟩
  ·have hne:b'≠b:=fun hh'=>by
    subst hh'
    unfold World.shape? at e'
    rw [hh] at e';cases e'
   unfold World.shape? at e' ⊢
   dsimp only
   rw [aR_ _ hne];exact e'
  ·have hne:b'≠b:=fun hh'=>by rw [hh',hIb] at hi;omega
   simp only [World.cell?] at e' ⊢
   rw [aR_ _ hne];exact e'
 refine ⟨hle,h.step hle rfl rfl h.frO b hbase hIb (fun b' hne _=>aR_ _ hne) o _ (fun _ _=>rfl) hb (hx' _ hle (dn_ _ hh)) ?_ ?_⟩
 ·intro i y hy hne hh'
  exact hne (h.inj i o _ _ b hy ho hh' hb)
 ·intro t sz u ht hu hh'
  exact h.tokobj t sz u b o _ ht hu hh' ho hb
def dE_ (e:MapEntry):Value × Value:=(e.key,e.val)
def fR_ (es:Array MapEntry) (clk born:Nat) (f:Value→List (Value × Value)):Prop :=
 (∀ e∈es,e.born < clk)∧(es.toList.map (·.born)).Pairwise (·≠ ·)∧∃ i,∃ h:i < es.size,es[i].born=born∧∀ x,((es.modify i fun e=>{ e with val:=x }).toList.map dE_)=f x
theorem iZ_ {es:Array MapEntry} {i:Nat} (hi:i < es.size) (x:Value):((es.modify i fun e=>{ e with val:=x }).toList.map dE_)=(es.toList.map dE_).set i (es[i].key,x):=by
 apply List.ext_getElem (by simp)
 intro j h1 h2
 simp only [List.getElem_map,Array.getElem_toList,Array.getElem_modify,List.getElem_set]
 split
 ·rename_i hij;subst hij;rfl
 ·rfl
theorem iJ_ {es:Array MapEntry} (hnd:(es.toList.map (·.born)).Pairwise (·≠ ·)) {i:Nat} (hi:i < es.size):es.findIdx? (fun e=>((e.born:Int) == (es[i].born:Int)))=some i:=by
 rw [Array.findIdx?_eq_some_iff_getElem]
 refine ⟨hi,by simp,fun j hj=>?_⟩
 have:=List.pairwise_iff_getElem.1 hnd j i (by simp;omega) (by simpa using hi) hj
 simp only [List.getElem_map,Array.getElem_toList] at this
 simp
 omega
theorem AOp_entryStore {t:TypeId} {m s x:Operand} {mo clk born:Nat} {es:Array MapEntry} {f:Value→List (Value × Value)} {v:Value} (ho:o.op=.entryStore t m s x) (hm:α m=.map mo) (hh:σ.heap mo=some (.raw (.map es clk)))
  (hs:α s=.lit (.int .i64 born)) (hx:α x=.lit v) (hst:fR_ es clk born f) (hk:Kk .any (σ.set mo (.map (litM (f v))))):AOp P o α σ Kk:=by
 obtain ⟨dst,op,ty,pos,after,guard⟩:=o
 obtain rfl:op=_:=ho
 intro κ ev hI hxx
 have hvm:=hxx m (by simp [Op.operands])
 have hvs:=hxx s (by simp [Op.operands])
 have hvx:=hxx x (by simp [Op.operands])
 rw [hm] at hvm
 rw [hs] at hvs
 rw [hx] at hvx
 obtain ⟨b,hb,hbase,hIb,hheap,_⟩:=hI.heap mo _ hh
 have hem:ev m=.map (some b):=by
  generalize ev m=u at hvm
  cases hvm with
  |map _ b' hb'=>rw [hb] at hb';obtain rfl:=Option.some.inj hb';rfl
 obtain ⟨hlt,hnd,i,hi,rfl,hf⟩:=hst
 have hes:=hf v
 obtain ⟨hle,hI'⟩:=hI.setMapX hh hb hheap hbase hIb (es':=es.modify i fun e=>{ e with val:=v }) (clock':=clk) (.map (litM (f v))) fun κ' _ hh'=>by
  refine ⟨_,_,hh',?_,?_,?_,fun j hj hj'=>?_⟩
  ·have:=congrArg List.length hes
   simpa [litM] using this
  ·intro e he
   obtain ⟨j,hj,rfl⟩:=Array.getElem_of_mem he
   have hj':j < es.size:=by simpa using hj
   have hb0:=hlt es[j] (Array.getElem_mem hj')
   rw [Array.getElem_modify]
   split
   ·exact hb0
   ·exact hb0
  ·have:((es.modify i fun e=>{ e with val:=v }).toList.map (·.born))=es.toList.map (·.born):=by
    apply List.ext_getElem (by simp)
    intro j h1 h2
    simp only [List.getElem_map,Array.getElem_toList,Array.getElem_modify]
    split <;> rfl
   rw [this];exact hnd
  ·have h1:j < (f v).length:=by simpa [litM] using hj
   have h2:(f v)[j]=dE_ ((es.modify i fun e=>{ e with val:=v })[j]'hj'):=by
    have h3:((es.modify i fun e=>{ e with val:=v }).toList.map dE_)[j]?=(f v)[j]?:=by rw [hes]
    rw [List.getElem?_eq_getElem h1,List.getElem?_eq_getElem (by simpa using hj')] at h3
    have:=Option.some.inj h3
    rw [← this]
    simp only [List.getElem_map,Array.getElem_toList]
   have e3:(litM (f v))[j]=(((es.modify i fun e=>{ e with val:=v })[j]'hj').key,.lit ((es.modify i fun e=>{ e with val:=v })[j]'hj').val):=by
    simp only [litM,List.getElem_map,h2,dE_]
   rw [e3]
   exact ⟨rfl,.lit _⟩
 refine lr_ (s:=Instr.entryStore t (ev m) (ev s) (ev x)) rfl ⟨_,?_,_,.any,_,rfl,hle,hI',.any _,hk⟩
 rw [hem,hvs.litInv,hvx.litInv]
 unfold Instr.entryStore
 simp only [Sem.run_bind,Result.andThen_ok,Go.MapKept.run_getObj_map hheap,asInt,asIntOf,Sem.run_pure,iJ_ hnd hi,Go.MapKept.run_setObj_map _ hheap]
structure MapIs (kvs:List (Value × Value)) (es:Array MapEntry) (clk:Nat):Prop where
 kv:es.toList.map (fun e=>(e.key,e.val))=kvs
 lt:∀ e∈es,e.born < clk
 nd:(es.toList.map (·.born)).Pairwise (·≠ ·)
end
end Go.Ab
end

section
set_option linter.all false
namespace Go.Ab
open Go.RowKit (Below)
open Go.MapKept (IsKey sameNow_of_keys run_checkKey run_findKey run_keyThatStays)
section
variable {P:Program} {o:Oper} {α:Operand→AVal} {σ:Store} {Kk:AVal→Store→Prop}
theorem qc_ {l:List (Value × Value)} {i:Nat} {k x:Value}:litM (l.set i (k,x))=(litM l).set i (k,.lit x):=by simp [litM,List.map_set]
theorem AOp_mapEntryP {t kt et:TypeId} {kd:TypeDesc} {m k:Operand} {mo:Nat} {kv:Value} {kvs:List (Value × Value)} {z:Value} (ho:o.op=.mapEntry t m k) (ht:P.underlying t=some (.map kt et)) (hkd:P.underlying kt=some kd) (hz:bA_ P et=some z)
  (hm:α m=.map mo) (hh:σ.heap mo=some (.map (litM kvs))) (hkv:α k=.lit kv) (hkey:IsKey kd kv) (hkeys:∀ x∈(litM kvs),IsKey kd x.1)
  (hk:∀ es clk born f,fR_ es clk born f→(∀ x,litM (f x)=dZ_ kv (.lit x) (litM kvs))→Kk (.tup [.any,.lit (.int .i64 born)]) (σ.set mo (.raw (.map es clk)))):AOp P o α σ Kk:=by
 obtain ⟨dst,op,ty,pos,after,guard⟩:=o
 obtain rfl:op=_:=ho
 intro κ ev hI hxx
 have hvm:=hxx m (by simp [Op.operands])
 have hvk:=hxx k (by simp [Op.operands])
 rw [hm] at hvm
 rw [hkv] at hvk
 have hek:=hvk.litInv
 obtain ⟨b,hb,hbase,hIb,es,clock,hheap,hn,hborn,hnd,hall⟩:=hI.heap mo _ hh
 have hem:ev m=.map (some b):=by
  generalize ev m=u at hvm
  cases hvm with
  |map _ b' hb'=>rw [hb] at hb';obtain rfl:=Option.some.inj hb';rfl
 have hn2:es.size=kvs.length:=by simpa [litM] using hn
 have hlist:∀ i (hi:i < (litM kvs).length) (hj:i < es.toList.length),es.toList[i].key=(litM kvs)[i].1∧Rv κ (litM kvs)[i].2 es.toList[i].val:=fun i hi hj=>by simpa using hall i hi (by simpa using hj)
 have hkv':es.toList.map dE_=kvs:=by
  apply List.ext_getElem (by simp [hn2])
  intro i h1 h2
  have h3:i < es.size:=by simpa using h1
  have h4:=hall i (by simpa [litM] using h2) h3
  simp only [litM,List.getElem_map] at h4
  simp only [List.getElem_map,Array.getElem_toList]
  exact Prod.ext h4.1 h4.2.litInv
 have hfind:=fH_ hkey es.toList (litM kvs) 0 (by simpa using hn) hlist hkeys
 have hck:(Instr.checkKey false 10000 kt kv).run P κ.w=.ok () κ.w:=run_checkKey hkd hkey _ _
 rcases hfind with ⟨h1,h2,_⟩ | ⟨i,v,h1,h2,⟨h2',h3⟩,h4,_⟩
 ·obtain ⟨hle,hI'⟩:=hI.setMapX hh hb hheap hbase hIb (es':=es.push { key:=kv,val:=z,born:=clock }) (clock':=clock + 1) (.raw (.map (es.push { key:=kv,val:=z,born:=clock }) (clock + 1))) fun κ' _ hh'=>⟨hh',fun _ _ _ h=>by cases h⟩
  refine a6_ (s:=Instr.mapEntry t (ev m) (ev k)) rfl ⟨.tuple #[z,.int .i64 clock],_,?_,_,.tup [.any,.lit (.int .i64 clock)],_,rfl,hle,hI',.tup _ _ rfl (fun j hj=>?_),hk _ _ _ (fun x=>kvs ++ [(kv,x)]) ⟨?_,?_,es.size,by simp,by simp,fun x=>?_⟩ fun x=>?_⟩
  ·rw [hem,hek]
   unfold Instr.mapEntry
   simp only [Sem.run_bind,run_underlying ht,Result.andThen_ok,Go.MapKept.run_getObj_map hheap,hck,run_findKey hkd h1,a7_ hz,Go.MapKept.run_setObj_map _ hheap,Sem.run_pure,goInt]
  ·match j,hj with
   |0,_=>exact .any _
   |1,_=>exact .lit _
  ·intro e he
   rcases Array.mem_push.1 he with he | rfl
   ·exact Nat.lt_succ_of_lt (hborn e he)
   ·exact Nat.lt_succ_self _
  ·simp only [Array.toList_push,List.map_append,List.map_cons,List.map_nil]
   refine List.pairwise_append.2 ⟨hnd,List.pairwise_singleton _ _,fun y hy z hz=>?_⟩
   obtain rfl:=List.mem_singleton.1 hz
   obtain ⟨e,he,rfl⟩:=List.mem_map.1 hy
   exact Nat.ne_of_lt (hborn e (by simpa using he))
  ·show _=kvs ++ [(kv,x)]
   rw [iZ_ (by simp)]
   simp only [Array.toList_push,List.map_append,List.map_cons,List.map_nil,hkv',Array.getElem_push_eq]
   rw [List.set_append_right _ _ (by simp [hn2])]
   simp [hn2,dE_]
  ·rw [h2];simp [litM]
 ·rw [Nat.zero_add] at h1
  have hi:i < es.size:=by simpa using h2
  have hki:es[i].key=kv:=by simpa using h3
  have hkeep:(Instr.keyThatStays (((es[i]?).map (·.key)).getD kv) kv).run P κ.w=.ok kv κ.w:=by
   have:((es[i]?).map (·.key)).getD kv=kv:=by
    simp only [Array.getElem?_eq_getElem hi,Option.map_some,Option.getD_some]
    exact hki
   rw [this]
   exact run_keyThatStays hkey
  have hsame:(es.modify i fun e=>{ e with key:=kv })=es:=by
   apply Array.ext (by simp)
   intro j h1 h2
   rw [Array.getElem_modify]
   split
   ·rename_i hij
    subst hij
    have hsm:∀ e:MapEntry,e.key=kv→({ e with key:=kv }:MapEntry)=e:=fun e he=>by rw [← he]
    exact hsm _ hki
   ·rfl
  obtain ⟨hle,hI'⟩:=hI.setMapX hh hb hheap hbase hIb (es':=es) (clock':=clock) (.raw (.map es clock)) fun κ' _ hh'=>⟨hh',fun _ _ _ h=>by cases h⟩
  refine a6_ (s:=Instr.mapEntry t (ev m) (ev k)) rfl ⟨.tuple #[v,.int .i64 es[i].born],_,?_,_,.tup [.any,.lit (.int .i64 es[i].born)],_,rfl,hle,hI',.tup _ _ rfl (fun j hj=>?_),hk _ _ _ (fun x=>kvs.set i (kv,x)) ⟨hborn,hnd,i,hi,rfl,fun x=>?_⟩ fun x=>?_⟩
  ·rw [hem,hek]
   unfold Instr.mapEntry
   simp only [Sem.run_bind,run_underlying ht,Result.andThen_ok,Go.MapKept.run_getObj_map hheap,hck,run_findKey hkd h1,Array.getElem?_eq_getElem hi,Option.map_some,Option.getD_some,hki,run_keyThatStays hkey,hsame,Go.MapKept.run_setObj_map _ hheap,Sem.run_pure,goInt]
  ·match j,hj with
   |0,_=>exact .any _
   |1,_=>exact .lit _
  ·show _=kvs.set i (kv,x)
   rw [iZ_ hi,hkv',hki]
  ·rw [h4,qc_]
end
end Go.Ab
namespace Go.Nb
open Go.Ab Go.RowKit
section
variable {P:Program} {o:Oper} {α:Operand→AVal} {s:NSt} {Kk:AVal→NSt→Prop}
theorem AOp_mapEntryP {t kt et:TypeId} {kd:TypeDesc} {m k:Operand} {mo:Nat} {kv:Value} {kvs:List (Value × Value)} {z:Value} (ho:o.op=.mapEntry t m k) (ht:P.underlying t=some (.map kt et)) (hkd:P.underlying kt=some kd) (hz:bA_ P et=some z)
  (hm:α m=.map mo) (hh:s.st.heap mo=some (.map (litM kvs))) (hkv:α k=.lit kv) (hkey:Go.MapKept.IsKey kd kv) (hkeys:∀ x∈(litM kvs),Go.MapKept.IsKey kd x.1)
  (hK:∀ es clk born f,fR_ es clk born f→(∀ x,litM (f x)=dZ_ kv (.lit x) (litM kvs))→Kk (.tup [.any,.lit (.int .i64 born)]) ⟨s.st.set mo (.raw (.map es clk)),s.fr⟩):AOp P o α s Kk:=by
 intro κ ev hN hx
 refine (Ab.AOp_mapEntryP (Kk:=fun a σ'=>∃ es clk born f,fR_ es clk born f∧(∀ x,litM (f x)=dZ_ kv (.lit x) (litM kvs))∧a=.tup [.any,.lit (.int .i64 born)]∧σ'=s.st.set mo (.raw (.map es clk))) ho ht hkd hz hm hh hkv hkey hkeys (fun es clk born f h1 h2=>⟨es,clk,born,f,h1,h2,rfl,rfl⟩) κ ev hN.1 hx).mono fun cv w' ⟨κ',a,σ',h1,h2,h3,h4,es,clk,born,f,q1,q2,q3,q4⟩=>?_
 subst q3;subst q4
 obtain ⟨κ'',r1,r2,r3,r4⟩:=re0 hN h2 h3 (fr_ hN.1 hh (x:=.raw (.map es clk)) trivial) (fun t p e=>bT_ hN.1 t p e)
 exact ⟨κ'',_,_,r1.trans h1,r2,r3,r4.keep h4 rfl,hK es clk born f q1 q2⟩
theorem AOp_entryStore {t:TypeId} {m st x:Operand} {mo clk born:Nat} {es:Array MapEntry} {f:Value→List (Value × Value)} {v:Value} (ho:o.op=.entryStore t m st x) (hm:α m=.map mo) (hh:s.st.heap mo=some (.raw (.map es clk)))
  (hs:α st=.lit (.int .i64 born)) (hx:α x=.lit v) (hst:fR_ es clk born f) (hK:Kk .any ⟨s.st.set mo (.map (litM (f v))),s.fr⟩):AOp P o α s Kk :=
 AOp.of0 (Ab.AOp_entryStore ho hm hh hs hx hst ⟨rfl,rfl⟩) (fun κ hI hk=>⟨.inr (.inl rfl),fr_ hI hh (x:=.map (litM (f v))) (fun p hp=>by
  obtain ⟨q,_,rfl⟩:=List.mem_map.1 hp
  exact ⟨_,.lit _⟩),fun t p e=>bT_ hI t p e⟩) hK
end
end Go.Nb
end

section
set_option linter.all false
set_option maxRecDepth 100000
namespace Go.Nb
open Go.Ab Go.RowKit
theorem mL_ {P:Program} {n:Nat} {c:Code} {Q:Exit→Env→NSt→Prop} {e:Env} {σ:NSt} (h:awp P n c Q e σ) (hg:∀ l e σ,¬ Q (.goto l) e σ):awp P n (.scope c) Q e σ:=by
 intro κ a hs
 refine wp_scope_straight (wp_mono (h κ a hs) fun ex a' w' ⟨κ',e',σ',h1,h2,h3,h4⟩=>?_)
 cases ex with
 |goto l=>exact (hg _ _ _ h4).elim
 |normal=>exact ⟨κ',e',σ',h1,h2,h3,h4⟩
 |exit id=>exact ⟨κ',e',σ',h1,h2,h3,h4⟩
 |ret=>exact ⟨κ',e',σ',h1,h2,h3,h4⟩
 |panic c=>exact ⟨κ',e',σ',h1,h2,h3,h4⟩
 |outgrown=>exact ⟨κ',e',σ',h1,h2,h3,h4⟩
theorem mK_ {P:Program} {n l:Nat} {Q:Exit→Env→NSt→Prop} {e:Env} {σ:NSt} (h:Q .normal e σ):awp P n (.label l) Q e σ :=
 fun κ a hs=>wp_label ⟨κ,e,σ,rfl,.refl κ,hs,h⟩
noncomputable section
abbrev Kc:=Ev→Hp→Tk→Nat→Kx→Res
def keep (l:List Nat) (e:Ev):Ev:=List.rec (motive:=fun _=>Ev) .nil (fun k _ r=>.cons k (lk k e) r) l
def sW_ (body:Kc) (l:List Nat) (fuel:Nat):Kc :=
 Nat.rec (motive:=fun _=>Kc) (fun _ _ _ _ _=>.bad 40) (fun _ ih e h t n K=>body e h t n fun x e h t n=>Ex.rec (motive:=fun _=>Res) (ih (keep l e) h t n K) (fun b=>K (.exit b) e h t n) (K .ret e h t n) x) fuel
def asBool (a:AVal) (K:Bool→Res):Res:=match a with
 |.lit (.bool b)=>K b
 |_=>.bad 41
section
variable (P:Program)
def jj_ (ops:Array Oper) (o:Oper) (e:Ev) (f:Bool→Res):Res:=Option.rec (f true) (fun g=>opt 22 ((ops[g.1]?).bind (·.dst)) fun d=>aB (lk d e) (fun b=>f (b == g.2)) (aL (lk d e) (fun _=>f false) (.bad 23))) o.guard
def val1 (o:Oper) (e:Ev) (h:Hp) (t:Tk) (K:AVal→Res):Res:=Bool.rec (opt 43 (aval P o.op (aev (env e)) (store h t)) K) (opQ o.op P ⟨fun _=>false,false,fun _=>false⟩ (fun _ _ _ _ _=>.bad 43) 0 e h t 0 fun a _ _ _=>K a) (isVal o.op)
def valK (ops:Array Oper) (o:Oper) (e:Ev) (h:Hp) (t:Tk) (K:AVal→Res):Res:=jj_ ops o e fun w=>cd w (val1 P o e h t K) (K (.lit undef))
mutual
def cB_:AVal→AVal
 |.agg cs=>.agg (b2_ cs)
 |.tup cs=>.tup (b2_ cs)
 |.sl sz l t=>.sl sz (b2_ l) t
 |.own _ sz l=>.sl sz (b2_ l) false
 |a=>a
def b2_:List AVal→List AVal
 |[]=>[]
 |a :: l=>cB_ a :: b2_ l
end
def pT_ (call:Cl) (f:Nat) (args:List AVal) (t0:Tk) (h:Hp) (t:Tk) (n:Nat) (K:K1):Res:=iff 44 (nfL args) (Res.rec (fun m=>.bad m) (fun v h' t' n'=>iff 130 (geA n v && (chkH n h' 1 0 && (chkT n t' && (Nat.ble n n' && tkNew t' t0)))) (K v (hun h h') (tun t' t) n')) (call f args .nil .nil n))
def gh_ (fl:Bool) (call:Cl) (f:Nat) (args:List AVal) (h0:Hp) (t0:Tk) (h:Hp) (t:Tk) (n:Nat) (K:K1):Res:=Res.rec (fun m=>.bad m) (fun v h' t' n'=>Bool.rec (iff 131 (hsub h0 h') (iff 138 (tsub t0 t0 t') (K v h' t' n'))) (iff 131 (hsub h h') (iff 138 (tsub t t t') (K (cB_ v) h t n))) (fl && nf (cB_ v))) (call f args h t n)
def of_ (fl:Bool) (pu:Nat→Bool) (call:Cl) (fv:AVal) (args:List AVal) (h0:Hp) (t0:Tk) (h:Hp) (t:Tk) (n:Nat) (K:K1):Res:=match fv with
 |.lit (.func (.func f) a b)=>iff 45 (isGo P f && Nat.beq a.toList.length 0 && Nat.beq b.toList.length 0) (Bool.rec (Bool.rec (gh_ fl call f args h0 t0 h t n K) (pT_ call f (b2_ args) t0 h t n K) (nfL (b2_ args))) (res1 (call f args h t n) fun v _ _ _=>K v h t n) (pu f))
 |.fn (.func f) first cap=>iff 45 (isGo P f) (gh_ fl call f (first ++ args ++ cap) h0 t0 h t n K)
 |_=>.bad 45
def u8_ (ty tx:TypeId) (x y:AVal) (t0:Tk) (h:Hp) (t:Tk) (n:Nat) (K:K1):Res:=iff 49 ((tok n t0).isNone && (match x with
 |.own k _ _=>(tok k t0).isNone
 |_=>true)) (kApp P ty tx x y h t n K)
def newK (fl:Bool) (pu:Nat→Bool) (call:Cl) (ty0:TypeId) (op:Op) (e:Ev) (h0:Hp) (t0:Tk) (h:Hp) (t:Tk) (n:Nat) (K:K1):Res:=match op with
 |.box ty x=>iff 46 (look n h0).isNone (lZ_ ty (ev x e) h t n K)
 |.alloc ty=>iff 47 (look n h0).isNone (hT_ P ty h t n K)
 |.makeMap ty none=>iff 48 (look n h0).isNone (kMap h t n K)
 |.buildSlice ty m ps=>iR_ P ty m ps.toList e h t n K
 |.convert s d x=>nB_ P s d x e h t n K
 |.call c=>match c.callee with
  |.value f=>of_ P fl pu call (ev f e) (c.args.toList.map fun x=>ev x e) h0 t0 h t n K
  |.builtin .append=>match c.args.toList,c.argTypes.toList with
   |[x,y],[ty,tx]=>u8_ P ty tx (ev x e) (ev y e) t0 h t n K
   |_,_=>.bad 21
  |.builtin .unsafeSliceData=>match c.args.toList,c.argTypes.toList with
   |[x],[_]=>p8_ P ty0 (ev x e) h t n K
   |_,_=>.bad 88
  |_=>kAny P (.call c) e h t n K
 |.slice ty x lo hi mx=>gg_ P ty x lo hi mx e h t n K
 |.makeSlice ty x y=>iff 140 (look n h0).isNone (l0_ P ty (ev x e) (ev y e) h t n K)
 |.mapUpdate ty m k x=>match ev m e with
  |.map mo=>iff 141 (look mo h0).isNone (kUpd P ty (ev m e) (ev k e) (ev x e) h t n K)
  |_=>.bad 142
 |.store ty ad x=>match ev ad e with
  |.ref i _=>iff 143 (look i h0).isNone (dH_ P ty (ev ad e) (ev x e) h t n K)
  |_=>.bad 144
 |op=>Bool.rec (kAny P op e h t n K) (opQ op P ⟨fun _=>false,false,fun _=>false⟩ call ty0 e h t n K) (isVal op)
def u7_ (fl:Bool) (pu:Nat→Bool) (ops:Array Oper) (call:Cl) (o:Oper) (e:Ev) (h0:Hp) (t0:Tk) (h:Hp) (t:Tk) (n:Nat) (K:K1):Res:=jj_ ops o e fun w=>cd w (newK P fl pu call o.type o.op e h0 t0 h t n K) (K (.lit undef) h t n)
def nw_ (a:AVal):Bool:=match a with
 |.lit (.slice none 0 0)=>true
 |_=>false
def anyK (pu:Nat→Bool) (call:Cl) (o:Oper) (e:Ev) (K:AVal→Res):Res:=match o.op with
 |.call c=>match c.callee with
  |.value (.func f)=>iff 44 (isGo P f && pu f) (res1 (call f (c.args.toList.map fun x=>ev x e) .nil .nil 0) fun v _ _ _=>K v)
  |_=>.bad 45
 |.buildSlice ty m ps=>iR_ P ty m ps.toList e .nil .nil 0 fun a _ _ _=>K a
 |.binOp b ty x y yt=>kS_ b ty x y yt P ⟨fun _=>false,false,fun _=>false⟩ call 0 e .nil .nil 0 fun a _ _ _=>K a
 |.slice ty x lo (some hi) (some mo)=>Bool.rec (opt 43 (aval P (.slice ty x lo (some hi) (some mo)) (aev (env e)) (store .nil .nil)) K) (opt 132 (aj_ P ty) fun el=>opt 133 (bj_ P el) fun _=>opt 134 (alow (lo.map (aev (env e)))) fun a=>opt 135 (dt_ (aev (env e) hi)) fun b=>opt 136 (dt_ (aev (env e) mo)) fun c=>iff 137 (Nat.beq a 0 && (Nat.beq b 0 && Nat.beq c 0)) (K (.lit (.slice none 0 0)))) (nw_ (aev (env e) x))
 |op=>iff 54 (dN_ op) (opt 43 (aval P op (aev (env e)) (store .nil .nil)) K)
def gW_ (fl:Bool) (ne:Md) (pu:Nat→Bool) (ops:Array Oper) (call:Cl) (h0:Hp) (t0:Tk) (d:DT):Bool→Ev→Hp→Tk→Nat→Ko→Res :=
 DT.rec (motive:=fun _=>Bool→Ev→Hp→Tk→Nat→Ko→Res) (fun _ e h t n K=>K e h t n)
  (fun i k _ ih tl e h t n K=>opt 53 (ops[i]?) fun o=>Nat.rec (motive:=fun _=>Res) (valK P ops o e h0 t0 fun a=>ih tl (dput o.dst a e) h t n K)
   (fun k _=>Nat.rec (motive:=fun _=>Res) (iff 59 (!tl) (u7_ P fl pu ops call o e h0 t0 h t n fun a h t n=>ih tl (dput o.dst a e) h t n K)) (fun _ _=>j3_ P ne ops call o e h t n fun a h t n=>ih true (dput o.dst a e) h t n K) k) k)
  (fun i _ ih tl e h t n K=>opt 53 (ops[i]?) fun o=>jj_ ops o e fun w=>cd w (anyK P pu call o e fun a=>ih tl (dput o.dst a e) h t n K) (ih tl (dput o.dst (.lit undef) e) h t n K)) (fun i k _ _ ih it tl e h t n K=>lF_ (opt 53 (ops[i]?) fun o=>Nat.rec (motive:=fun _=>Res) (.bad 55)
   (fun k _=>Nat.rec (motive:=fun _=>Res) (iff 59 (!tl) (u7_ P fl pu ops call o e h0 t0 h t n fun a h t n=>ih tl (dput o.dst a e) h t n K)) (fun _ _=>j3_ P ne ops call o e h t n fun a h t n=>ih true (dput o.dst a e) h t n K) k) k) (it tl e h t n K)) d
def offP (ops:Array Oper) (d:Nat) (i:Nat):Bool:=match ops[i]? with
 |some o=>!(o.looksAt ops).contains d && o.dst != some d
 |none=>true
def offT (ops:Array Oper) (d:Nat):DT→Bool
 |.nil=>true
 |.op i _ r=>offP ops d i && offT ops d r
 |.any i r=>offP ops d i && offT ops d r
 |.alt i _ r t=>offP ops d i && (offT ops d r && offT ops d t)
def sn_ (oi oj ol:Oper):Option (TypeId × Operand × Operand × Operand × Operand × Nat × Nat):=match oi.op,oj.op,ol.op,oi.dst,oj.dst with
 |.mapEntry ty m k,.extract (.tmp a) 1,.entryStore _ m' (.tmp b) x,some di,some dj=>bif oi.guard.isNone && oj.guard.isNone && ol.guard.isNone && ol.dst.isNone && Nat.beq a di && Nat.beq b dj && !(Nat.beq di dj) then some (ty,m,k,m',x,di,dj) else none
 |_,_,_,_,_=>none
def tZ_ (l:List (Value × AVal)):Bool:=l.all fun p=>match p.2 with
 |.lit _=>true
 |_=>false
def sY_ (ty:TypeId):Option TypeId:=match P.underlying ty with
 |some (.map _ et)=>some et
 |_=>none
def entK (oi oj ol:Oper) (e:Ev) (h:Hp) (K:Nat→Nat→Nat→Ev→Hp→Res):Res :=
 opt 162 (sn_ oi oj ol) fun q=>iY_ P q.1 (ev q.2.1 e) (ev q.2.2.1 e) h fun mo kv kvs =>
  opt 163 (sY_ P q.1) fun et=>opt 164 (bA_ P et) fun _=>iff 165 (tZ_ kvs) (match ev q.2.2.2.1 (dput (some q.2.2.2.2.2.2) .any (dput (some q.2.2.2.2.2.1) .any e)),ev q.2.2.2.2.1 (dput (some q.2.2.2.2.2.2) .any (dput (some q.2.2.2.2.2.1) .any e)) with
   |.map mo',.lit v=>iff 166 (Nat.beq mo' mo) (K q.2.2.2.2.2.1 q.2.2.2.2.2.2 mo (dput (some q.2.2.2.2.2.2) .any (dput (some q.2.2.2.2.2.1) .any e)) (put mo (.map (dZ_ kv (.lit v) kvs)) h))
   |_,_=>.bad 167)
def gV_ (ops:Array Oper) (h0:Hp) (t0:Tk):DT→Bool→Ev→Hp→Tk→Nat→Ko→Res
 |.nil,_,e,h,t,n,K=>K e h t n
 |.op i 0 r,tl,e,h,t,n,K=>opt 53 (ops[i]?) fun o=>valK P ops o e h0 t0 fun a=>gV_ ops h0 t0 r tl (dput o.dst a e) h t n K
 |.op i 1 (.op j 0 (.op l 1 r)),tl,e,h,t,n,K=>opt 53 (ops[i]?) fun oi=>opt 53 (ops[j]?) fun oj=>opt 53 (ops[l]?) fun ol=>entK P oi oj ol e h fun di dj mo e' h' =>
  iff 168 (!tl && (look mo h0).isNone && offT ops di r && offT ops dj r) (gV_ ops h0 t0 r false e' h' t n fun e h t n=>K (dput (some di) .any (dput (some dj) .any e)) h t n)
 |.op i 1 (.op j 0 (.op l (_ + 2) r)),tl,e,h,t,n,K=>opt 53 (ops[i]?) fun oi=>opt 53 (ops[j]?) fun oj=>opt 53 (ops[l]?) fun ol=>entK P oi oj ol e h fun di dj mo e' h' =>
  iff 169 (!tl && (look mo h0).isNone && offT ops di r && offT ops dj r) (gV_ ops h0 t0 r true e' h' t n fun e h t n=>K (dput (some di) .any (dput (some dj) .any e)) h t n)
 |.op i (_ + 2) (.op j 0 (.op l (_ + 2) r)),_,e,h,t,n,K=>opt 53 (ops[i]?) fun oi=>opt 53 (ops[j]?) fun oj=>opt 53 (ops[l]?) fun ol=>entK P oi oj ol e h fun di dj _ e' h' =>
  iff 170 (offT ops di r && offT ops dj r) (gV_ ops h0 t0 r true e' h' t n fun e h t n=>K (dput (some di) .any (dput (some dj) .any e)) h t n)
 |_,_,_,_,_,_,_=>.bad 161
def v3_ (x:AObj):List Nat:=match x with
 |.cells cs=>cs.filterMap fun a=>match a with
  |.ref o _=>some o
  |_=>none
 |_=>[]
def hf_ (l:List Nat) (e:Ev) (h:Hp):List Nat:=l.flatMap fun k=>match lk k e with
 |.ref o _=>o :: (match look o h with
  |some x=>v3_ x
  |none=>[])
 |_=>[]
def subN (l:List Nat) (h:Hp):Hp:=List.rec (motive:=fun _=>Hp) .nil (fun o _ r=>match look o h with
 |some x=>put o x r
 |none=>r) l
def oG_ (a:AVal):Option Nat:=match a with
 |.ref o _=>some o
 |.map o=>some o
 |.msl o _ _ _=>some o
 |_=>none
def subH (l:List Nat) (e:Ev) (h:Hp):Hp:=List.rec (motive:=fun _=>Hp) .nil (fun k _ r=>match oG_ (lk k e) with
 |some o=>(match look o h with
  |some x=>put o x r
  |none=>r)
 |none=>r) l
def runC (bs en:Nat→Option (List Nat)) (ne:Md) (pu:Nat→Bool) (tr:Nat→DT) (lv:Nat→List Nat) (fuel:Nat) (call:Cl) (c:Code):Nat→Kc :=
 Code.rec (motive:=fun _=>Nat→Kc)
  (fun _ e h t n K=>K .nor e h t n)
  (fun id ops draw _ e h t n K=>Bool.rec (opsK P ne ops call ops.toList e h t n fun e h t n=>K .nor e h t n) (Option.rec (Option.rec (gW_ P true ne pu ops call h t (tr id) false e h t n fun e h t n=>K .nor e h t n) (fun l=>gW_ P false ne pu ops call (subH l e h) .nil (tr id) false e h t n fun e h t n=>K .nor e h t n) (bs id)) (fun l=>gV_ P ops (subN (hf_ l e h) h) .nil (tr id) false e h t n fun e h t n=>K .nor e h t n) (en id)) draw)
  (fun _ _ ia ib b e h t n K=>ia b e h t n fun x e h t n=>Ex.rec (motive:=fun _=>Res) (ib b e h t n K) (fun i=>K (.exit i) e h t n) (K .ret e h t n) x)
  (fun c _ _ ia ib b e h t n K=>asBool (ev c e) fun v=>cd v (ia b e h t n K) (ib b e h t n K))
  (fun id _ ih _ e h t n K=>ih id e h t n fun x e h t n=>Ex.rec (motive:=fun _=>Res) (K .nor e h t n) (fun i=>cd (Nat.beq i id) (K .nor e h t n) (K (.exit i) e h t n)) (K .ret e h t n) x)
  (fun _ ih b=>sW_ (ih b) (lv b) fuel)
  (fun _ _ _ _ _ _ _ _ _ _ _ _=>.bad 56)
  (fun id _ e h t n K=>K (.exit id) e h t n)
  (fun _ ih b=>ih b)
  (fun _ _ e h t n K=>K .nor e h t n)
  (fun _ _ _ _ _ _ _=>.bad 57)
  (fun _ e h t n K=>K .ret e h t n)
  (fun _ _ _ _ _ _ _=>.bad 58) c
def okC (n:Nat) (tr:Nat→DT):Code→Bool
 |.region id ops true=>i0_ n ops (tr id)
 |.region _ ops false=>ops.toList.all (ex_ n ops)
 |.seq a b=>okC n tr a && okC n tr b
 |.cond _ a b=>okC n tr a && okC n tr b
 |.block _ c=>okC n tr c
 |.loop c=>okC n tr c
 |.scope c=>okC n tr c
 |_=>true
def okF (tr:Nat→Nat→DT) (f:Nat):Bool:=match P.funcs[f]? with
 |some fn=>match fn.body with
  |some c=>okC fn.ntmps (tr f) c
  |none=>false
 |none=>false
def nf_ (l:List AVal):Nat→Ev:=List.rec (motive:=fun _=>Nat→Ev) (fun _=>.nil) (fun a _ ih k=>.cons k a (ih (Nat.succ k))) l
def finK (rs:List ResultVar):Kx:=fun x e h t n=>Ex.rec (motive:=fun _=>Res) (opt 60 (aret P rs (env e) (store h t)) fun v=>.ok v h t n) (fun _=>.bad 61) (opt 60 (aret P rs (env e) (store h t)) fun v=>.ok v h t n) x
structure Tab where
 ne:Nat→Bool
 wr:Nat→Bool
 np:Nat→Bool
 ok:Nat→Bool
 pu:Nat→Bool
 tr:Nat→Nat→DT
 lv:Nat→Nat→List Nat
 bs:Nat→Nat→Option (List Nat)
 en:Nat→Nat→Option (List Nat)
 nat:Nat→List AVal→Option AVal
def pC_ (T:Tab) (fuel:Nat) (pu:Nat→Bool) (call:Cl) (f:Nat) (args:List AVal) (h:Hp) (t:Tk) (n:Nat):Res :=
 opt 62 (P.funcs[f]?) fun fn=>opt 63 fn.body fun c=>iff 64 (Nat.ble args.length fn.ntmps && T.ok f) (runC P (T.bs f) (T.en f) ⟨T.ne,T.wr f,pu⟩ pu (T.tr f) (T.lv f) fuel call c 0 (nf_ args 0) h t n (finK P fn.results.toList))
def pE_ (T:Tab) (fuel:Nat) (call:Cl):Cl:=fun g args h t n=>Bool.rec (call g args h t n) (pC_ P T fuel T.pu call g args h t n) (T.wr g)
def puX (T:Tab) (g:Nat):Bool:=T.pu g && !T.wr g
def lE_ (T:Tab) (fuel:Nat) (call:Cl) (f:Nat) (args:List AVal) (h:Hp) (t:Tk) (n:Nat):Res:=Bool.rec (pC_ P T fuel T.pu call f args h t n) (pC_ P T fuel (puX T) (pE_ P T fuel call) f args h t n) (T.np f)
def qp_ (T:Tab) (fuel:Nat) (call:Cl) (f:Nat) (args:List AVal) (h:Hp) (t:Tk) (n:Nat):Res :=
 iff 65 (nfL args) (res1 (lE_ P T fuel call f args .nil .nil 0) fun v h2 _ _=>iff 66 (nf (cB_ (frz h2 (rows v) [] v))) (.ok (cB_ (frz h2 (rows v) [] v)) h t n))
def jV_ (T:Tab) (fuel:Nat) (call:Cl) (f:Nat) (args:List AVal) (h:Hp) (t:Tk) (n:Nat):Res :=
 Option.rec (qp_ P T fuel call f args h t n) (fun v=>.ok v h t n) (T.nat f args)
def iv_ (T:Tab) (fuel depth:Nat):Cl :=
 Nat.rec (motive:=fun _=>Cl) (fun _ _ _ _ _=>.bad 67) (fun _ ih f args h t n=>Bool.rec (lE_ P T fuel ih f args h t n) (jV_ P T fuel ih f (b2_ args) h t n) (T.pu f)) depth
end
end
end Go.Nb
end

section
set_option linter.all false
set_option maxRecDepth 100000
namespace Go.Nb
open Go.Ab Go.RowKit
def aex:Ex→Exit
 |.nor=>.normal
 |.exit b=>.exit b
 |.ret=>.ret
def PX (K:Kx) (R:Res):Exit→Env→NSt→Prop:=fun x e s=>∃ x' e' h t n,x=aex x'∧e=env e'∧s=toSt h t n∧K x' e' h t n=R
def Same (pu:Nat→Bool) (call:Cl):Prop:=∀ f args h t n v h' t' n',pu f=true→call f args h t n=.ok v h' t' n'→h'=h∧t'=t∧n'=n
section
variable {P:Program} {ops:Array Oper} {call:Cl} {pu:Nat→Bool} {R:Res}
theorem dX_ (hR:R.fine) {o:Oper} {e:Ev} {f:Bool→Res} (hr:jj_ ops o e f=R):∃ w,aU_ ops o (env e)=some w∧f w=R:=by
 unfold jj_ at hr
 unfold aU_
 cases hg:o.guard with
 |none=>rw [hg] at hr;exact ⟨true,rfl,hr⟩
 |some g =>
  rw [hg] at hr
  obtain ⟨j,want⟩:=g
  obtain ⟨d,hd,hr⟩:=au_ hR (show opt 22 ((ops[j]?).bind (·.dst)) _=R from hr)
  simp only [hd]
  show ∃ w,(match lk d e with
   |.lit (.bool b)=>some (b == want)
   |.lit _=>some false
   |_=>none)=some w∧f w=R
  rcases ui_ (lk d e) (fun b=>f (b == want)) (aL (lk d e) (fun _=>f false) (.bad 23)) with ⟨b,h1,h2⟩ | ⟨h1,h2⟩
  ·rw [h1]
   exact ⟨b == want,rfl,h2.symm.trans hr⟩
  ·replace hr:=h2.symm.trans hr
   generalize lk d e=a at *
   cases a with
   |lit v =>
    cases v with
    |bool b=>exact absurd rfl (h1 b)
    |_=>exact ⟨false,rfl,hr⟩
   |_=>subst hr;exact hR.elim
theorem pa_ (hR:R.fine) {o:Oper} {e:Ev} {h:Hp} {t:Tk} {K:AVal→Res} (hr:val1 P o e h t K=R):∃ a,aval P o.op (aev (env e)) (store h t)=some a∧K a=R:=by
 unfold val1 at hr
 cases hv:isVal o.op with
 |false=>rw [hv] at hr;exact au_ hR hr
 |true =>
  rw [hv] at hr
  obtain ⟨c,hc⟩:=ob_ P ⟨fun _=>false,false,fun _=>false⟩ (fun _ _ _ _ _=>.bad 43) 0 o.op e h t 0 (fun a _ _ _=>K a) hv
  obtain ⟨a,ha,hK⟩:=au_ hR (hc.symm.trans hr)
  rw [ey_] at ha
  exact ⟨a,ha,hK⟩
theorem pb_ (hR:R.fine) {o:Oper} {e:Ev} {h:Hp} {t:Tk} {K:AVal→Res} (hr:valK P ops o e h t K=R):∃ a,AYields P ops (store h t) o a (env e)∧K a=R:=by
 obtain ⟨w,hw,hr⟩:=dX_ hR hr
 cases w with
 |true =>
  obtain ⟨a,ha,hK⟩:=pa_ hR (show val1 P o e h t K=R from hr)
  exact ⟨a,.inl ⟨hw,ha⟩,hK⟩
 |false=>exact ⟨_,.inr ⟨hw,rfl⟩,hr⟩
theorem da_ {h0 h:Hp} {t0 t:Tk} {n:Nat} {x:AObj} (hs:(store h0 t0).Sub (store h t)) (hn:(look n h0).isNone=true):(store h0 t0).Sub (store (put n x h) t) :=
 ⟨fun o y e=>by
  have e':look o h0=some y:=e
  have ho:o≠n:=fun hh=>by rw [hh] at e';rw [e'] at hn;cases hn
  show look o (put n x h)=some y
  rw [dW_,if_neg ho];exact hs.heap o y e,hs.tok⟩
theorem bK_:∀ l:List AVal,b2_ l=l.map cB_
 |[]=>rfl
 |a :: l=>by rw [b2_,bK_ l];rfl
theorem gI_ (a:AVal):(cB_ a).cells=a.cells.map cB_:=by
 cases a with
 |agg cs=>show b2_ cs=cs.map cB_;exact bK_ cs
 |_=>first | rfl | (simp [cB_,AVal.cells])
theorem hs_ (l:List AVal):flat (b2_ l)=(flat l).map cB_:=by
 rw [bK_]
 unfold flat
 induction l with
 |nil=>rfl
 |cons a l ih=>simp only [List.map_cons,List.flatMap_cons,List.map_append,gI_,ih]
theorem ie_ {κ:K} {a:AVal} {v:Value} (h:Rv κ a v):Rv κ (cB_ a) v:=by
 induction h with
 |any v=>exact .any v
 |lit v=>exact .lit v
 |agg cs vs hn _ ih=>rw [cB_,bK_];exact .agg _ vs (by simpa using hn) fun i hi=>by rw [List.getElem_map];exact ih i (by simpa using hi)
 |tup cs vs hn _ ih=>rw [cB_,bK_];exact .tup _ vs (by simpa using hn) fun i hi=>by rw [List.getElem_map];exact ih i (by simpa using hi)
 |slNil sz t=>exact .slNil sz t
 |slE sz t a=>exact .slE sz t a
 |sl sz l t b off cap vals hcap ht hsz hc hv ih =>
  have hl:(b2_ l).length=l.length:=by rw [bK_,List.length_map]
  have hfl:(flat (b2_ l)).length=(flat l).length:=by rw [hs_,List.length_map]
  rw [cB_,← hl]
  refine .sl sz (b2_ l) t b off cap vals (by rw [hl];exact hcap) (fun h=>by rw [hl];exact ht h) (fun x hx=>?_) (fun k hk=>hc k (by rw [← hfl];exact hk)) fun k hk=>?_
  ·rw [bK_] at hx
   obtain ⟨y,hy,rfl⟩:=List.mem_map.1 hx
   rw [gI_,List.length_map];exact hsz y hy
  ·have hk':k < (flat l).length:=by rw [← hfl];exact hk
   have e:(flat (b2_ l))[k]=cB_ (flat l)[k]:=by
    simp only [hs_,List.getElem_map]
   rw [e];exact ih k hk'
 |own t sz l v h0 hτ ih=>exact ih
 |msl o sz off len b cap n e hb hlen hs hn=>exact .msl o sz off len b cap n e hb hlen hs hn
 |ref o off b hb=>exact .ref o off b hb
 |ro a b off vals hc hv ih=>exact .ro a b off vals hc hv
 |map o b hb=>exact .map o b hb
 |fn f first captured vs ws hn h hm h' ih ih'=>exact .fn f first captured vs ws hn h hm h'
 |iface t a v h ih=>exact .iface t a v h
 |nilp o e n b hb hs=>exact .nilp o e n b hb hs
 |sdp0 k a=>exact .sdp0 k a
 |sdp k l b c h0 hτ ih=>exact .sdp k l b c h0 hτ
 |mslc o sz off len cap e b n hb hlen hs hn=>exact .mslc o sz off len cap e b n hb hlen hs hn
theorem if_ {f:FuncId} {args:List AVal} {s:NSt} {Q:AVal→NSt→Prop} (h:ACalls P f (b2_ args) s Q):ACalls P f args s Q:=fun κ vs hI hsz hv =>
 h κ vs hI (by rw [bK_];simpa using hsz) fun i hi=>by
  have hi':i < args.length:=by rw [bK_] at hi;simpa using hi
  have e:(b2_ args)[i]=cB_ args[i]:=by simp only [bK_,List.getElem_map]
  rw [e];exact ie_ (hv i hi')
theorem ACalls.neutral {f:FuncId} {args:List AVal} {v:AVal} {h h':Hp} {t t':Tk} {n n':Nat} (hc:ACalls P f args (toSt h t n) fun a s=>a=v∧s=toSt h' t' n') (h1:hsub h h'=true) (h2:tsub t t t'=true) (hv:nf (cB_ v)=true) :
  ACalls P f args (toSt h t n) fun a s=>a=cB_ v∧s=toSt h t n:=by
 intro κ vs hN hsz hvs
 refine (hc κ vs hN hsz hvs).mono fun e w' ⟨cv,he,κ',a,s',q1,q2,q3,q4,q5,q6⟩=>?_
 subst q5;subst q6
 have hI:Inv κ' (store h t):=Inv.sub q3.1 (o1_ h1 h2)
 obtain ⟨κ'',r1,r2,r3,r4⟩:=re0 hN q2 hI (bm_ hN.1) (bT_ hN.1)
 exact ⟨cv,he,κ'',_,_,r1.trans q1,r2,r3,r4.keep (ie_ q4) hv,rfl,rfl⟩
theorem he_ (hc:co_ P call) (hR:R.fine) {f:FuncId} {args:List AVal} {h0 h:Hp} {t0 t:Tk} {n:Nat} {K:K1} (hs:(store h0 t0).Sub (store h t)) {fl:Bool} (hr:gh_ fl call f args h0 t0 h t n K=R)
  {Q:AVal→NSt→Prop} (hQ:∀ a h' t' n',(store h0 t0).Sub (store h' t')→K a h' t' n'=R→Q a (toSt h' t' n')):ACalls P f args (toSt h t n) Q:=by
 unfold gh_ at hr
 cases hcall:call f args h t n with
 |bad m=>rw [hcall] at hr;subst hr;exact hR.elim
 |ok v h' t' n' =>
  rw [hcall] at hr
  replace hr:(Bool.rec (iff 131 (hsub h0 h') (iff 138 (tsub t0 t0 t') (K v h' t' n'))) (iff 131 (hsub h h') (iff 138 (tsub t t t') (K (cB_ v) h t n))) (fl && nf (cB_ v)):Res)=R:=hr
  cases hnf:(fl && nf (cB_ v)) with
  |false =>
   rw [hnf] at hr
   obtain ⟨hc1,hr⟩:=ax_ hR hr
   obtain ⟨hc2,hK⟩:=ax_ hR hr
   exact (hc _ _ _ _ _ _ _ _ _ hcall).mono fun a s ⟨h1,h2⟩=>by rw [h1,h2];exact hQ _ _ _ _ (o1_ hc1 hc2) hK
  |true =>
   rw [hnf] at hr
   obtain ⟨hc1,hr⟩:=ax_ hR hr
   obtain ⟨hc2,hK⟩:=ax_ hR hr
   exact (ACalls.neutral (hc _ _ _ _ _ _ _ _ _ hcall) hc1 hc2 (by rw [Bool.and_eq_true] at hnf;exact hnf.2)).mono fun a s ⟨h1,h2⟩=>by rw [h1,h2];exact hQ _ _ _ _ hs hK
theorem n2_ {fl:Bool} (hc:co_ P call) (hp:Same pu call) (hR:R.fine) {o:Oper} {e:Ev} {h0 h:Hp} {t0 t:Tk} {n:Nat} {K:K1} (hs:(store h0 t0).Sub (store h t)) (hr:newK P fl pu call o.type o.op e h0 t0 h t n K=R)
  {Q:AVal→NSt→Prop} (hQ:∀ a h' t' n',(store h0 t0).Sub (store h' t')→K a h' t' n'=R→Q a (toSt h' t' n')):AOp P o (aev (env e)) (toSt h t n) Q:=by
 unfold newK at hr
 split at hr
 ·rename_i ty x ho
  obtain ⟨hn,hr⟩:=ax_ hR hr
  unfold lZ_ at hr
  cases hh:gq_ (ev x e) with
  |none =>
   rw [hh] at hr
   obtain ⟨hb,hK⟩:=ax_ hR (show iff 2 _ _=R from hr)
   rw [bc_] at hK
   rw [a8_] at hb hK
   refine AOp_box ho hb (Nat.le_refl n) ?_
   rw [c5_];exact hQ _ _ _ _ (da_ hs hn) hK
  |some r =>
   rw [hh] at hr
   refine AOp_boxP ho (by rw [← a8_];exact fs_ hh) (Nat.le_refl n) ?_
   rw [c5_];exact hQ _ _ _ _ (da_ hs hn) hr
 ·rename_i ty ho
  obtain ⟨hn,hr⟩:=ax_ hR hr
  obtain ⟨z,hz,hr⟩:=au_ hR hr
  cases hh:eI_ z.cells.toList with
  |none =>
   rw [hh] at hr
   refine AOp_alloc ho hz (Nat.le_refl n) ?_
   rw [c5_];exact hQ _ _ _ _ (da_ hs hn) ((bc_ _ _).symm.trans hr)
  |some r =>
   rw [hh] at hr
   refine AOp_allocP ho hz (eJ_ hh) (Nat.le_refl n) ?_
   rw [c5_];exact hQ _ _ _ _ (da_ hs hn) hr
 ·rename_i ty ho
  obtain ⟨hn,hK⟩:=ax_ hR hr
  refine AOp_makeMap ho (Nat.le_refl n) ?_
  rw [c5_];exact hQ _ _ _ _ (da_ hs hn) hK
 ·rename_i ho;exact kH_ hR ho hr fun a hK=>hQ _ _ _ _ hs hK
 ·rename_i ho;exact nE_ hR ho hr fun a hK=>hQ _ _ _ _ hs hK
 ·rename_i c ho
  split at hr
  ·rename_i f hf
   rw [ey_,a8_] at hr
   unfold of_ at hr
   split at hr
   ·rename_i g a b hfv
    obtain ⟨hc1,hr2⟩:=ax_ hR hr
    clear hr
    simp only [Bool.and_eq_true] at hc1
    obtain ⟨⟨hg,ha⟩,hb⟩:=hc1
    obtain rfl:a=#[]:=Array.ext' (List.length_eq_zero_iff.1 (aP_ ha))
    obtain rfl:b=#[]:=Array.ext' (List.length_eq_zero_iff.1 (aP_ hb))
    refine cZ_ (first:=[]) (captured:=[]) ho hf (.inr ⟨hfv,rfl,rfl⟩) hg ?_
    rw [List.nil_append,List.append_nil]
    cases hpu:pu g with
    |true =>
     rw [hpu] at hr2
     cases hcall:call g (c.args.toList.map (aev (env e))) h t n with
     |bad m=>rw [hcall] at hr2;subst hr2;exact hR.elim
     |ok v h' t' n' =>
      rw [hcall] at hr2
      have hcl:=hc _ _ _ _ _ _ _ _ _ hcall
      obtain ⟨rfl,rfl,rfl⟩:=hp _ _ _ _ _ _ _ _ _ hpu hcall
      exact hcl.mono fun a s ⟨h1,h2⟩=>by rw [h1,h2];exact hQ _ _ _ _ hs hr2
    |false =>
     rw [hpu] at hr2
     cases hnf:nfL (b2_ (c.args.toList.map (aev (env e)))) with
     |true =>
      rw [hnf] at hr2
      refine if_ ?_
      obtain ⟨_,hr3⟩:=ax_ hR (show iff 44 _ _=R from hr2)
      cases hcall:call g (b2_ (c.args.toList.map (aev (env e)))) .nil .nil n with
      |bad m=>rw [hcall] at hr3;subst hr3;exact hR.elim
      |ok v h' t' n' =>
       rw [hcall] at hr3
       obtain ⟨hcnd,hK⟩:=ax_ hR (show iff 130 _ _=R from hr3)
       simp only [Bool.and_eq_true] at hcnd
       obtain ⟨q1,q2,q3,q4,q5⟩:=hcnd
       exact (ACalls.fresh (hc _ _ _ _ _ _ _ _ _ hcall) hnf q1 q2 q3 (Nat.le_of_ble_eq_true q4)).mono fun a s ⟨h1,h2⟩=>by rw [h1,h2];exact hQ _ _ _ _ (o2_ hs q5) hK
     |false =>
      rw [hnf] at hr2
      exact he_ hc hR hs (show gh_ fl call g _ h0 t0 h t n K=R from hr2) hQ
   ·rename_i g first cap hfv
    obtain ⟨hg,hr2⟩:=ax_ hR hr
    exact cZ_ (first:=first) (captured:=cap) ho hf (.inl hfv) hg (he_ hc hR hs hr2 hQ)
   ·subst hr;exact hR.elim
  ·rename_i hf
   split at hr
   ·rename_i x y ty tx ha hb
    obtain ⟨cal,args,argTypes⟩:=c
    obtain rfl:cal=.builtin .append:=hf
    obtain rfl:args=#[x,y]:=Array.ext' ha
    obtain rfl:argTypes=#[ty,tx]:=Array.ext' hb
    obtain ⟨hcnd,hr⟩:=ax_ hR hr
    simp only [Bool.and_eq_true] at hcnd
    refine rm_ hR ho hr fun a t' n' hk hK=>hQ _ _ _ _ ⟨hs.heap,fun i p hp=>?_⟩ hK
    have hp':tok i t0=some p:=hp
    show tok i t'=some p
    rw [hk i (fun k s l hx hik=>?_) (fun hin=>?_)]
    ·exact hs.tok i p hp
    ·have h2:=hcnd.2
     rw [hx] at h2
     rw [hik] at hp'
     replace h2:(tok k t0).isNone=true:=h2
     rw [hp'] at h2
     cases h2
    ·have h1:=hcnd.1
     rw [hin] at hp'
     rw [hp'] at h1
     cases h1
   ·subst hr;exact hR.elim
  ·rename_i hf
   split at hr
   ·rename_i x t1 ha hb;exact nF_ hR ho hf ha hb hr fun a hK=>hQ _ _ _ _ hs hK
   ·subst hr;exact hR.elim
  ·rw [← ho] at hr;exact iP_ hR hr fun a hK=>hQ _ _ _ _ hs hK
 ·rename_i ho;exact iS_ hR ho hr fun a hK=>hQ _ _ _ _ hs hK
 ·rename_i ho
  obtain ⟨hn,hr⟩:=ax_ hR hr
  exact nI_ hR ho hr fun a x hK=>hQ _ _ _ _ (da_ hs hn) hK
 ·rename_i ho
  split at hr
  ·rename_i mo hm
   obtain ⟨hn,hr⟩:=ax_ hR hr
   exact rn_ hR ho hr fun a mo' x hm' hK=>by
    rw [hm] at hm'
    injection hm' with hm'
    subst hm'
    exact hQ _ _ _ _ (da_ hs hn) hK
  ·subst hr;exact hR.elim
 ·rename_i ho
  split at hr
  ·rename_i i _ hi
   obtain ⟨hn,hr⟩:=ax_ hR hr
   exact kI_ hR ho hr fun a i' off x hi' hK=>by
    rw [hi] at hi'
    injection hi' with hi' _
    subst hi'
    exact hQ _ _ _ _ (da_ hs hn) hK
  ·subst hr;exact hR.elim
 ·cases hv:isVal o.op with
  |false=>rw [hv] at hr;exact iP_ hR hr fun a hK=>hQ _ _ _ _ hs hK
  |true =>
   rw [hv] at hr
   obtain ⟨c,hc⟩:=ob_ P ⟨fun _=>false,false,fun _=>false⟩ call o.type o.op e h t n K hv
   obtain ⟨a,ha,hK⟩:=au_ hR (hc.symm.trans hr)
   rw [ey_] at ha
   exact ao_ ha (hQ _ _ _ _ hs hK)
theorem r1_ (hp:Pure P pu call) (hR:R.fine) {o:Oper} {e:Ev} {K:AVal→Res} (hw:aU_ ops o (env e)=some true) (hr:anyK P pu call o e K=R):∃ a,eq_ P ops o a (env e)∧K a=R:=by
 unfold anyK at hr
 split at hr
 ·rename_i c ho
  split at hr
  ·rename_i f hf
   obtain ⟨hc,hr⟩:=ax_ hR hr
   simp only [Bool.and_eq_true] at hc
   rw [ey_] at hr
   cases hcall:call f (c.args.toList.map (aev (env e))) .nil .nil 0 with
   |bad m=>rw [hcall] at hr;subst hr;exact hR.elim
   |ok v h' t' n' =>
    rw [hcall] at hr
    refine ⟨v,.inr ⟨hw,fun s Kk hk=>cZ_ (f:=.func f) (first:=[]) (captured:=[]) ho hf (.inr ⟨rfl,rfl,rfl⟩) hc.1 ?_⟩,hr⟩
    rw [List.nil_append,List.append_nil]
    exact (hp f _ v h' t' n' hc.2 hcall s).mono fun a s' ⟨h1,h2⟩=>by rw [h1,h2];exact hk
  ·subst hr;exact hR.elim
 ·rename_i ty m ps ho
  obtain ⟨el,hel,hr⟩:=au_ hR hr
  obtain ⟨p,hpp,hr⟩:=au_ hR hr
  obtain ⟨hc,hK⟩:=ax_ hR hr
  simp only [Bool.and_eq_true,decide_eq_true_eq] at hc
  obtain ⟨⟨⟨h1,h2⟩,h3⟩,h4⟩:=hc
  rw [bc_] at hK
  simp only [a8_] at hK h4
  refine ⟨_,.inr ⟨hw,fun s Kk hk=>AOp_buildSlice (sz:=p.1) (by_:=p.2) ho hel hpp (aP_ h1) h2 (fun q hq=>?_) (Nat.le_of_ble_eq_true h3) hk⟩,hK⟩
  have:=List.all_eq_true.1 h4 q hq
  simp only [Bool.and_eq_true] at this
  exact ⟨this.1,aP_ this.2⟩
 ·rename_i b ty x y yt ho
  rw [oh_] at hr
  obtain ⟨a,ha,hK⟩:=au_ hR (show opt 113 (aval P (.binOp b ty x y yt) (fun x=>ev x e) (store .nil .nil)) (fun a=>K a)=R from hr)
  rw [ey_] at ha
  exact ⟨a,.inl fun s=>.inl ⟨hw,by rw [ho];exact ha⟩,hK⟩
 ·rename_i ty x lo hi mo ho
  cases hn:nw_ (aev (env e) x) with
  |false =>
   rw [hn] at hr
   obtain ⟨a,ha,hK⟩:=au_ hR hr
   exact ⟨a,.inl fun s=>.inl ⟨hw,by rw [ho];exact ha⟩,hK⟩
  |true =>
   rw [hn] at hr
   have hx:aev (env e) x=.lit (.slice none 0 0):=by
    unfold nw_ at hn
    split at hn
    ·rename_i hh;exact hh
    ·cases hn
   obtain ⟨el,q1,hr⟩:=au_ hR (show opt 132 _ _=R from hr)
   obtain ⟨p,q2,hr⟩:=au_ hR hr
   obtain ⟨a,q3,hr⟩:=au_ hR hr
   obtain ⟨b,q4,hr⟩:=au_ hR hr
   obtain ⟨c,q5,hr⟩:=au_ hR hr
   obtain ⟨q6,hK⟩:=ax_ hR hr
   simp only [Bool.and_eq_true] at q6
   have e1:=aP_ q6.1
   have e2:=aP_ q6.2.1
   have e3:=aP_ q6.2.2
   subst e1;subst e2;subst e3
   exact ⟨_,.inr ⟨hw,fun s Kk hk=>im_ ho q1 q2 hx q3 q4 q5 hk⟩,hK⟩
 ·obtain ⟨hs,hr⟩:=ax_ hR hr
  obtain ⟨a,ha,hK⟩:=au_ hR hr
  exact ⟨a,.inl fun s=>.inl ⟨hw,by rw [d4_ hs _ s.st (store .nil .nil)];exact ha⟩,hK⟩
theorem b3_ {fl:Bool} {ne:Md} (hne:NeOk P ne) (hc:co_ P call) (hp:Same pu call) (hpp:Pure P pu call) (hp2:Pure P ne.pu call) (hR:R.fine) {h0:Hp} {t0:Tk} {n0:Nat}:∀ (d:DT) (tl:Bool) (e:Ev) (h:Hp) (t:Tk) (n:Nat) (K:Ko),(tl=true∨(store h0 t0).Sub (store h t)) →
  gW_ P fl ne pu ops call h0 t0 d tl e h t n K=R→dRun P ops (toSt h0 t0 n0) (PO K R) d (env e) (toSt h t n)
 |.nil,tl,e,h,t,n,K,hs,hr=>⟨e,h,t,n,rfl,rfl,hr⟩
 |.op i 0 r,tl,e,h,t,n,K,hs,hr=>by
  obtain ⟨o,ho,hr⟩:=au_ hR (show opt 53 (ops[i]?) _=R from hr)
  obtain ⟨a,ha,hK⟩:=pb_ hR (show valK P ops o e h0 t0 _=R from hr)
  refine ⟨o,a,ho,ha,?_⟩
  rw [← bH_]
  exact b3_ hne hc hp hpp hp2 hR r tl _ _ _ _ _ hs hK
 |.op i 1 r,tl,e,h,t,n,K,hs,hr=>by
  obtain ⟨o,ho,hr⟩:=au_ hR (show opt 53 (ops[i]?) _=R from hr)
  obtain ⟨htl,hr⟩:=ax_ hR (show iff 59 (!tl) _=R from hr)
  have hs':(store h0 t0).Sub (store h t):=hs.resolve_left (by cases tl with | true=>cases htl | false=>decide)
  refine ⟨o,ho,?_⟩
  obtain ⟨w,hw,hr⟩:=dX_ hR (show jj_ ops o e _=R from hr)
  unfold be_
  rw [hw]
  cases w with
  |true =>
   refine n2_ hc hp hR hs' (show newK P fl pu call o.type o.op e h0 t0 h t n _=R from hr) fun a h' t' n' hsub hK=>⟨hsub,?_⟩
   rw [← bH_]
   exact b3_ hne hc hp hpp hp2 hR r tl _ _ _ _ _ (.inr hsub) hK
  |false =>
   refine ⟨hs',?_⟩
   rw [← bH_]
   exact b3_ hne hc hp hpp hp2 hR r tl _ _ _ _ _ (.inr hs') hr
 |.op i (k + 2) r,tl,e,h,t,n,K,hs,hr=>by
  obtain ⟨o,ho,hr⟩:=au_ hR (show opt 53 (ops[i]?) _=R from hr)
  refine ⟨o,ho,ic_ hne hc hp2 hR (show j3_ P ne ops call o e h t n _=R from hr) fun a h' t' n' hK=>?_⟩
  rw [← bH_]
  exact b3_ hne hc hp hpp hp2 hR r true _ _ _ _ _ (.inl rfl) hK
 |.any i r,tl,e,h,t,n,K,hs,hr=>by
  obtain ⟨o,ho,hr⟩:=au_ hR (show opt 53 (ops[i]?) _=R from hr)
  obtain ⟨w,hw,hr⟩:=dX_ hR (show jj_ ops o e _=R from hr)
  cases w with
  |true =>
   obtain ⟨a,ha,hK⟩:=r1_ hpp hR hw (show anyK P pu call o e _=R from hr)
   refine ⟨o,a,ho,ha,?_⟩
   rw [← bH_]
   exact b3_ hne hc hp hpp hp2 hR r tl _ _ _ _ _ hs hK
  |false =>
   refine ⟨o,.lit undef,ho,.inl fun s=>.inr ⟨hw,rfl⟩,?_⟩
   rw [← bH_]
   exact b3_ hne hc hp hpp hp2 hR r tl _ _ _ _ _ hs hr
 |.alt i 0 r d,tl,e,h,t,n,K,hs,hr=>by
  obtain ⟨h1,_⟩:=ff_ hR (show lF_ _ _=R from hr)
  obtain ⟨o,ho,h1⟩:=au_ hR (show opt 53 (ops[i]?) _=R from h1)
  subst h1;exact hR.elim
 |.alt i 1 r d,tl,e,h,t,n,K,hs,hr=>by
  obtain ⟨h1,h2⟩:=ff_ hR (show lF_ _ _=R from hr)
  refine ⟨?_,b3_ hne hc hp hpp hp2 hR d tl e h t n K hs h2⟩
  obtain ⟨o,ho,hr⟩:=au_ hR (show opt 53 (ops[i]?) _=R from h1)
  obtain ⟨htl,hr⟩:=ax_ hR (show iff 59 (!tl) _=R from hr)
  have hs':(store h0 t0).Sub (store h t):=hs.resolve_left (by cases tl with | true=>cases htl | false=>decide)
  refine ⟨o,ho,?_⟩
  obtain ⟨w,hw,hr⟩:=dX_ hR (show jj_ ops o e _=R from hr)
  unfold be_
  rw [hw]
  cases w with
  |true =>
   refine n2_ hc hp hR hs' (show newK P fl pu call o.type o.op e h0 t0 h t n _=R from hr) fun a h' t' n' hsub hK=>⟨hsub,?_⟩
   rw [← bH_]
   exact b3_ hne hc hp hpp hp2 hR r tl _ _ _ _ _ (.inr hsub) hK
  |false =>
   refine ⟨hs',?_⟩
   rw [← bH_]
   exact b3_ hne hc hp hpp hp2 hR r tl _ _ _ _ _ (.inr hs') hr
 |.alt i (k + 2) r d,tl,e,h,t,n,K,hs,hr=>by
  obtain ⟨h1,h2⟩:=ff_ hR (show lF_ _ _=R from hr)
  refine ⟨?_,b3_ hne hc hp hpp hp2 hR d tl e h t n K hs h2⟩
  obtain ⟨o,ho,hr⟩:=au_ hR (show opt 53 (ops[i]?) _=R from h1)
  refine ⟨o,ho,ic_ hne hc hp2 hR (show j3_ P ne ops call o e h t n _=R from hr) fun a h' t' n' hK=>?_⟩
  rw [← bH_]
  exact b3_ hne hc hp hpp hp2 hR r true _ _ _ _ _ (.inl rfl) hK
theorem g0_ {Kk Kk':Env→NSt→Prop} (hk:∀ e s,Kk e s→Kk' e s):∀ {l:List Oper} {e:Env} {s:NSt},aT_ P ops Kk l e s→aT_ P ops Kk' l e s
 |[],_,_,h=>hk _ _ h
 |_ :: _,_,_,h=>aW_ (fun _ _ h=>g0_ hk h) h
theorem bB_ {s0:NSt} {Kk Kk':Env→NSt→Prop} (hk:∀ e s,Kk e s→Kk' e s):∀ {d:DT} {e:Env} {s:NSt},dRun P ops s0 Kk d e s→dRun P ops s0 Kk' d e s
 |.nil,_,_,h=>hk _ _ h
 |.op i 0 r,_,_,⟨o,a,h1,h2,h3⟩=>⟨o,a,h1,h2,bB_ hk h3⟩
 |.op i 1 r,_,_,⟨o,h1,h2⟩=>⟨o,h1,aW_ (fun _ _ h=>⟨h.1,bB_ hk h.2⟩) h2⟩
 |.op i (_ + 2) r,_,_,⟨o,h1,h2⟩=>⟨o,h1,aW_ (fun _ _ h=>bB_ hk h) h2⟩
 |.any i r,_,_,⟨o,a,h1,h2,h3⟩=>⟨o,a,h1,h2,bB_ hk h3⟩
 |.alt i 0 r t,_,_,⟨⟨o,h1,h2⟩,h3⟩=>⟨⟨o,h1,aW_ (fun _ _ h=>bB_ hk h) h2⟩,bB_ hk h3⟩
 |.alt i 1 r t,_,_,⟨⟨o,h1,h2⟩,h3⟩=>⟨⟨o,h1,aW_ (fun _ _ h=>⟨h.1,bB_ hk h.2⟩) h2⟩,bB_ hk h3⟩
 |.alt i (_ + 2) r t,_,_,⟨⟨o,h1,h2⟩,h3⟩=>⟨⟨o,h1,aW_ (fun _ _ h=>bB_ hk h) h2⟩,bB_ hk h3⟩
theorem js_ (hR:R.fine) {a:AVal} {K:Bool→Res} (h:asBool a K=R):∃ b,a=.lit (.bool b)∧K b=R:=by
 unfold asBool at h
 split at h
 ·exact ⟨_,rfl,h⟩
 ·subst h;exact hR.elim
theorem nM_ (e:Ev):∀ (l:List Nat) (k:Nat),Wk (env e k) (env (keep l e) k)
 |[],k=>.any _
 |j :: l,k=>by
  show Wk (lk k e) (lk k (.cons j (lk j e) (keep l e)))
  rw [nS_]
  by_cases h:j=k
  ·rw [if_pos h,h];exact .refl _
  ·rw [if_neg h];exact nM_ e l k
theorem el_ {d i:Nat} {o:Oper} (ho:ops[i]?=some o) (h:offP ops d i=true):(∀ t,some d=some t→t ∉ o.looksAt ops)∧∀ t,some d=some t→o.dst≠some t:=by
 unfold offP at h
 rw [ho] at h
 simp only [Bool.and_eq_true,Bool.not_eq_true',bne_iff_ne] at h
 refine ⟨fun t ht hm=>?_,fun t ht hd=>?_⟩
 ·obtain rfl:=Option.some.inj ht
  have:=List.contains_iff_mem.2 hm
  rw [h.1] at this
  cases this
 ·obtain rfl:=Option.some.inj ht
  exact h.2 hd
theorem cQ_ {o:Oper} {d:Nat} {b:AVal} {Kk Kk':Env→NSt→Prop} {e:Env} {s:NSt} (h1:∀ t,some d=some t→t ∉ o.looksAt ops) (h2:∀ t,some d=some t→o.dst≠some t) (hk:∀ e s,Kk e s→Kk' (updo e (some d) b) s) (h:be_ P ops o Kk e s):be_ P ops o Kk' (updo e (some d) b) s:=by
 unfold be_ at *
 rw [cy_ h1]
 split
 ·rename_i hw
  simp only [hw] at h
  refine dy_ (fun x hx=>(cr_ (ops:=ops) h1 x hx).symm) (h.mono fun v σ' hq=>?_)
  rw [cx_ e b v h2];exact hk _ _ hq
 ·rename_i hw
  simp only [hw] at h
  rw [cx_ e b (.lit undef) h2];exact hk _ _ h
 ·rename_i hw
  simp only [hw] at h
theorem br_ {s0:NSt} {Kk:Env→NSt→Prop} {d:Nat} {b:AVal}:∀ (t:DT) (e:Env) (s:NSt),offT ops d t=true→dRun P ops s0 Kk t e s→dRun P ops s0 (fun e' s'=>∃ e0,e'=updo e0 (some d) b∧Kk e0 s') t (updo e (some d) b) s
 |.nil,e,s,_,h=>⟨e,rfl,h⟩
 |.op i 0 r,e,s,ho,⟨o,a,h1,h2,h3⟩=>by
  simp only [offT,Bool.and_eq_true] at ho
  obtain ⟨q1,q2⟩:=el_ h1 ho.1
  refine ⟨o,a,h1,h2.other q1,?_⟩
  rw [cx_ e b a q2]
  exact br_ r _ _ ho.2 h3
 |.op i 1 r,e,s,ho,⟨o,h1,h2⟩=>by
  simp only [offT,Bool.and_eq_true] at ho
  obtain ⟨q1,q2⟩:=el_ h1 ho.1
  exact ⟨o,h1,cQ_ q1 q2 (fun e s h=>⟨h.1,br_ r e s ho.2 h.2⟩) h2⟩
 |.op i (_ + 2) r,e,s,ho,⟨o,h1,h2⟩=>by
  simp only [offT,Bool.and_eq_true] at ho
  obtain ⟨q1,q2⟩:=el_ h1 ho.1
  exact ⟨o,h1,cQ_ q1 q2 (fun e s h=>br_ r e s ho.2 h) h2⟩
 |.any i r,e,s,ho,⟨o,a,h1,h2,h3⟩=>by
  simp only [offT,Bool.and_eq_true] at ho
  obtain ⟨q1,q2⟩:=el_ h1 ho.1
  refine ⟨o,a,h1,h2.other q1,?_⟩
  rw [cx_ e b a q2]
  exact br_ r _ _ ho.2 h3
 |.alt i 0 r t,e,s,ho,⟨⟨o,h1,h2⟩,h3⟩=>by
  simp only [offT,Bool.and_eq_true] at ho
  obtain ⟨q1,q2⟩:=el_ h1 ho.1
  exact ⟨⟨o,h1,cQ_ q1 q2 (fun e s h=>br_ r e s ho.2.1 h) h2⟩,br_ t e s ho.2.2 h3⟩
 |.alt i 1 r t,e,s,ho,⟨⟨o,h1,h2⟩,h3⟩=>by
  simp only [offT,Bool.and_eq_true] at ho
  obtain ⟨q1,q2⟩:=el_ h1 ho.1
  exact ⟨⟨o,h1,cQ_ q1 q2 (fun e s h=>⟨h.1,br_ r e s ho.2.1 h.2⟩) h2⟩,br_ t e s ho.2.2 h3⟩
 |.alt i (_ + 2) r t,e,s,ho,⟨⟨o,h1,h2⟩,h3⟩=>by
  simp only [offT,Bool.and_eq_true] at ho
  obtain ⟨q1,q2⟩:=el_ h1 ho.1
  exact ⟨⟨o,h1,cQ_ q1 q2 (fun e s h=>br_ r e s ho.2.1 h) h2⟩,br_ t e s ho.2.2 h3⟩
def PW (K:Ko) (R:Res):Env→NSt→Prop:=fun e s=>∃ e' h t n,(∀ k,Wk (e k) (env e' k))∧s=toSt h t n∧K e' h t n=R
theorem lp_:∀ {l:List (Value × AVal)},tZ_ l=true→∃ m:List (Value × Value),l=litM m
 |[],_=>⟨[],rfl⟩
 |(k,a) :: l,h=>by
  unfold tZ_ at h
  rw [List.all_cons,Bool.and_eq_true] at h
  obtain ⟨m,rfl⟩:=lp_ (l:=l) h.2
  have h1:=h.1
  cases a with
  |lit v=>exact ⟨(k,v) :: m,rfl⟩
  |_=>cases h1
theorem pM_ {oi oj ol:Oper} {ty:TypeId} {m k m' x:Operand} {di dj:Nat} (h:sn_ oi oj ol=some (ty,m,k,m',x,di,dj)):∃ ty',oi.op=.mapEntry ty m k∧oj.op=.extract (.tmp di) 1∧ol.op=.entryStore ty' m' (.tmp dj) x∧oi.dst=some di∧oj.dst=some dj∧ol.dst=none∧oi.guard=none∧oj.guard=none∧ol.guard=none∧di≠dj:=by
 unfold sn_ at h
 split at h
 ·rename_i h1 h2 h3 h4 h5
  revert h
  generalize hb:(_ && _ && _ && _ && _ && _ && _:Bool)=b
  cases b with
  |false=>intro h;cases h
  |true =>
   intro h
   simp only [Bool.and_eq_true,Option.isNone_iff_eq_none,Bool.not_eq_true'] at hb
   obtain ⟨⟨⟨⟨⟨⟨g1,g2⟩,g3⟩,g4⟩,g5⟩,g6⟩,g7⟩:=hb
   have h':=Option.some.inj h
   simp only [Prod.mk.injEq] at h'
   obtain ⟨rfl,rfl,rfl,rfl,rfl,rfl,rfl⟩:=h'
   rw [aP_ g5] at h2
   rw [aP_ g6] at h3
   exact ⟨_,h1,h2,h3,h4,h5,g4,g1,g2,g3,fe_ g7⟩
 ·cases h
theorem ep_ {o:Oper} {e:Env} (h:o.guard=none):aU_ ops o e=some true:=by unfold aU_;rw [h]
theorem tN_ {h:Hp} {t:Tk} {n mo:Nat} {x y:AObj}:(⟨(⟨(toSt h t n).st.set mo x,(toSt h t n).fr⟩:NSt).st.set mo y,(⟨(toSt h t n).st.set mo x,(toSt h t n).fr⟩:NSt).fr⟩:NSt)=toSt (put mo y h) t n:=by
 rw [← fw_]
 show (⟨((toSt h t n).st.set mo x).set mo y,_⟩:NSt)=_
 rw [Store.set_set]
theorem kb_ (e:Env) {di dj:Nat} (h:di≠dj) (a b a' b':AVal):updo (updo (updo (updo e (some di) a') (some dj) b') (some di) a) (some dj) b=updo (updo e (some di) a) (some dj) b:=by
 funext k
 simp only [updo,upd]
 by_cases h1:k=dj
 ·simp [h1]
 ·by_cases h2:k=di
  ·simp [h2,h]
  ·simp [h1,h2]
theorem mB_ {E:Env} {di dj:Nat} {b c a:AVal} {x:Operand} (h:aev (updo (updo E (some di) .any) (some dj) .any) x=a) (ha:a≠.any):aev (updo (updo E (some di) b) (some dj) c) x=a:=by
 cases x with
 |tmp t =>
  simp only [aev,updo,upd] at h ⊢
  by_cases h1:t=dj
  ·rw [if_pos h1] at h;exact absurd h.symm ha
  ·rw [if_neg h1] at h ⊢
   by_cases h2:t=di
   ·rw [if_pos h2] at h;exact absurd h.symm ha
   ·rw [if_neg h2] at h ⊢;exact h
 |_=>exact h
theorem hO_ (hR:R.fine) {oi oj ol:Oper} {e:Ev} {h:Hp} {t:Tk} {n:Nat} {s0:Store} {KK:Nat→Nat→Nat→Ev→Hp→Res} (hr:entK P oi oj ol e h KK=R) {A:NSt→Prop} {B:Env→NSt→Prop}
  (hA:∀ di dj mo e' h' x,KK di dj mo e' h'=R→A (toSt (put mo x h) t n))
  (hB:∀ di dj mo e' y a b,KK di dj mo e' (put mo y h)=R→di≠dj→env e'=updo (updo (env e) (some di) .any) (some dj) .any→B (updo (updo (env e) (some di) a) (some dj) b) (toSt (put mo y h) t n)) :
  be_ P ops oi (fun e' s'=>A s'∧∃ a,AYields P ops s0 oj a e'∧be_ P ops ol B (updo e' oj.dst a) s') (env e) (toSt h t n):=by
 obtain ⟨⟨ty,m,k,m',x,di,dj⟩,hq,r1⟩:=au_ hR hr
 clear hr
 obtain ⟨ty',e1,e2,e3,d1,d2,d3,g1,g2,g3,hd⟩:=pM_ hq
 obtain ⟨kt,et,kd,mo,kv,kvs,q1,q2,q3,q4,q5,q6,q7,r2⟩:=ek_ hR r1
 clear r1
 obtain ⟨et',q8,r3⟩:=au_ hR r2
 clear r2
 obtain ⟨z,q9,r4⟩:=au_ hR r3
 clear r3
 obtain ⟨q10,hr⟩:=ax_ hR r4
 clear r4
 obtain rfl:et=et':=by
  have q8':sY_ P ty=some et':=q8
  unfold sY_ at q8'
  have q1':P.underlying ty=some (.map kt et):=q1
  rw [q1'] at q8'
  exact Option.some.inj q8'
 obtain ⟨kvl,rfl⟩:=lp_ q10
 have he1:env (dput (some dj) .any (dput (some di) .any e))=updo (updo (env e) (some di) .any) (some dj) .any:=by rw [bH_,bH_]
 split at hr
 ·rename_i mo' v hm' hx
  obtain ⟨q11,r5⟩:=ax_ hR hr
  clear hr
  obtain rfl:=aP_ q11
  rw [a8_] at q3 q4
  replace hm':ev m' (dput (some dj) .any (dput (some di) .any e))=.map mo':=hm'
  replace hx:ev x (dput (some dj) .any (dput (some di) .any e))=.lit v:=hx
  rw [a8_,he1] at hm' hx
  unfold be_
  rw [ep_ g1]
  refine AOp_mapEntryP e1 q1 q2 q9 q3 q5 q4 q6 q7 fun es clk born f hst hf=>?_
  refine ⟨by rw [fw_];exact hA _ _ _ _ _ _ r5,.lit (.int .i64 born),.inl ⟨ep_ g2,?_⟩,?_⟩
  ·rw [e2,d1]
   show (match aev (updo (env e) (some di) (.tup [.any,.lit (.int .i64 born)])) (.tmp di) with
    |.tup vs=>vs[1]?
    |_=>none)=_
   simp [aev,updo,upd]
  ·rw [ep_ g3,d1,d2,d3]
   refine AOp_entryStore e3 (mB_ hm' (by simp)) (Store.set_get _ _ _) (by simp [aev,updo,upd]) (mB_ hx (by simp)) hst ?_
   rw [tN_,hf]
   exact hB _ _ _ _ _ _ _ r5 hd he1
 ·subst hr;exact hR.elim
theorem hP_ {s0:NSt} {r:DT} {di dj:Nat} {a b:AVal} {e e':Ev} {s:NSt} {K:Ko} (hd:di≠dj) (he:env e'=updo (updo (env e) (some di) .any) (some dj) .any) (h1:offT ops di r=true) (h2:offT ops dj r=true)
  (hD:dRun P ops s0 (PW (fun e h t n=>K (dput (some di) .any (dput (some dj) .any e)) h t n) R) r (env e') s):dRun P ops s0 (PW K R) r (updo (updo (env e) (some di) a) (some dj) b) s:=by
 have key:=br_ (d:=dj) (b:=b) r _ _ h2 (br_ (d:=di) (b:=a) r _ _ h1 hD)
 rw [he,kb_ _ hd] at key
 refine bB_ ?_ key
 rintro e1 s1 ⟨e2,rfl,e3,rfl,e4,h4,t4,n4,hw,rfl,hK⟩
 refine ⟨dput (some di) .any (dput (some dj) .any e4),h4,t4,n4,fun k=>?_,rfl,hK⟩
 rw [bH_,bH_]
 simp only [updo,upd]
 by_cases hk:k=di
 ·have e:(if k=di then AVal.any else if k=dj then AVal.any else env e4 k)=.any:=if_pos hk
  rw [e];exact .any _
 ·by_cases hj:k=dj
  ·have e:(if k=di then AVal.any else if k=dj then AVal.any else env e4 k)=.any:=by rw [if_neg hk,if_pos hj]
   rw [e];exact .any _
  ·rw [if_neg hj,if_neg hk,if_neg hk,if_neg hj];exact hw k
theorem e4_ (hR:R.fine) {h0:Hp} {t0:Tk} {n0:Nat}:∀ (N:Nat) (d:DT),SizeOf.sizeOf d < N→∀ (tl:Bool) (e:Ev) (h:Hp) (t:Tk) (n:Nat) (K:Ko),(tl=true∨(store h0 t0).Sub (store h t)) →
  gV_ P ops h0 t0 d tl e h t n K=R→dRun P ops (toSt h0 t0 n0) (PW K R) d (env e) (toSt h t n)
 |0,d,hN,_,_,_,_,_,_,_,_=>absurd hN (Nat.not_lt_zero _)
 |N + 1,d,hN,tl,e,h,t,n,K,hs,hr=>by
  unfold gV_ at hr
  split at hr
  ·exact ⟨e,h,t,n,fun _=>.refl _,rfl,hr⟩
  ·rename_i i r
   obtain ⟨o,ho,hr⟩:=au_ hR hr
   obtain ⟨a,ha,hK⟩:=pb_ hR hr
   refine ⟨o,a,ho,ha,?_⟩
   rw [← bH_]
   exact e4_ hR N r (by simp at hN;omega) tl _ _ _ _ _ hs hK
  ·rename_i i j l r
   obtain ⟨oi,hi,hr⟩:=au_ hR hr
   obtain ⟨oj,hj,hr⟩:=au_ hR hr
   obtain ⟨ol,hl,hr⟩:=au_ hR hr
   have sub:∀ mo x,(look mo h0).isNone=true→tl=false→(store h0 t0).Sub (store (put mo x h) t):=fun mo x hn ht=>da_ (hs.resolve_left (by rw [ht];decide)) hn
   have key:=hO_ (P:=P) (ops:=ops) (t:=t) (n:=n) (s0:=(toSt h0 t0 n0).st) hR hr (A:=fun s'=>(toSt h0 t0 n0).Sub s') (B:=fun e'' s''=>(toSt h0 t0 n0).Sub s''∧dRun P ops (toSt h0 t0 n0) (PW K R) r e'' s'') (fun di dj mo e' h' x hk=>by
    obtain ⟨hc,_⟩:=ax_ hR hk
    simp only [Bool.and_eq_true,Bool.not_eq_true'] at hc
    exact sub _ _ hc.1.1.2 hc.1.1.1) fun di dj mo e' y a b hk hd he=>by
     obtain ⟨hc,hk⟩:=ax_ hR hk
     simp only [Bool.and_eq_true,Bool.not_eq_true'] at hc
     have hsub:=sub mo y hc.1.1.2 hc.1.1.1
     exact ⟨hsub,hP_ hd he hc.1.2 hc.2 (e4_ hR N r (by simp at hN;omega) false _ _ _ _ _ (.inr hsub) hk)⟩
   exact ⟨oi,hi,aW_ (fun e' s' ⟨h1,a,h2,h3⟩=>⟨h1,oj,a,hj,h2,ol,hl,h3⟩) key⟩
  ·rename_i i j l q r
   obtain ⟨oi,hi,hr⟩:=au_ hR hr
   obtain ⟨oj,hj,hr⟩:=au_ hR hr
   obtain ⟨ol,hl,hr⟩:=au_ hR hr
   have sub:∀ mo x,(look mo h0).isNone=true→tl=false→(store h0 t0).Sub (store (put mo x h) t):=fun mo x hn ht=>da_ (hs.resolve_left (by rw [ht];decide)) hn
   have key:=hO_ (P:=P) (ops:=ops) (t:=t) (n:=n) (s0:=(toSt h0 t0 n0).st) hR hr (A:=fun s'=>(toSt h0 t0 n0).Sub s') (B:=fun e'' s''=>dRun P ops (toSt h0 t0 n0) (PW K R) r e'' s'') (fun di dj mo e' h' x hk=>by
    obtain ⟨hc,_⟩:=ax_ hR hk
    simp only [Bool.and_eq_true,Bool.not_eq_true'] at hc
    exact sub _ _ hc.1.1.2 hc.1.1.1) fun di dj mo e' y a b hk hd he=>by
     obtain ⟨hc,hk⟩:=ax_ hR hk
     simp only [Bool.and_eq_true,Bool.not_eq_true'] at hc
     exact hP_ hd he hc.1.2 hc.2 (e4_ hR N r (by simp at hN;omega) true _ _ _ _ _ (.inl rfl) hk)
   exact ⟨oi,hi,aW_ (fun e' s' ⟨h1,a,h2,h3⟩=>⟨h1,oj,a,hj,h2,ol,hl,h3⟩) key⟩
  ·rename_i i p j l q r
   obtain ⟨oi,hi,hr⟩:=au_ hR hr
   obtain ⟨oj,hj,hr⟩:=au_ hR hr
   obtain ⟨ol,hl,hr⟩:=au_ hR hr
   have key:=hO_ (P:=P) (ops:=ops) (t:=t) (n:=n) (s0:=(toSt h0 t0 n0).st) hR hr (A:=fun _=>True) (B:=fun e'' s''=>dRun P ops (toSt h0 t0 n0) (PW K R) r e'' s'') (fun _ _ _ _ _ _ _=>trivial) fun di dj mo e' y a b hk hd he=>by
     obtain ⟨hc,hk⟩:=ax_ hR hk
     simp only [Bool.and_eq_true] at hc
     exact hP_ hd he hc.1 hc.2 (e4_ hR N r (by simp at hN;omega) true _ _ _ _ _ (.inl rfl) hk)
   exact ⟨oi,hi,aW_ (fun e' s' ⟨_,a,h2,h3⟩=>⟨oj,a,hj,h2,ol,hl,h3⟩) key⟩
  ·subst hr;exact hR.elim
theorem ig_ {t:Tk} {h:Hp}:∀ l:List Nat,(store (subN l h) .nil).Sub (store h t)
 |[]=>⟨fun o x hx=>(by have:look o .nil=some x:=hx;rw [bN_] at this;cases this),fun o p hp=>(by cases hp)⟩
 |k :: l=>by
  have ih:=ig_ (t:=t) (h:=h) l
  refine ⟨fun o x hx=>?_,fun o p hp=>(by cases hp)⟩
  have hx':look o (match look k h with
   |some x=>put k x (subN l h)
   |none=>subN l h)=some x:=hx
  split at hx'
  ·rename_i y hy
   rw [dW_] at hx'
   by_cases ho:o=k
   ·rw [if_pos ho] at hx'
    rw [ho]
    exact hy.trans hx'
   ·rw [if_neg ho] at hx';exact ih.heap o x hx'
  ·exact ih.heap o x hx'
theorem px_ {n:Nat} {c:Code} {Q Q':Exit→Env→NSt→Prop} {e:Env} {s:NSt} (h:awp P n c Q' e s) (hq:∀ ex e s,Q' ex e s→∃ e',(∀ k,Wk (e k) (e' k))∧Q ex e' s):awp P n c Q e s :=
 fun κ a hs=>wp_mono (h κ a hs) fun ex a' w' ⟨κ',e1,s1,q1,q2,q3,q4⟩=>by
  obtain ⟨e2,hw,hQ⟩:=hq _ _ _ q4
  exact ⟨κ',e2,s1,q1,q2,⟨q3.defers,q3.size,fun k=>(q3.env k).wk (hw k),q3.inv⟩,hQ⟩
variable {ntm:Nat} {tr:Nat→DT} {lv:Nat→List Nat} {fuel:Nat}
theorem qd_ (hR:R.fine) {body:Kc} {c:Code} (hb:∀ e h t n K,body e h t n K=R→awp P ntm c (PX K R) (env e) (toSt h t n)) {l:List Nat} {e:Ev} {h:Hp} {t:Tk} {n:Nat} {K:Kx} (hr:sW_ body l fuel e h t n K=R) :
  awp P ntm (.loop c) (PX K R) (env e) (toSt h t n):=by
 refine hH_ (fun m e s=>∃ e' h t n,(∀ k,Wk (e k) (env e' k))∧s=toSt h t n∧sW_ body l m e' h t n K=R) (m:=fuel) ⟨e,h,t,n,fun _=>.refl _,rfl,hr⟩ ?_
 rintro m e s ⟨e',h,t,n,hw,rfl,hl⟩
 cases m with
 |zero=>subst hl;exact hR.elim
 |succ m =>
  refine awp.wk (awp.mono (hb _ _ _ _ _ (show body e' h t n _=R from hl)) ?_) hw (.refl _)
  rintro x e2 s2 ⟨x',e3,h3,t3,n3,rfl,rfl,rfl,hx⟩
  cases x' with
  |nor=>exact ⟨m,Nat.lt_succ_self m,keep l e3,h3,t3,n3,nM_ e3 l,rfl,hx⟩
  |exit b=>exact ⟨.exit b,e3,h3,t3,n3,rfl,rfl,rfl,hx⟩
  |ret=>exact ⟨.ret,e3,h3,t3,n3,rfl,rfl,rfl,hx⟩
theorem lm_ {t:Tk} {h:Hp} {e:Ev}:∀ l:List Nat,(store (subH l e h) .nil).Sub (store h t)
 |[]=>⟨fun o x hx=>(by have:look o .nil=some x:=hx;rw [bN_] at this;cases this),fun o p hp=>(by cases hp)⟩
 |k :: l=>by
  have ih:=lm_ (t:=t) (h:=h) (e:=e) l
  refine ⟨fun o x hx=>?_,fun o p hp=>(by cases hp)⟩
  have hx':look o (match oG_ (lk k e) with
   |some o=>(match look o h with
    |some x=>put o x (subH l e h)
    |none=>subH l e h)
   |none=>subH l e h)=some x:=hx
  split at hx'
  ·rename_i o' _
   split at hx'
   ·rename_i y hy
    rw [dW_] at hx'
    by_cases ho:o=o'
    ·rw [if_pos ho] at hx'
     rw [ho]
     exact hy.trans hx'
    ·rw [if_neg ho] at hx';exact ih.heap o x hx'
   ·exact ih.heap o x hx'
  ·exact ih.heap o x hx'
theorem dL_ {bs en:Nat→Option (List Nat)} {ne:Md} (hne:NeOk P ne) (hm:P.follows .mixedOrders=true) (hc:co_ P call) (hp:Same pu call) (hpp:Pure P pu call) (hp2:Pure P ne.pu call) (hR:R.fine):∀ (c:Code),okC ntm tr c=true→∀ (b:Nat) (e:Ev) (h:Hp) (t:Tk) (n:Nat) (K:Kx),runC P bs en ne pu tr lv fuel call c b e h t n K=R→awp P ntm c (PX K R) (env e) (toSt h t n)
 |.skip,_,b,e,h,t,n,K,hr=>ae_ ⟨.nor,e,h,t,n,rfl,rfl,rfl,hr⟩
 |.region id ops false,ho,b,e,h,t,n,K,hr=>by
  have key:=dS_ (P:=P) (n:=ntm) (id:=id) (l:=ops.toList) (Q:=PX K R) (e:=env e) (σ:=toSt h t n) (by simpa [okC] using ho) (by
   have:=oc_ (P:=P) (ops:=ops) hne hc hp2 hR ops.toList e h t n (fun e h t n=>K .nor e h t n) hr
   rw [Array.toArray_toList]
   exact g0_ (fun e s ⟨e',h',t',n',h1,h2,h3⟩=>⟨.nor,e',h',t',n',rfl,h1,h2,h3⟩) this)
  rwa [Array.toArray_toList] at key
 |.region id ops true,ho,b,e,h,t,n,K,hr=>by
  cases hen:en id with
  |some l =>
   have hr2:gV_ P ops (subN (hf_ l e h) h) .nil (tr id) false e h t n (fun e h t n=>K .nor e h t n)=R:=by
    have:(Option.rec (Option.rec (gW_ P true ne pu ops call h t (tr id) false e h t n fun e h t n=>K .nor e h t n) (fun l=>gW_ P false ne pu ops call (subH l e h) .nil (tr id) false e h t n fun e h t n=>K .nor e h t n) (bs id)) (fun l=>gV_ P ops (subN (hf_ l e h) h) .nil (tr id) false e h t n fun e h t n=>K .nor e h t n) (en id):Res)=R:=hr
    rw [hen] at this;exact this
   have key:=aL_ (P:=P) (n:=ntm) (id:=id) (l:=ops.toList) (Q:=fun ex e s=>ex=.normal∧PW (fun e h t n=>K .nor e h t n) R e s) (e:=env e) (s0:=toSt (subN (hf_ l e h) h) .nil n) (σ:=toSt h t n) (ig_ _) (tr id) hm (by rw [Array.toArray_toList];exact ho) (by
    have:=e4_ (P:=P) (ops:=ops) (h0:=subN (hf_ l e h) h) (t0:=.nil) (n0:=n) hR _ (tr id) (Nat.lt_succ_self _) false e h t n (fun e h t n=>K .nor e h t n) (.inr (ig_ _)) hr2
    rw [Array.toArray_toList]
    exact bB_ (fun e s hp=>⟨rfl,hp⟩) this)
   rw [Array.toArray_toList] at key
   exact px_ key fun ex e s ⟨hx,e',h',t',n',h1,h2,h3⟩=>⟨env e',h1,by subst hx;exact ⟨.nor,e',h',t',n',rfl,rfl,h2,h3⟩⟩
  |none =>
  have hr':(Option.rec (gW_ P true ne pu ops call h t (tr id) false e h t n fun e h t n=>K .nor e h t n) (fun l=>gW_ P false ne pu ops call (subH l e h) .nil (tr id) false e h t n fun e h t n=>K .nor e h t n) (bs id):Res)=R:=by
   have:(Option.rec (Option.rec (gW_ P true ne pu ops call h t (tr id) false e h t n fun e h t n=>K .nor e h t n) (fun l=>gW_ P false ne pu ops call (subH l e h) .nil (tr id) false e h t n fun e h t n=>K .nor e h t n) (bs id)) (fun l=>gV_ P ops (subN (hf_ l e h) h) .nil (tr id) false e h t n fun e h t n=>K .nor e h t n) (en id):Res)=R:=hr
   rw [hen] at this;exact this
  obtain ⟨fl,hb,tb,hsb,hr2⟩:∃ (fl:Bool) (hb:Hp) (tb:Tk),(store hb tb).Sub (store h t)∧gW_ P fl ne pu ops call hb tb (tr id) false e h t n (fun e h t n=>K .nor e h t n)=R:=by
   cases hbs:bs id with
   |none=>rw [hbs] at hr';exact ⟨true,h,t,.refl _,hr'⟩
   |some l=>rw [hbs] at hr';exact ⟨false,subH l e h,.nil,lm_ l,hr'⟩
  have key:=aL_ (P:=P) (n:=ntm) (id:=id) (l:=ops.toList) (Q:=PX K R) (e:=env e) (s0:=toSt hb tb n) (σ:=toSt h t n) hsb (tr id) hm (by rw [Array.toArray_toList];exact ho) (by
   have:=b3_ (P:=P) (ops:=ops) (h0:=hb) (t0:=tb) (n0:=n) hne hc hp hpp hp2 hR (tr id) false e h t n (fun e h t n=>K .nor e h t n) (.inr hsb) hr2
   rw [Array.toArray_toList]
   exact bB_ (fun e s ⟨e',h',t',n',h1,h2,h3⟩=>⟨.nor,e',h',t',n',rfl,h1,h2,h3⟩) this)
  rwa [Array.toArray_toList] at key
 |.seq x y,ho,b,e,h,t,n,K,hr=>by
  simp only [okC,Bool.and_eq_true] at ho
  refine ab_ (awp.mono (dL_ hne hm hc hp hpp hp2 hR x ho.1 b e h t n _ hr) ?_)
  rintro ex e2 s2 ⟨x',e3,h3,t3,n3,rfl,rfl,rfl,hx⟩
  cases x' with
  |nor=>exact dL_ hne hm hc hp hpp hp2 hR y ho.2 b _ _ _ _ _ hx
  |exit i=>exact ⟨.exit i,e3,h3,t3,n3,rfl,rfl,rfl,hx⟩
  |ret=>exact ⟨.ret,e3,h3,t3,n3,rfl,rfl,rfl,hx⟩
 |.cond c x y,ho,b,e,h,t,n,K,hr=>by
  simp only [okC,Bool.and_eq_true] at ho
  obtain ⟨v,hv,hr⟩:=js_ hR (show asBool (ev c e) _=R from hr)
  rw [a8_] at hv
  refine hG_ hv (fun hv=>?_) (fun hv=>?_)
  ·subst hv;exact dL_ hne hm hc hp hpp hp2 hR x ho.1 b _ _ _ _ _ hr
  ·subst hv;exact dL_ hne hm hc hp hpp hp2 hR y ho.2 b _ _ _ _ _ hr
 |.block id c,ho,b,e,h,t,n,K,hr=>by
  refine ah_ (awp.mono (dL_ hne hm hc hp hpp hp2 hR c ho id e h t n _ hr) ?_)
  rintro ex e2 s2 ⟨x',e3,h3,t3,n3,rfl,rfl,rfl,hx⟩
  cases x' with
  |nor=>exact ⟨.nor,e3,h3,t3,n3,rfl,rfl,rfl,hx⟩
  |exit i =>
   have hx':cd (Nat.beq i id) (K .nor e3 h3 t3 n3) (K (.exit i) e3 h3 t3 n3)=R:=hx
   show if i=id then PX K R .normal _ _ else PX K R (.exit i) _ _
   cases hb:Nat.beq i id with
   |true=>rw [hb] at hx';rw [if_pos (aP_ hb)];exact ⟨.nor,e3,h3,t3,n3,rfl,rfl,rfl,hx'⟩
   |false=>rw [hb] at hx';rw [if_neg (fe_ hb)];exact ⟨.exit i,e3,h3,t3,n3,rfl,rfl,rfl,hx'⟩
  |ret=>exact ⟨.ret,e3,h3,t3,n3,rfl,rfl,rfl,hx⟩
 |.loop c,ho,b,e,h,t,n,K,hr=>qd_ (fuel:=fuel) (l:=lv b) hR (fun e h t n K hr=>dL_ hne hm hc hp hpp hp2 hR c ho b e h t n K hr) hr
 |.rangeFunc _ _ _ _,_,b,e,h,t,n,K,hr=>by subst hr;exact hR.elim
 |.exit id,_,b,e,h,t,n,K,hr=>ay_ ⟨.exit id,e,h,t,n,rfl,rfl,rfl,hr⟩
 |.scope c,ho,b,e,h,t,n,K,hr=>mL_ (dL_ hne hm hc hp hpp hp2 hR c ho b e h t n K hr) fun l e s ⟨x',_,_,_,_,hx,_⟩=>by cases x' <;> cases hx
 |.label l,_,b,e,h,t,n,K,hr=>mK_ ⟨.nor,e,h,t,n,rfl,rfl,rfl,hr⟩
 |.goto _,_,b,e,h,t,n,K,hr=>by subst hr;exact hR.elim
 |.ret,_,b,e,h,t,n,K,hr=>ac_ ⟨.ret,e,h,t,n,rfl,rfl,rfl,hr⟩
 |.refuse _,_,b,e,h,t,n,K,hr=>by subst hr;exact hR.elim
theorem kv_:∀ (l:List AVal) (k:Nat),env (nf_ l k)=fC_ k l
 |[],k=>rfl
 |a :: l,k=>by
  show env (.cons k a (nf_ l (k + 1)))=upd (fC_ (k + 1) l) k a
  rw [kw_,kv_ l]
def in_ (P:Program) (T:Tab):Prop:=(∀ f,T.ok f=true→okF P T.tr f=true)∧∀ f,T.ne f=true→cE_ P f=some Extern.AbiNoEscape.same
theorem hJ_ {T:Tab} {pu:Nat→Bool} (hT:in_ P T) (hm:P.follows .mixedOrders=true) (hc:co_ P call) (hp:Same pu call) (hpp:Pure P pu call) {f:FuncId} {args:List AVal} {h:Hp} {t:Tk} {n:Nat} {v:AVal} {h':Hp} {t':Tk} {n':Nat} (hr:pC_ P T fuel pu call f args h t n=.ok v h' t' n') :
  ACalls P f args (toSt h t n) fun a s=>a=v∧s=toSt h' t' n':=by
 obtain ⟨R,hRe⟩:∃ R,R=Res.ok v h' t' n':=⟨_,rfl⟩
 rw [← hRe] at hr
 have hR:R.fine:=by rw [hRe];exact trivial
 obtain ⟨fn,hf,hr⟩:=au_ hR hr
 obtain ⟨c,hb,hr⟩:=au_ hR hr
 obtain ⟨hcnd,hr⟩:=ax_ hR hr
 simp only [Bool.and_eq_true] at hcnd
 have hok:okC fn.ntmps (T.tr f) c=true:=by
  have:=hT.1 f hcnd.2
  unfold okF at this
  rw [hf] at this
  simpa only [hb] using this
 refine fP_ hf hb (Nat.le_of_ble_eq_true hcnd.1) ?_
 rw [← kv_]
 refine awp.mono (dL_ (ne:=⟨T.ne,T.wr f,pu⟩) hT.2 hm hc hp hpp hpp hR c hok 0 _ _ _ _ _ hr) ?_
 have fin:∀ {e3 h3 t3 n3},opt 60 (aret P fn.results.toList (env e3) (store h3 t3)) (fun v=>.ok v h3 t3 n3)=R→∃ w,aret P fn.results.toList (env e3) (store h3 t3)=some w∧w=v∧toSt h3 t3 n3=toSt h' t' n':=fun hx=>by
  obtain ⟨w,hw,hx⟩:=au_ hR hx
  rw [hRe] at hx
  injection hx with h1 h2 h3 h4
  exact ⟨w,hw,h1,by rw [h2,h3,h4]⟩
 rintro ex e2 s2 ⟨x',e3,h3,t3,n3,rfl,rfl,rfl,hx⟩
 cases x' with
 |nor=>exact fin hx
 |exit i=>subst hx;exact hR.elim
 |ret=>exact fin hx
theorem kk_ {T:Tab} (hT:in_ P T) (hm:P.follows .mixedOrders=true) (hc:co_ P call) (hp:Same T.pu call) (hpp:Pure P T.pu call) {f:FuncId} {args:List AVal} {h:Hp} {t:Tk} {n:Nat} {v:AVal} {h':Hp} {t':Tk} {n':Nat} (hr:lE_ P T fuel call f args h t n=.ok v h' t' n') :
  ACalls P f args (toSt h t n) fun a s=>a=v∧s=toSt h' t' n':=by
 unfold lE_ at hr
 cases hn:T.np f with
 |false=>rw [hn] at hr;exact hJ_ hT hm hc hp hpp hr
 |true =>
  rw [hn] at hr
  have e:∀ g args h t n,T.wr g=false→pE_ P T fuel call g args h t n=call g args h t n:=fun g args h t n hw=>by
   unfold pE_
   rw [hw]
  have hx:∀ g,puX T g=true→T.pu g=true∧T.wr g=false:=fun g hg=>by
   unfold puX at hg
   rw [Bool.and_eq_true] at hg
   exact ⟨hg.1,by cases hw:T.wr g with
    |false=>rfl
    |true=>rw [hw] at hg;cases hg.2⟩
  refine hJ_ hT hm ?_ ?_ ?_ hr
  ·intro g args h t n v h' t' n' hcall
   cases hw:T.wr g with
   |false=>rw [e _ _ _ _ _ hw] at hcall;exact hc _ _ _ _ _ _ _ _ _ hcall
   |true =>
    unfold pE_ at hcall
    rw [hw] at hcall
    exact hJ_ hT hm hc hp hpp hcall
  ·intro g args h t n v h' t' n' hg hcall
   obtain ⟨h1,h2⟩:=hx g hg
   rw [e _ _ _ _ _ h2] at hcall
   exact hp _ _ _ _ _ _ _ _ _ h1 hcall
  ·intro g args v h' t' n' hg hcall
   obtain ⟨h1,h2⟩:=hx g hg
   rw [e _ _ _ _ _ h2] at hcall
   exact hpp _ _ _ _ _ _ h1 hcall
theorem qq_ {T:Tab} (hT:in_ P T) (hm:P.follows .mixedOrders=true) (hc:co_ P call) (hp:Same T.pu call) (hpp:Pure P T.pu call) {f:FuncId} {args:List AVal} {h:Hp} {t:Tk} {n:Nat} {v:AVal} {h':Hp} {t':Tk} {n':Nat} (hr:qp_ P T fuel call f args h t n=.ok v h' t' n') :
  (h'=h∧t'=t∧n'=n)∧(∀ h2 t2 n2,qp_ P T fuel call f args h2 t2 n2=.ok v h2 t2 n2)∧∀ s:NSt,ACalls P f args s fun a s'=>a=v∧s'=s:=by
 obtain ⟨ha,hr⟩:=ax_ (R:=.ok v h' t' n') trivial hr
 cases hb:lE_ P T fuel call f args .nil .nil 0 with
 |bad m=>rw [hb] at hr;cases hr
 |ok w h2 t2 n2 =>
  rw [hb] at hr
  obtain ⟨hn,hr⟩:=ax_ (R:=.ok v h' t' n') trivial (show iff 66 (nf (cB_ (frz h2 (rows w) [] w))) _=_ from hr)
  injection hr with q1 q2 q3 q4
  subst q1;subst q2;subst q3;subst q4
  refine ⟨⟨rfl,rfl,rfl⟩,fun h3 t3 n3=>?_,?_⟩
  ·unfold qp_
   rw [ha,hb]
   show iff 66 (nf (cB_ (frz h2 (rows w) [] w))) _=_
   rw [hn];rfl
  ·refine fun s0=>ACalls.pure (N:=fun o=>0≤o) (v:=cB_ (frz h2 (rows w) [] w)) ((kk_ hT hm hc hp hpp hb).mono fun a s ⟨h1,hs⟩ κ cv hN hv=>?_) ha hn ⟨rfl,rfl⟩
   rw [h1] at hv
   rw [hs] at hN
   obtain ⟨κ2,σ2,r1,r2,r3,r4,_⟩:=kA_ (h:=h2) (rows w) [] hN.1 (fun _ _=>rfl) hv
   exact ⟨κ2,σ2,r1,r2,r3,ie_ r4⟩
def mw_ (P:Program) (nat:Nat→List AVal→Option AVal):Prop:=∀ f args v,nat f args=some v→∀ s:NSt,ACalls P f args s fun a s'=>a=v∧s'=s
theorem qr_ {T:Tab} (hT:in_ P T) (hm:P.follows .mixedOrders=true) (hn:mw_ P T.nat) (hc:co_ P call) (hp:Same T.pu call) (hpp:Pure P T.pu call) {f:FuncId} {args:List AVal} {h:Hp} {t:Tk} {n:Nat} {v:AVal} {h':Hp} {t':Tk} {n':Nat} (hr:jV_ P T fuel call f args h t n=.ok v h' t' n') :
  (h'=h∧t'=t∧n'=n)∧(∀ h2 t2 n2,jV_ P T fuel call f args h2 t2 n2=.ok v h2 t2 n2)∧∀ s:NSt,ACalls P f args s fun a s'=>a=v∧s'=s:=by
 unfold jV_ at hr
 cases hna:T.nat f args with
 |none =>
  rw [hna] at hr
  obtain ⟨h1,h2,h3⟩:=qq_ hT hm hc hp hpp hr
  exact ⟨h1,fun h4 t4 n4=>by unfold jV_;rw [hna];exact h2 h4 t4 n4,h3⟩
 |some w =>
  rw [hna] at hr
  injection hr with q1 q2 q3 q4
  subst q1;subst q2;subst q3;subst q4
  exact ⟨⟨rfl,rfl,rfl⟩,fun h4 t4 n4=>by unfold jV_;rw [hna],hn _ _ _ hna⟩
theorem kn_ {T:Tab} (hT:in_ P T) (hm:P.follows .mixedOrders=true) (hn:mw_ P T.nat):∀ depth,co_ P (iv_ P T fuel depth)∧Same T.pu (iv_ P T fuel depth)∧Pure P T.pu (iv_ P T fuel depth)
 |0=>⟨fun _ _ _ _ _ _ _ _ _ h=>(by cases h),fun _ _ _ _ _ _ _ _ _ _ h=>(by cases h),fun _ _ _ _ _ _ _ h=>(by cases h)⟩
 |d + 1=>by
  obtain ⟨hc,hp,hpp⟩:=kn_ hT hm hn d
  have key:∀ f args h t n v h' t' n',iv_ P T fuel (d + 1) f args h t n=.ok v h' t' n'→(T.pu f=true→(h'=h∧t'=t∧n'=n)∧∀ s:NSt,ACalls P f args s fun a s'=>a=v∧s'=s)∧ACalls P f args (toSt h t n) fun a s=>a=v∧s=toSt h' t' n':=by
   intro f args h t n v h' t' n' hr
   have hr':(Bool.rec (lE_ P T fuel (iv_ P T fuel d) f args h t n) (jV_ P T fuel (iv_ P T fuel d) f (b2_ args) h t n) (T.pu f):Res)=.ok v h' t' n':=hr
   cases hpu:T.pu f with
   |false=>rw [hpu] at hr';exact ⟨fun h=>(by cases h),kk_ hT hm hc hp hpp hr'⟩
   |true =>
    rw [hpu] at hr'
    obtain ⟨h1,_,h2⟩:=qr_ hT hm hn hc hp hpp hr'
    refine ⟨fun _=>⟨h1,fun s=>if_ (h2 s)⟩,?_⟩
    obtain ⟨rfl,rfl,rfl⟩:=h1
    exact if_ (h2 _)
  exact ⟨fun f args h t n v h' t' n' hr=>(key f args h t n v h' t' n' hr).2,fun f args h t n v h' t' n' hpu hr=>((key f args h t n v h' t' n' hr).1 hpu).1,fun f args v h' t' n' hpu hr=>((key f args _ _ _ v h' t' n' hr).1 hpu).2⟩
theorem ran {T:Tab} (hT:in_ P T) (hm:P.follows .mixedOrders=true) (hn:mw_ P T.nat) {depth:Nat} {f:FuncId} {args:List AVal} {v:AVal} {h':Hp} {t':Tk} {n':Nat} (hpu:T.pu f=true) (hr:iv_ P T fuel depth f args .nil .nil 0=.ok v h' t' n') :
  ∀ s:NSt,ACalls P f args s fun a s'=>a=v∧s'=s:=(kn_ hT hm hn depth).2.2 f args v h' t' n' hpu hr
end
end Go.Nb
end

section
set_option linter.all false
set_option maxRecDepth 100000
namespace Go.Nb
open Go.Ab Go.RowKit
noncomputable section
mutual
def wkb:AVal→AVal→Bool
 |.lit a,.lit b=>veq a b
 |.lit (.slice none 0 0),.sl _ [] _=>true
 |.agg a,.agg b=>wkbL a b
 |.tup a,.tup b=>wkbL a b
 |.sl s a _,.sl s' b false=>Nat.beq s s' && (b.all (fun x=>Nat.beq x.cells.length s') && wkbL a b)
 |_,_=>false
def wkbL:List AVal→List AVal→Bool
 |[],[]=>true
 |a :: l,b :: m=>wkb a b && wkbL l m
 |_,_=>false
end
theorem t2_:∀ {l m:List AVal},(l.length=m.length∧∀ i (hi:i < l.length) (hj:i < m.length),Wk l[i] m[i])→∀ {a b:AVal},Wk a b→((a :: l).length=(b :: m).length∧∀ i (hi:i < (a :: l).length) (hj:i < (b :: m).length),Wk (a :: l)[i] (b :: m)[i]):=fun h _ _ h1 =>
 ⟨by rw [List.length_cons,List.length_cons,h.1],fun i hi hj=>by
  cases i with
  |zero=>exact h1
  |succ i=>exact h.2 i (Nat.lt_of_succ_lt_succ hi) (Nat.lt_of_succ_lt_succ hj)⟩
mutual
theorem rQ_:∀ {a b:AVal},wkb a b=true→Wk a b
 |a,b,h=>by
  unfold wkb at h
  split at h
  ·rw [pc_ h];exact .refl _
  ·exact .nil _ _
  ·obtain ⟨h1,h2⟩:=gM_ h;exact .agg _ _ h1 h2
  ·obtain ⟨h1,h2⟩:=gM_ h;exact .tup _ _ h1 h2
  ·simp only [Bool.and_eq_true] at h
   obtain ⟨h1,h2⟩:=gM_ h.2.2
   rw [aP_ h.1]
   exact .sl _ _ _ _ h1 (fun x hx=>aP_ (List.all_eq_true.1 h.2.1 x hx)) h2
  ·cases h
theorem gM_:∀ {l m:List AVal},wkbL l m=true→l.length=m.length∧∀ i (hi:i < l.length) (hj:i < m.length),Wk l[i] m[i]
 |[],[],_=>⟨rfl,fun i hi=>by cases hi⟩
 |a :: l,b :: m,h=>by
  rw [wkbL,Bool.and_eq_true] at h
  exact t2_ (gM_ h.2) (rQ_ h.1)
end
abbrev Ran:=Nat × List AVal × AVal
def gp_ (l:List Ran) (f:Nat) (args:List AVal):Option AVal:=List.rec (motive:=fun _=>Option AVal) none (fun e _ r=>Bool.rec r (Bool.rec r (some e.2.2) (wkbL args e.2.1)) (Nat.beq e.1 f)) l
def ci_ (P:Program) (e:Ran):Prop:=∀ s:NSt,ACalls P e.1 e.2.1 s fun a s'=>a=e.2.2∧s'=s
theorem ACalls.wkA {P:Program} {f:Nat} {args args':List AVal} {s:NSt} {Q:AVal→NSt→Prop} (hw:args.length=args'.length∧∀ i (hi:i < args.length) (hj:i < args'.length),Wk args[i] args'[i]) (h:ACalls P f args' s Q):ACalls P f args s Q:=fun κ vs hI hsz hv =>
 h κ vs hI (hsz.trans hw.1) fun i hi=>(hv i (by rw [hw.1];exact hi)).wk (hw.2 i _ hi)
theorem ACalls.wkR {P:Program} {f:Nat} {args:List AVal} {s s':NSt} {w v:AVal} (hw:Wk w v) (h:ACalls P f args s fun a s2=>a=w∧s2=s'):ACalls P f args s fun a s2=>a=v∧s2=s':=fun κ vs hI hsz hv =>
 (h κ vs hI hsz hv).mono fun e w' ⟨cv,he,κ',a,s2,h1,h2,h3,h4,h5,h6⟩=>⟨cv,he,κ',v,s2,h1,h2,h3,by rw [h5] at h4;exact h4.wk hw,rfl,h6⟩
theorem c1_ {P:Program}:∀ (l:List Ran),(∀ e∈l,ci_ P e)→mw_ P (gp_ l)
 |[],_,f,args,v,h=>by cases h
 |e :: l,hl,f,args,v,h=>by
  have h':(Bool.rec (gp_ l f args) (Bool.rec (gp_ l f args) (some e.2.2) (wkbL args e.2.1)) (Nat.beq e.1 f):Option AVal)=some v:=h
  have rest:gp_ l f args=some v→∀ s:NSt,ACalls P f args s fun a s'=>a=v∧s'=s:=fun h=>c1_ l (fun e he=>hl e (List.mem_cons_of_mem _ he)) f args v h
  cases h1:Nat.beq e.1 f with
  |false=>rw [h1] at h';exact rest h'
  |true =>
   rw [h1] at h'
   cases h2:wkbL args e.2.1 with
   |false=>rw [h2] at h';exact rest h'
   |true =>
    rw [h2] at h'
    obtain rfl:=Option.some.inj h'
    have:=hl e (List.mem_cons_self ..)
    unfold ci_ at this
    rw [aP_ h1] at this
    exact fun s=>ACalls.wkA (gM_ h2) (this s)
def ranB (P:Program) (T:Tab) (fuel depth:Nat) (e:Ran):Bool:=T.pu e.1 && (match iv_ P T fuel depth e.1 e.2.1 .nil .nil 0 with
 |.ok w _ _ _=>wkb w e.2.2
 |.bad _=>false)
theorem gB_ {P:Program} {T:Tab} {fuel depth:Nat} {e:Ran} (hT:in_ P T) (hm:P.follows .mixedOrders=true) (hn:mw_ P T.nat) (h:ranB P T fuel depth e=true):ci_ P e:=by
 unfold ranB at h
 rw [Bool.and_eq_true] at h
 obtain ⟨hpu,h⟩:=h
 split at h
 ·rename_i w h' t' n' hr
  exact fun s=>ACalls.wkR (rQ_ h) (ran hT hm hn hpu hr s)
 ·cases h
theorem ci_.of {P:Program} {f:Nat} {args:List AVal} {v:AVal} (h:∀ σ,Ab.ACalls P f args σ fun a σ'=>a=v∧σ=σ') (hv:nf v=true):ci_ P (f,args,v):=fun s=>ACalls.of0 (h s.st) hv ⟨rfl,rfl⟩
theorem toAb {P:Program} {f:Nat} {args:List AVal} {σ:Store} {v:AVal} (h:∀ s:NSt,ACalls P f args s fun a s'=>a=v∧s'=s):Ab.ACalls P f args σ fun a σ'=>a=v∧σ'=σ:=fun κ vs hI hsz hv =>
 (h ⟨σ,fun _=>False⟩ κ vs ⟨hI,fun _ h=>h.elim⟩ hsz hv).mono fun e w' ⟨cv,he,κ',a,s',h1,h2,h3,h4,h5,h6⟩=>⟨cv,he,κ',a,s'.st,h1,h2,h3.1,h4,h5,by rw [h6]⟩
end
end Go.Nb
end
