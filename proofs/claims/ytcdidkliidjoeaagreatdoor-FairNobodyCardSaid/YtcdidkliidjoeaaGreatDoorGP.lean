/-
  MAPS whose keys are structs,and loops over maps; LOOPS OVER A MAP whose values are whatever they are: the map's object as it lies; An entry of a map that is found or laid,and stored into: three operations of a drawn region; The interpreter over code,and over calls,is sound; The interpreter over code and calls is sound; Calls that were run before: a table,looked up by the function and by what it is given; OBJECTS THAT ARE KEPT AS THEY LIE,under numbers of one's choice: what a loop over a function lays beside (own work,an AI agent).. Own work (an AI agent).
-/
import Derived.Test.YtcdidkliidjoeaaGreatDoorGB
import Derived.WideKeyRuns
import Derived.Laws.IdiomRangeMap
import Derived.Test.YtcdidkliidjoeaaGreatDoorGI
import Derived.Test.YtcdidkliidjoeaaGreatDoorGL
import Derived.Scope
import Derived.RangeFuncRecord

section
set_option linter.all false
namespace Go.Ab
open Go.RowKit (Below)
section
variable {P:Program} {o:Oper} {α:Operand→AVal} {σ:Store} {Kk:AVal→Store→Prop} {β:Type} [DecidableEq β] {enc:β→Value}
structure WKey (P:Program) (kt:TypeId) {β:Type} [DecidableEq β] (enc:β→Value):Prop where
 wide:(match P.underlying kt with | some (.array _ _) | some (.struct _)=>true | _=>false)=true
 eq:∀ a b w,(Op.equal kt (enc a) (enc b)).run P w=.ok (decide (a=b)) w
 check:∀ a e w,(Instr.checkKey e 10000 kt (enc a)).run P w=.ok () w
 stays:∀ a w,(Instr.keyThatStays (enc a) (enc a)).run P w=.ok (enc a) w
def litM {α:Type} (kvs:List (α × Value)):List (α × AVal):=kvs.map fun p=>(p.1,.lit p.2)
theorem Inv.setMapX {κ:K} {σ:Store} (h:Inv κ σ) {o:Nat} {x:AObj} (ho:σ.heap o=some x) {b:Nat} (hb:κ.ρ o=some b) {es es':Array MapEntry} {clock clock':Nat} (hh:κ.w.heap[b]?=some (.map es clock))
  (hbase:κ.base≤b) (hIb:κ.I b=0) (x':AObj) (hx':∀ κ',κ.Le κ'→κ'.w.heap[b]?=some (.map es' clock')→ORel κ' x' b) :
  κ.Le { κ with w:={ κ.w with heap:=κ.w.heap.setIfInBounds b (.map es' clock') } }∧Inv { κ with w:={ κ.w with heap:=κ.w.heap.setIfInBounds b (.map es' clock') } } (σ.set o x'):=by
 have hle:κ.Le { κ with w:={ κ.w with heap:=κ.w.heap.setIfInBounds b (.map es' clock') } }:=by
  refine ⟨rfl,⟨rfl,rfl,rfl,by simp,fun k hk=>am_ _ (by omega)⟩,fun b' s e'=>?_,fun _ _ e'=>e',fun _ _ e'=>e',fun _=>Nat.le_refl _,fun b' off' u hi e'=>?_,Nat.le_refl _,fun _ _=>rfl⟩
  ·have hne:b'≠b:=fun hh'=>by
    subst hh'
    unfold World.shape? at e'
    rw [hh] at e';cases e'
   unfold World.shape? at e' ⊢
   dsimp only
   rw [am_ _ hne];exact e'
  ·have hne:b'≠b:=fun hh'=>by rw [hh',hIb] at hi;omega
   simp only [World.cell?] at e' ⊢
   rw [am_ _ hne];exact e'
 refine ⟨hle,h.step hle rfl rfl h.frO b hbase hIb (fun b' hne _=>am_ _ hne) o _ (fun _ _=>rfl) hb (hx' _ hle (bM_ _ hh)) ?_ ?_⟩
 ·intro i y hy hne hh'
  exact hne (h.inj i o _ _ b hy ho hh' hb)
 ·intro t sz u ht hu hh'
  exact h.tokobj t sz u b o _ ht hu hh' ho hb
def cC_ (e:MapEntry):Value × Value:=(e.key,e.val)
def eq_ (es:Array MapEntry) (clk born:Nat) (f:Value→List (Value × Value)):Prop :=
 (∀ e∈es,e.born < clk)∧(es.toList.map (·.born)).Pairwise (·≠ ·)∧∃ i,∃ h:i < es.size,es[i].born=born∧∀ x,((es.modify i fun e=>{ e with val:=x }).toList.map cC_)=f x
theorem gU_ {es:Array MapEntry} {i:Nat} (hi:i < es.size) (x:Value):((es.modify i fun e=>{ e with val:=x }).toList.map cC_)=(es.toList.map cC_).set i (es[i].key,x):=by
 apply List.ext_getElem (by simp)
 intro j h1 h2
 simp only [List.getElem_map,Array.getElem_toList,Array.getElem_modify,List.getElem_set]
 split
 ·rename_i hij;subst hij;rfl
 ·rfl
theorem gD_ {es:Array MapEntry} (hnd:(es.toList.map (·.born)).Pairwise (·≠ ·)) {i:Nat} (hi:i < es.size):es.findIdx? (fun e=>((e.born:Int) == (es[i].born:Int)))=some i:=by
 rw [Array.findIdx?_eq_some_iff_getElem]
 refine ⟨hi,by simp,fun j hj=>?_⟩
 have:=List.pairwise_iff_getElem.1 hnd j i (by simp;omega) (by simpa using hi) hj
 simp only [List.getElem_map,Array.getElem_toList] at this
 simp
 omega
theorem AOp_entryStore {t:TypeId} {m s x:Operand} {mo clk born:Nat} {es:Array MapEntry} {f:Value→List (Value × Value)} {v:Value} (ho:o.op=.entryStore t m s x) (hm:α m=.map mo) (hh:σ.heap mo=some (.raw (.map es clk)))
  (hs:α s=.lit (.int .i64 born)) (hx:α x=.lit v) (hst:eq_ es clk born f) (hk:Kk .any (σ.set mo (.map (litM (f v))))):AOp P o α σ Kk:=by
 obtain ⟨dst,op,ty,pos,after,guard⟩:=o
 obtain rfl:op=_:=ho
 intro κ ev hI hxx
 have hvm:=hxx m (by simp [Op.operands])
 have hvs:=hxx s (by simp [Op.operands])
 have hvx:=hxx x (by simp [Op.operands])
 rw [hm] at hvm
 rw [hs] at hvs
 rw [hx] at hvx
 obtain ⟨b,hb,hbase,hIb,hheap,_⟩:=hI.heap mo _ hh
 replace hheap:κ.w.heap[b]?=some (.map es clk):=hheap
 have hem:ev m=.map (some b):=by
  generalize ev m=u at hvm
  cases hvm with
  |map _ b' hb'=>rw [hb] at hb';obtain rfl:=Option.some.inj hb';rfl
 obtain ⟨hlt,hnd,i,hi,rfl,hf⟩:=hst
 have hes:=hf v
 obtain ⟨hle,hI'⟩:=hI.setMapX hh hb hheap hbase hIb (es':=es.modify i fun e=>{ e with val:=v }) (clock':=clk) (.map (litM (f v))) fun κ' _ hh'=>by
  refine ⟨_,_,hh',?_,?_,?_,fun j hj hj'=>?_⟩
  ·have:=congrArg List.length hes
   simpa [litM] using this
  ·intro e he
   obtain ⟨j,hj,rfl⟩:=Array.getElem_of_mem he
   have hj':j < es.size:=by simpa using hj
   have hb0:=hlt es[j] (Array.getElem_mem hj')
   rw [Array.getElem_modify]
   split
   ·exact hb0
   ·exact hb0
  ·have:((es.modify i fun e=>{ e with val:=v }).toList.map (·.born))=es.toList.map (·.born):=by
    apply List.ext_getElem (by simp)
    intro j h1 h2
    simp only [List.getElem_map,Array.getElem_toList,Array.getElem_modify]
    split <;> rfl
   rw [this];exact hnd
  ·have h1:j < (f v).length:=by simpa [litM] using hj
   have h2:(f v)[j]=cC_ ((es.modify i fun e=>{ e with val:=v })[j]'hj'):=by
    have h3:((es.modify i fun e=>{ e with val:=v }).toList.map cC_)[j]?=(f v)[j]?:=by rw [hes]
    rw [List.getElem?_eq_getElem h1,List.getElem?_eq_getElem (by simpa using hj')] at h3
    have:=Option.some.inj h3
    rw [← this]
    simp only [List.getElem_map,Array.getElem_toList]
   have e3:(litM (f v))[j]=(((es.modify i fun e=>{ e with val:=v })[j]'hj').key,.lit ((es.modify i fun e=>{ e with val:=v })[j]'hj').val):=by
    simp only [litM,List.getElem_map,h2,cC_]
   rw [e3]
   exact ⟨rfl,.lit _⟩
 refine iE_ (s:=Instr.entryStore t (ev m) (ev s) (ev x)) rfl ⟨_,?_,_,.any,_,rfl,hle,hI',.any _,hk⟩
 rw [hem,hvs.litInv,hvx.litInv]
 unfold Instr.entryStore
 simp only [Sem.run_bind,Result.andThen_ok,Go.MapKept.run_getObj_map hheap,asInt,asIntOf,Sem.run_pure,gD_ hnd hi,Go.MapKept.run_setObj_map _ hheap]
structure MapIs (kvs:List (Value × Value)) (es:Array MapEntry) (clk:Nat):Prop where
 kv:es.toList.map (fun e=>(e.key,e.val))=kvs
 lt:∀ e∈es,e.born < clk
 nd:(es.toList.map (·.born)).Pairwise (·≠ ·)
theorem e2_ (w:World) (n:Nat) (hn:0 < n):∃ j w1,j < n∧(w1=w∨w1=w.drew)∧(choose (Question.mapNext n)).run P w=.ok j w1:=by
 by_cases hf:n≤1
 ·exact ⟨0,w,hn,.inl rfl,by simp [choose,Sem.run,Question.forced,hf]⟩
 ·exact ⟨_,w.drew,Nat.mod_lt _ hn,.inr rfl,by
   simp only [choose,Sem.run,Question.forced,decide_eq_true_eq,hf,if_false,Question.cut]
   rfl⟩
theorem lp_ {x:Operand} {mo i clk:Nat} {es:Array MapEntry} {seen:Array Nat} (ho:o.op=.next x false) (hx:α x=.ref i 0) (hi:σ.heap i=some (.mapIter (some mo) clk seen clk)) (hm:σ.heap mo=some (.raw (.map es clk)))
  (hborn:∀ e∈es,e.born < clk) (h0:(∀ e∈es,seen.contains e.born=true)→Kk (.tup [.lit (.bool false)]) σ)
  (h1:∀ e∈es,seen.contains e.born=false→Kk (.tup [.lit (.bool true),ofConst e.key,.lit e.val]) (σ.set i (.mapIter (some mo) clk (seen.push e.born) clk))):AOp P o α σ Kk:=by
 obtain ⟨dst,op,ty,pos,after,guard⟩:=o
 obtain rfl:op=_:=ho
 intro κ ev hI hxx
 have hvx:=hxx x (by simp [Op.operands])
 rw [hx] at hvx
 obtain ⟨bi,hbi,hbase,hIb,mb,⟨bm,hbm,rfl⟩,hit⟩:=hI.heap i _ hi
 obtain ⟨bm',hbm',_,_,hmap,_⟩:=hI.heap mo _ hm
 replace hmap:κ.w.heap[bm']?=some (.map es clk):=hmap
 rw [hbm] at hbm'
 obtain rfl:=Option.some.inj hbm'
 have hev:ev x=.pointer (some ⟨bi,0,none⟩):=by
  generalize ev x=u at hvx
  cases hvx with
  |ref _ _ b' hb'=>rw [hbi] at hb';obtain rfl:=Option.some.inj hb';rfl
 have g1:(getObj bi).run P κ.w=.ok (.mapIter (some bm) clk seen clk) κ.w:=by simp [getObj,Sem.run,hit]
 have g2:(getObj bm).run P κ.w=.ok (.map es clk) κ.w:=by simp [getObj,Sem.run,hmap]
 have hrun:(Instr.next (.pointer (some ⟨bi,0,none⟩)) false ty).run P κ.w=((do
   let L:=es.filter fun e=>!seen.contains e.born
   let candidates:=(if L.isEmpty then #[none] else #[]) ++ L.map some
   match candidates[← choose (.mapNext candidates.size)]? with
   |some (some e) =>
    setObj bi (.mapIter (some bm) clk (seen.push e.born) clk)
    pure (.tuple #[.bool true,e.key,e.val])
   |some none=>pure (.tuple #[.bool false])
   |none=>stuck "Next: no such candidate"):Sem Value).run P κ.w:=by
  have hmem:∀ x∈(Array.filter (fun e=>!seen.contains e.born) es).toList,x.born < clk:=fun x hx=>hborn x (by simp at hx;exact hx.1)
  have e1:(Array.filter (fun e=>!seen.contains e.born) es).filter (fun x=>decide (x.born < clk))=Array.filter (fun e=>!seen.contains e.born) es:=Array.filter_eq_self.2 (fun x hx=>by simpa using hmem x (by simpa using hx))
  have e2:(Array.filter (fun e=>!seen.contains e.born) es).filter (fun x=>decide (x.born ≥ clk))=#[]:=by
   rw [Array.filter_eq_empty_iff]
   intro x hx
   have:=hmem x (by simpa using hx)
   simp
   omega
  have tf:=next_test_false seen es clk clk (fun x hx=>hborn x (by simpa using hx)) (Nat.le_refl _)
  unfold Instr.next
  simp only [Sem.run_bind,g1,Result.andThen_ok,g2,tf,Bool.false_eq_true,if_false,e1,e2,Array.append_empty]
  rfl
 generalize hL:es.filter (fun e=>!seen.contains e.born)=L at hrun
 have hLm:∀ e,e∈L ↔ e∈es∧seen.contains e.born=false:=fun e=>by
  rw [← hL,Array.mem_filter]
  simp
 rcases Nat.eq_zero_or_pos L.size with h | h
 ·obtain rfl:L=#[]:=Array.eq_empty_of_size_eq_zero h
  refine ay_ (s:=Instr.next (ev x) false ty) rfl ⟨.tuple #[.bool false],κ.w,?_,κ,_,σ,rfl,.refl κ,hI,.tup _ _ rfl (fun j hj=>?_),h0 fun e he=>?_⟩
  ·rw [hev,hrun]
   simp [choose,Sem.run,Question.forced]
  ·match j,hj with
   |0,_=>exact .lit _
  ·cases hc:seen.contains e.born with
   |true=>rfl
   |false=>have:=(hLm e).2 ⟨he,hc⟩;simp at this
 ·have hne:L.isEmpty=false:=by
   simp only [Array.isEmpty,decide_eq_false_iff_not];omega
  obtain ⟨j,w1,hj,hw1,hch⟩:=e2_ (P:=P) κ.w L.size h
  have hIw:κ.Le { κ with w:=w1 }∧Inv { κ with w:=w1 } σ:=by
   rcases hw1 with rfl | rfl
   ·exact ⟨.refl κ,hI⟩
   ·exact hI.drew
  have hheap:w1.heap=κ.w.heap:=by rcases hw1 with rfl | rfl <;> rfl
  have hit1:w1.heap[bi]?=some (.mapIter (some bm) clk seen clk):=by rw [hheap];exact hit
  obtain ⟨hle1,hI1⟩:=hIw
  have he:=(hLm L[j]).1 (Array.getElem_mem hj)
  have hle2:K.Le { κ with w:=w1 } { κ with w:={ w1 with heap:=w1.heap.setIfInBounds bi (.mapIter (some bm) clk (seen.push L[j].born) clk) } }:=by
   refine ⟨rfl,⟨rfl,rfl,rfl,by simp,fun k hk=>am_ _ (by
    have:k < κ.base:=hk
    omega)⟩,fun b' s e'=>?_,fun _ _ e'=>e',fun _ _ e'=>e',fun _=>Nat.le_refl _,fun b' off' u hi e'=>?_,Nat.le_refl _,fun _ _=>rfl⟩
   ·have hne:b'≠bi:=fun hh'=>by
     subst hh'
     unfold World.shape? at e'
     rw [hit1] at e';cases e'
    unfold World.shape? at e' ⊢
    dsimp only
    rw [am_ _ hne];exact e'
   ·have hne:b'≠bi:=fun hh'=>by rw [hh'] at hi;have:off' < κ.I bi:=hi;rw [hIb] at this;omega
    simp only [World.cell?] at e' ⊢
    rw [am_ _ hne];exact e'
  have hI2:=hI1.step hle2 rfl rfl hI1.frO bi hbase hIb (fun b' hne _=>am_ _ hne) i (.mapIter (some mo) clk (seen.push L[j].born) clk) (fun _ _=>rfl) hbi ⟨some bm,⟨bm,hbm,rfl⟩,bM_ _ hit1⟩ (by
   intro i' y hy hne hh'
   exact hne (hI.inj i' i _ _ bi hy hi hh' hbi)) (by
   intro t sz u ht hu hh'
   exact hI.tokobj t sz u bi i _ ht hu hh' hi hbi)
  refine ay_ (s:=Instr.next (ev x) false ty) rfl ⟨.tuple #[.bool true,L[j].key,L[j].val],{ w1 with heap:=w1.heap.setIfInBounds bi (.mapIter (some bm) clk (seen.push L[j].born) clk) },?_,_,_,_,rfl,hle1.trans hle2,hI2,.tup _ _ rfl (fun j' hj'=>?_),h1 L[j] he.1 he.2⟩
  ·rw [hev,hrun]
   have hset:∀ o':Obj,(setObj bi o').run P w1=.ok () { w1 with heap:=w1.heap.setIfInBounds bi o' }:=fun o'=>by simp [setObj,Sem.run,hit1]
   simp only [hne,Bool.false_eq_true,if_false,Array.empty_append,Array.size_map,Sem.run_bind,hch,Result.andThen_ok,Array.getElem?_map,Array.getElem?_eq_getElem hj,Option.map_some,hset,Sem.run_pure]
  ·match j',hj' with
   |0,_=>exact .lit _
   |1,_=>exact .ofConst _
   |2,_=>exact .lit _
theorem em_ {x:Operand} {mo i clk:Nat} {es:Array MapEntry} {seen:Array Nat} {e:MapEntry} (ho:o.op=.entry x) (hx:α x=.ref i 0) (hi:σ.heap i=some (.mapIter (some mo) clk (seen.push e.born) clk)) (hm:σ.heap mo=some (.raw (.map es clk)))
  (hnd:(es.toList.map (·.born)).Pairwise (·≠ ·)) (he:e∈es) (hk:Kk (.tup [ofConst e.key,.lit e.val]) σ):AOp P o α σ Kk:=by
 obtain ⟨dst,op,ty,pos,after,guard⟩:=o
 obtain rfl:op=_:=ho
 intro κ ev hI hxx
 have hvx:=hxx x (by simp [Op.operands])
 rw [hx] at hvx
 obtain ⟨bi,hbi,hbase,hIb,mb,⟨bm,hbm,rfl⟩,hit⟩:=hI.heap i _ hi
 obtain ⟨bm',hbm',_,_,hmap,_⟩:=hI.heap mo _ hm
 replace hmap:κ.w.heap[bm']?=some (.map es clk):=hmap
 rw [hbm] at hbm'
 obtain rfl:=Option.some.inj hbm'
 have hev:ev x=.pointer (some ⟨bi,0,none⟩):=by
  generalize ev x=u at hvx
  cases hvx with
  |ref _ _ b' hb'=>rw [hbi] at hb';obtain rfl:=Option.some.inj hb';rfl
 have g1:(getObj bi).run P κ.w=.ok (.mapIter (some bm) clk (seen.push e.born) clk) κ.w:=by simp [getObj,Sem.run,hit]
 have g2:(getObj bm).run P κ.w=.ok (.map es clk) κ.w:=by simp [getObj,Sem.run,hmap]
 have hfind:es.find? (fun x=>x.born == e.born)=some e:=by
  rw [← Array.find?_toList]
  exact find_born e es.toList hnd (by simpa using he)
 refine ay_ (s:=Instr.entry (ev x)) rfl ⟨.tuple #[e.key,e.val],κ.w,?_,κ,_,σ,rfl,.refl κ,hI,.tup _ _ rfl (fun j hj=>?_),hk⟩
 ·rw [hev]
  unfold Instr.entry
  simp only [Sem.run_bind,g1,Result.andThen_ok,Array.back?_push,g2,bne_self_eq_false,Bool.false_eq_true,if_false,hfind,Sem.run_pure]
 ·match j,hj with
  |0,_=>exact .ofConst _
  |1,_=>exact .lit _
theorem eo_ {x:Operand} {mo i clk:Nat} {es:Array MapEntry} {seen:Array Nat} (ho:o.op=.next x false) (hx:α x=.ref i 0) (hi:σ.heap i=some (.mapIter (some mo) clk seen clk)) (hm:σ.heap mo=some (.raw (.map es clk)))
  (hborn:∀ e∈es,e.born < clk) (hk:∀ bb rest σ',((bb=false∧(∀ e∈es,seen.contains e.born=true)∧σ'=σ)∨(bb=true∧∃ e∈es,seen.contains e.born=false∧σ'=σ.set i (.mapIter (some mo) clk (seen.push e.born) clk)))→Kk (.tup (.lit (.bool bb) :: rest)) σ'):AOp P o α σ Kk :=
 lp_ ho hx hi hm hborn (fun h=>hk false [] σ (.inl ⟨rfl,h,rfl⟩)) fun e he hs=>hk true _ _ (.inr ⟨rfl,e,he,hs,rfl⟩)
end
end Go.Ab
end

section
set_option linter.all false
namespace Go.Ab
open Go.RowKit (Below)
section
variable {σ:Store}
theorem Inv.reobjR {κ:K} {x y:AObj} {so b:Nat} (h:Inv κ σ) (hh:σ.heap so=some x) (hb:κ.ρ so=some b) (hr:ORel κ y b):Inv κ (σ.set so y):=by
 have hget:∀ i z,(σ.set so y).heap i=some z→(i=so∧z=y)∨(i≠so∧σ.heap i=some z):=fun i z hz=>by
  by_cases hi:i=so
  ·subst hi;rw [Store.set_get] at hz;exact .inl ⟨rfl,(Option.some.inj hz).symm⟩
  ·rw [Store.set_ne _ _ hi] at hz;exact .inr ⟨hi,hz⟩
 have hold:∀ i z,(σ.set so y).heap i=some z→∃ z',σ.heap i=some z':=fun i z hz=>by
  rcases hget i z hz with ⟨rfl,_⟩ | ⟨_,hz⟩
  ·exact ⟨_,hh⟩
  ·exact ⟨_,hz⟩
 refine ⟨h.glob,h.base,fun i z hz=>?_,fun i i' z z' k hz hz'=>?_,h.tok,h.tokinj,fun t q v k i z ht hv hk hz=>?_,h.frO,h.frT,h.frI⟩
 ·rcases hget i z hz with ⟨rfl,rfl⟩ | ⟨_,hz⟩
  ·obtain ⟨b',hb',hbase,hIb,_⟩:=h.heap _ _ hh
   rw [hb] at hb'
   obtain rfl:=Option.some.inj hb'
   exact ⟨b,hb,hbase,hIb,hr⟩
  ·exact h.heap i z hz
 ·obtain ⟨u,hu⟩:=hold i z hz
  obtain ⟨u',hu'⟩:=hold i' z' hz'
  exact h.inj i i' u u' k hu hu'
 ·obtain ⟨u,hu⟩:=hold i z hz
  exact h.tokobj t q v k i u ht hv hk hu
end
section
variable {P:Program} {o:Oper} {α:Operand→AVal} {σ:Store} {Kk:AVal→Store→Prop}
theorem cy_ {t kt et:TypeId} {x:Operand} {mo clk:Nat} {es:Array MapEntry} (ho:o.op=.range t x) (ht:P.underlying t=some (.map kt et)) (hm:α x=.map mo) (hh:σ.heap mo=some (.raw (.map es clk)))
  (hk:∀ i,σ.heap i=none→i≠mo→Kk (.ref i 0) (σ.set i (.mapIter (some mo) clk #[] clk))):AOp P o α σ Kk:=by
 obtain ⟨dst,op,ty,pos,after,guard⟩:=o
 obtain rfl:op=_:=ho
 intro κ ev hI hxx
 have hvm:=hxx x (by simp [Op.operands])
 rw [hm] at hvm
 obtain ⟨b,hb,hbase,hIb,hheap,_⟩:=hI.heap mo _ hh
 replace hheap:κ.w.heap[b]?=some (.map es clk):=hheap
 have hem:ev x=.map (some b):=by
  generalize ev x=u at hvm
  cases hvm with
  |map _ b' hb'=>rw [hb] at hb';obtain rfl:=Option.some.inj hb';rfl
 obtain ⟨i,hi,hfree⟩:=hI.fresh
 have hne:i≠mo:=fun h=>by rw [h,hb] at hi;cases hi
 obtain ⟨κ',hw,hle,hρ,hI'⟩:=hI.alloc i hi (.mapIter (some mo) clk #[] clk) (.mapIter (some b) clk #[] clk) fun κ' hle hh _=>⟨some b,⟨b,hle.rho _ _ hb,rfl⟩,hh⟩
 refine ay_ (s:=Instr.range t (ev x)) rfl ⟨.pointer (some ⟨κ.w.heap.size,0,none⟩),κ.w.alloc (.mapIter (some b) clk #[] clk),?_,κ',.ref i 0,_,hw,hle,hI',.ref i 0 _ hρ,hk i hfree hne⟩
 rw [hem]
 exact run_range_map κ.w t kt et b es clk ht hheap
end
structure MapKs {γ:Type} (kvs:List (Value × γ)) (es:Array MapEntry) (clk:Nat):Prop where
 key:es.toList.map (·.key)=kvs.map (·.1)
 lt:∀ e∈es,e.born < clk
 nd:(es.toList.map (·.born)).Pairwise (·≠ ·)
theorem ACalls.rawMap {P:Program} {f:FuncId} {args:List AVal} {σ:Store} {Q:AVal→Store→Prop} {mo:Nat} {kvs:List (Value × AVal)} (hh:σ.heap mo=some (.map kvs))
  (h:∀ es clk,MapKs kvs es clk→ACalls P f args (σ.set mo (.raw (.map es clk))) fun v τ=>τ.heap mo=some (.raw (.map es clk))∧Q v (τ.set mo (.map kvs))):ACalls P f args σ Q:=by
 intro κ vs hI hn hvs
 obtain ⟨b,hb,hbase,hIb,es,clk,hheap,hsz,hborn,hnd,hall⟩:=hI.heap mo _ hh
 have hI1:Inv κ (σ.set mo (.raw (.map es clk))):=hI.reobjR hh hb ⟨hheap,fun _ _ _ h=>by cases h⟩
 have hks:MapKs kvs es clk:=⟨by
  apply List.ext_getElem (by simpa using hsz)
  intro i h1 h2
  have h3:i < es.size:=by simpa using h1
  have h4:=hall i (by simpa using h2) h3
  simp only [List.getElem_map,Array.getElem_toList]
  exact h4.1,hborn,hnd⟩
 refine (h es clk hks κ vs hI1 hn hvs).mono fun e w' ⟨cv,he,κ',a,τ,h1,h2,h3,h4,h5,h6⟩=>?_
 obtain ⟨b',hb',hbase',hIb',hr⟩:=h3.heap mo _ h5
 have hbb:=h2.rho _ _ hb
 rw [hb'] at hbb
 obtain rfl:=Option.some.inj hbb
 exact ⟨cv,he,κ',a,τ.set mo (.map kvs),h1,h2,h3.reobjR (y:=.map kvs) h5 hb' ⟨es,clk,hr.1,hsz,hborn,hnd,fun i hi hj=>⟨(hall i hi hj).1,(hall i hi hj).2.mono h2⟩⟩,h4,h6⟩
structure RIm (es:Array MapEntry) (q r:List MapEntry) (seen:Array Nat):Prop where
 perm:(q ++ r).Perm es.toList
 seen:seen.toList=q.map (·.born)
theorem RIm.step {es:Array MapEntry} {q r:List MapEntry} {seen:Array Nat} (h:RIm es q r seen) {e:MapEntry} (he:e∈es) (hs:seen.contains e.born=false):∃ r',RIm es (q ++ [e]) r' (seen.push e.born)∧r'.length + 1=r.length:=by
 have hq:e ∉ q:=fun hh=>by
  have h1:e.born∈seen.toList:=by rw [h.seen];exact List.mem_map.2 ⟨e,hh,rfl⟩
  have h2:seen.contains e.born=true:=by simpa using h1
  rw [h2] at hs;cases hs
 have hm:e∈q ++ r:=h.perm.mem_iff.2 (by simpa using he)
 have hr:e∈r:=by
  rcases List.mem_append.1 hm with hh | hh
  ·exact absurd hh hq
  ·exact hh
 obtain ⟨r1,r2,rfl⟩:=List.append_of_mem hr
 refine ⟨r1 ++ r2,⟨?_,by simp [h.seen]⟩,by simp;omega⟩
 refine List.Perm.trans ?_ h.perm
 rw [List.append_assoc]
 exact List.Perm.append_left q (by simpa using (List.perm_middle (a:=e) (l₁:=r1) (l₂:=r2)).symm)
theorem RIm.fin {es:Array MapEntry} {q r:List MapEntry} {seen:Array Nat} (h:RIm es q r seen) (hnd:(es.toList.map (·.born)).Pairwise (·≠ ·)) (hall:∀ e∈es,seen.contains e.born=true):q.Perm es.toList:=by
 cases r with
 |nil=>simpa using h.perm
 |cons e r =>
  have he:e∈es:=by simpa using h.perm.mem_iff.1 (by simp:e∈q ++ e :: r)
  have h1:e.born∈seen.toList:=by simpa using hall e he
  rw [h.seen] at h1
  obtain ⟨x,hx,hxe⟩:=List.mem_map.1 h1
  have h2:((q ++ e :: r).map (·.born)).Pairwise (·≠ ·):=(List.Perm.pairwise_iff (fun {a b} hh=>Ne.symm hh) (h.perm.map _)).2 hnd
  rw [List.map_append,List.pairwise_append] at h2
  exact absurd hxe (h2.2.2 _ (List.mem_map.2 ⟨x,hx,rfl⟩) _ (List.mem_map.2 ⟨e,.head _,rfl⟩))
end Go.Ab
end

section
set_option linter.all false
namespace Go.Ab
open Go.RowKit (Below)
open Go.MapKept (IsKey sameNow_of_keys run_checkKey run_findKey run_keyThatStays)
section
variable {P:Program} {o:Oper} {α:Operand→AVal} {σ:Store} {Kk:AVal→Store→Prop}
theorem l2_ {l:List (Value × Value)} {i:Nat} {k x:Value}:litM (l.set i (k,x))=(litM l).set i (k,.lit x):=by simp [litM,List.map_set]
theorem AOp_mapEntryP {t kt et:TypeId} {kd:TypeDesc} {m k:Operand} {mo:Nat} {kv:Value} {kvs:List (Value × Value)} {z:Value} (ho:o.op=.mapEntry t m k) (ht:P.underlying t=some (.map kt et)) (hkd:P.underlying kt=some kd) (hz:a4_ P et=some z)
  (hm:α m=.map mo) (hh:σ.heap mo=some (.map (litM kvs))) (hkv:α k=.lit kv) (hkey:IsKey kd kv) (hkeys:∀ x∈(litM kvs),IsKey kd x.1)
  (hk:∀ es clk born f,eq_ es clk born f→(∀ x,litM (f x)=cR_ kv (.lit x) (litM kvs))→Kk (.tup [.any,.lit (.int .i64 born)]) (σ.set mo (.raw (.map es clk)))):AOp P o α σ Kk:=by
 obtain ⟨dst,op,ty,pos,after,guard⟩:=o
 obtain rfl:op=_:=ho
 intro κ ev hI hxx
 have hvm:=hxx m (by simp [Op.operands])
 have hvk:=hxx k (by simp [Op.operands])
 rw [hm] at hvm
 rw [hkv] at hvk
 have hek:=hvk.litInv
 obtain ⟨b,hb,hbase,hIb,es,clock,hheap,hn,hborn,hnd,hall⟩:=hI.heap mo _ hh
 have hem:ev m=.map (some b):=by
  generalize ev m=u at hvm
  cases hvm with
  |map _ b' hb'=>rw [hb] at hb';obtain rfl:=Option.some.inj hb';rfl
 have hn2:es.size=kvs.length:=by simpa [litM] using hn
 have hlist:∀ i (hi:i < (litM kvs).length) (hj:i < es.toList.length),es.toList[i].key=(litM kvs)[i].1∧Rv κ (litM kvs)[i].2 es.toList[i].val:=fun i hi hj=>by simpa using hall i hi (by simpa using hj)
 have hkv':es.toList.map cC_=kvs:=by
  apply List.ext_getElem (by simp [hn2])
  intro i h1 h2
  have h3:i < es.size:=by simpa using h1
  have h4:=hall i (by simpa [litM] using h2) h3
  simp only [litM,List.getElem_map] at h4
  simp only [List.getElem_map,Array.getElem_toList]
  exact Prod.ext h4.1 h4.2.litInv
 have hfind:=ea_ hkey es.toList (litM kvs) 0 (by simpa using hn) hlist hkeys
 have hck:(Instr.checkKey false 10000 kt kv).run P κ.w=.ok () κ.w:=run_checkKey hkd hkey _ _
 rcases hfind with ⟨h1,h2,_⟩ | ⟨i,v,h1,h2,⟨h2',h3⟩,h4,_⟩
 ·obtain ⟨hle,hI'⟩:=hI.setMapX hh hb hheap hbase hIb (es':=es.push { key:=kv,val:=z,born:=clock }) (clock':=clock + 1) (.raw (.map (es.push { key:=kv,val:=z,born:=clock }) (clock + 1))) fun κ' _ hh'=>⟨hh',fun _ _ _ h=>by cases h⟩
  refine ay_ (s:=Instr.mapEntry t (ev m) (ev k)) rfl ⟨.tuple #[z,.int .i64 clock],_,?_,_,.tup [.any,.lit (.int .i64 clock)],_,rfl,hle,hI',.tup _ _ rfl (fun j hj=>?_),hk _ _ _ (fun x=>kvs ++ [(kv,x)]) ⟨?_,?_,es.size,by simp,by simp,fun x=>?_⟩ fun x=>?_⟩
  ·rw [hem,hek]
   unfold Instr.mapEntry
   simp only [Sem.run_bind,run_underlying ht,Result.andThen_ok,Go.MapKept.run_getObj_map hheap,hck,run_findKey hkd h1,az_ hz,Go.MapKept.run_setObj_map _ hheap,Sem.run_pure,goInt]
  ·match j,hj with
   |0,_=>exact .any _
   |1,_=>exact .lit _
  ·intro e he
   rcases Array.mem_push.1 he with he | rfl
   ·exact Nat.lt_succ_of_lt (hborn e he)
   ·exact Nat.lt_succ_self _
  ·simp only [Array.toList_push,List.map_append,List.map_cons,List.map_nil]
   refine List.pairwise_append.2 ⟨hnd,List.pairwise_singleton _ _,fun y hy z hz=>?_⟩
   obtain rfl:=List.mem_singleton.1 hz
   obtain ⟨e,he,rfl⟩:=List.mem_map.1 hy
   exact Nat.ne_of_lt (hborn e (by simpa using he))
  ·show _=kvs ++ [(kv,x)]
   rw [gU_ (by simp)]
   simp only [Array.toList_push,List.map_append,List.map_cons,List.map_nil,hkv',Array.getElem_push_eq]
   rw [List.set_append_right _ _ (by simp [hn2])]
   simp [hn2,cC_]
  ·rw [h2];simp [litM]
 ·rw [Nat.zero_add] at h1
  have hi:i < es.size:=by simpa using h2
  have hki:es[i].key=kv:=by simpa using h3
  have hkeep:(Instr.keyThatStays (((es[i]?).map (·.key)).getD kv) kv).run P κ.w=.ok kv κ.w:=by
   have:((es[i]?).map (·.key)).getD kv=kv:=by
    simp only [Array.getElem?_eq_getElem hi,Option.map_some,Option.getD_some]
    exact hki
   rw [this]
   exact run_keyThatStays hkey
  have hsame:(es.modify i fun e=>{ e with key:=kv })=es:=by
   apply Array.ext (by simp)
   intro j h1 h2
   rw [Array.getElem_modify]
   split
   ·rename_i hij
    subst hij
    have hsm:∀ e:MapEntry,e.key=kv→({ e with key:=kv }:MapEntry)=e:=fun e he=>by rw [← he]
    exact hsm _ hki
   ·rfl
  obtain ⟨hle,hI'⟩:=hI.setMapX hh hb hheap hbase hIb (es':=es) (clock':=clock) (.raw (.map es clock)) fun κ' _ hh'=>⟨hh',fun _ _ _ h=>by cases h⟩
  refine ay_ (s:=Instr.mapEntry t (ev m) (ev k)) rfl ⟨.tuple #[v,.int .i64 es[i].born],_,?_,_,.tup [.any,.lit (.int .i64 es[i].born)],_,rfl,hle,hI',.tup _ _ rfl (fun j hj=>?_),hk _ _ _ (fun x=>kvs.set i (kv,x)) ⟨hborn,hnd,i,hi,rfl,fun x=>?_⟩ fun x=>?_⟩
  ·rw [hem,hek]
   unfold Instr.mapEntry
   simp only [Sem.run_bind,run_underlying ht,Result.andThen_ok,Go.MapKept.run_getObj_map hheap,hck,run_findKey hkd h1,Array.getElem?_eq_getElem hi,Option.map_some,Option.getD_some,hki,run_keyThatStays hkey,hsame,Go.MapKept.run_setObj_map _ hheap,Sem.run_pure,goInt]
  ·match j,hj with
   |0,_=>exact .any _
   |1,_=>exact .lit _
  ·show _=kvs.set i (kv,x)
   rw [gU_ hi,hkv',hki]
  ·rw [h4,l2_]
end
end Go.Ab
namespace Go.Nb
open Go.Ab Go.RowKit
section
variable {P:Program} {o:Oper} {α:Operand→AVal} {s:NSt} {Kk:AVal→NSt→Prop}
theorem AOp_mapEntryP {t kt et:TypeId} {kd:TypeDesc} {m k:Operand} {mo:Nat} {kv:Value} {kvs:List (Value × Value)} {z:Value} (ho:o.op=.mapEntry t m k) (ht:P.underlying t=some (.map kt et)) (hkd:P.underlying kt=some kd) (hz:a4_ P et=some z)
  (hm:α m=.map mo) (hh:s.st.heap mo=some (.map (litM kvs))) (hkv:α k=.lit kv) (hkey:Go.MapKept.IsKey kd kv) (hkeys:∀ x∈(litM kvs),Go.MapKept.IsKey kd x.1)
  (hK:∀ es clk born f,eq_ es clk born f→(∀ x,litM (f x)=cR_ kv (.lit x) (litM kvs))→Kk (.tup [.any,.lit (.int .i64 born)]) ⟨s.st.set mo (.raw (.map es clk)),s.fr⟩):AOp P o α s Kk:=by
 intro κ ev hN hx
 refine (Ab.AOp_mapEntryP (Kk:=fun a σ'=>∃ es clk born f,eq_ es clk born f∧(∀ x,litM (f x)=cR_ kv (.lit x) (litM kvs))∧a=.tup [.any,.lit (.int .i64 born)]∧σ'=s.st.set mo (.raw (.map es clk))) ho ht hkd hz hm hh hkv hkey hkeys (fun es clk born f h1 h2=>⟨es,clk,born,f,h1,h2,rfl,rfl⟩) κ ev hN.1 hx).mono fun cv w' ⟨κ',a,σ',h1,h2,h3,h4,es,clk,born,f,q1,q2,q3,q4⟩=>?_
 subst q3;subst q4
 obtain ⟨κ'',r1,r2,r3,r4⟩:=re0 hN h2 h3 (dV_ hN.1 hh (x:=.raw (.map es clk)) trivial) (fun t p e=>a2_ hN.1 t p e)
 exact ⟨κ'',_,_,r1.trans h1,r2,r3,r4.keep h4 rfl,hK es clk born f q1 q2⟩
theorem AOp_entryStore {t:TypeId} {m st x:Operand} {mo clk born:Nat} {es:Array MapEntry} {f:Value→List (Value × Value)} {v:Value} (ho:o.op=.entryStore t m st x) (hm:α m=.map mo) (hh:s.st.heap mo=some (.raw (.map es clk)))
  (hs:α st=.lit (.int .i64 born)) (hx:α x=.lit v) (hst:eq_ es clk born f) (hK:Kk .any ⟨s.st.set mo (.map (litM (f v))),s.fr⟩):AOp P o α s Kk :=
 AOp.of0 (Ab.AOp_entryStore ho hm hh hs hx hst ⟨rfl,rfl⟩) (fun κ hI hk=>⟨.inr (.inl rfl),dV_ hI hh (x:=.map (litM (f v))) (fun p hp=>by
  obtain ⟨q,_,rfl⟩:=List.mem_map.1 hp
  exact ⟨_,.lit _⟩),fun t p e=>a2_ hI t p e⟩) hK
end
end Go.Nb
end

section
set_option linter.all false
set_option maxRecDepth 100000
namespace Go.Nb
open Go.Ab Go.RowKit
theorem bw_ {P:Program} {b:Frame} {a:Act} {k:List Item} {cs:List Frame} {w:World} {c:Code}:step P (lone (b.atR a (.code (.scope c) :: k)) cs w)=.next (lone (b.atR a (.code c :: .inScope c :: k)) cs w) :=
 step_lone_go (by simp [stepG,stepG.exec,Frame.atR])
theorem gi_ {P:Program} {b:Frame} {a:Act} {k:List Item} {cs:List Frame} {w:World} {c:Code}:step P (lone (b.atR a (.inScope c :: k)) cs w)=.next (lone (b.atR a k) cs w) :=
 step_lone_go (by simp [stepG,stepG.exec,Frame.atR])
theorem ja_ {F:Fence} {n:Nat} {P:Program} {Q:Exit→Act→World→Prop} {a:Act} {w:World} {c:Code} (h:c.wpIn F n P (Exit.noGoto Q) a w):(Code.scope c).wpIn F n P Q a w:=by
 intro b k cs hro hb hr
 have h0:(lone (b.atR a (.code (.scope c) :: k)) cs w).fenced P F:=fenced_calm hb hr rfl
 obtain ⟨e,a₁,w₁,hq,harr⟩:=h b (.inScope c :: k) cs hro hb hr
 cases e with
 |normal=>exact ⟨.normal,a₁,w₁,hq,.head h0 bw_ (StepsIn.trans harr (.one (fenced_calm hb hr rfl) gi_))⟩
 |exit id=>exact ⟨.exit id,a₁,w₁,hq,fun k' hk=>.head h0 bw_ (harr.1 k' (by simp [exitTo,hk])),fun hr' hk=>let ⟨k₁,h1,h2⟩:=harr.2 hr' (by simp [exitTo,hk]);⟨k₁,h1,.head h0 bw_ h2⟩⟩
 |goto l=>exact hq.elim
 |ret=>exact ⟨_,a₁,w₁,hq,.of_steps (.one h0 bw_) harr⟩
 |panic ch=>exact ⟨_,a₁,w₁,hq,.of_steps (.one h0 bw_) harr⟩
 |outgrown=>exact ⟨_,a₁,w₁,hq,.of_steps (.one h0 bw_) harr⟩
theorem jq_ {P:Program} {n:Nat} {c:Code} {Q:Exit→Env→NSt→Prop} {e:Env} {σ:NSt} (h:awp P n c Q e σ) (hg:∀ l e σ,¬ Q (.goto l) e σ):awp P n (.scope c) Q e σ:=by
 intro r dd κ a hs
 refine ja_ (wpIn_mono (h r dd κ a hs) fun ex a' w' ⟨κ',e',σ',h1,h2,h3,h4⟩=>?_)
 cases ex with
 |goto l=>exact (hg _ _ _ h4).elim
 |normal=>exact ⟨κ',e',σ',h1,h2,h3,h4⟩
 |exit id=>exact ⟨κ',e',σ',h1,h2,h3,h4⟩
 |ret=>exact ⟨κ',e',σ',h1,h2,h3,h4⟩
 |panic c=>exact ⟨κ',e',σ',h1,h2,h3,h4⟩
 |outgrown=>exact ⟨κ',e',σ',h1,h2,h3,h4⟩
theorem jp_ {P:Program} {n l:Nat} {Q:Exit→Env→NSt→Prop} {e:Env} {σ:NSt} (h:Q .normal e σ):awp P n (.label l) Q e σ :=
 fun r dd κ a hs=>wpIn_label ⟨κ,e,σ,rfl,.refl κ,hs,h⟩
noncomputable section
abbrev Kc:=Ev→Hp→Tk→Nat→Kx→Res
def keep (l:List Nat) (e:Ev):Ev:=List.rec (motive:=fun _=>Ev) .nil (fun k _ r=>.cons k (lk k e) r) l
def n1_ (body:Kc) (l:List Nat) (fuel:Nat):Kc :=
 Nat.rec (motive:=fun _=>Kc) (fun _ _ _ _ _=>.bad 40) (fun _ ih e h t n K=>body e h t n fun x e h t n=>Ex.rec (motive:=fun _=>Res) (ih (keep l e) h t n K) (fun b=>K (.exit b) e h t n) (K .ret e h t n) x) fuel
def asBool (a:AVal) (K:Bool→Res):Res:=match a with
 |.lit (.bool b)=>K b
 |_=>.bad 41
section
variable (P:Program)
def ha_ (ops:Array Oper) (o:Oper) (e:Ev) (f:Bool→Res):Res:=Option.rec (f true) (fun g=>opt 22 ((ops[g.1]?).bind (·.dst)) fun d=>aB (lk d e) (fun b=>f (b == g.2)) (aL (lk d e) (fun _=>f false) (.bad 23))) o.guard
def val1 (o:Oper) (e:Ev) (h:Hp) (t:Tk) (K:AVal→Res):Res:=Bool.rec (opt 43 (aval P o.op (aev (env e)) (store h t)) K) (opQ o.op P ⟨fun _=>false,false,fun _=>false⟩ (fun _ _ _ _ _=>.bad 43) 0 e h t 0 fun a _ _ _=>K a) (isVal o.op)
def valK (ops:Array Oper) (o:Oper) (e:Ev) (h:Hp) (t:Tk) (K:AVal→Res):Res:=ha_ ops o e fun w=>cd w (val1 P o e h t K) (K (.lit undef))
mutual
def bH_:AVal→AVal
 |.agg cs=>.agg (bm_ cs)
 |.tup cs=>.tup (bm_ cs)
 |.sl sz l t=>.sl sz (bm_ l) t
 |.own _ sz l=>.sl sz (bm_ l) false
 |a=>a
def bm_:List AVal→List AVal
 |[]=>[]
 |a :: l=>bH_ a :: bm_ l
end
def lQ_ (call:Cl) (f:Nat) (args:List AVal) (t0:Tk) (h:Hp) (t:Tk) (n:Nat) (K:K1):Res:=iff 44 (nfL args) (Res.rec (fun m=>.bad m) (fun v h' t' n'=>iff 130 (geA n v && (chkH n h' 1 0 && (chkT n t' && (Nat.ble n n' && tkNew t' t0)))) (K v (hun h h') (tun t' t) n')) (call f args .nil .nil n))
def eK_ (fl:Bool) (call:Cl) (f:Nat) (args:List AVal) (h0:Hp) (t0:Tk) (h:Hp) (t:Tk) (n:Nat) (K:K1):Res:=Res.rec (fun m=>.bad m) (fun v h' t' n'=>Bool.rec (iff 131 (hsub h0 h') (iff 138 (tsub t0 t0 t') (K v h' t' n'))) (iff 131 (hsub h h') (iff 138 (tsub t t t') (K (bH_ v) h t n))) (fl && nf (bH_ v))) (call f args h t n)
def kw_ (fl:Bool) (pu:Nat→Bool) (call:Cl) (fv:AVal) (args:List AVal) (h0:Hp) (t0:Tk) (h:Hp) (t:Tk) (n:Nat) (K:K1):Res:=match fv with
 |.lit (.func (.func f) a b)=>iff 45 (isGo P f && Nat.beq a.toList.length 0 && Nat.beq b.toList.length 0) (Bool.rec (Bool.rec (eK_ fl call f args h0 t0 h t n K) (lQ_ call f (bm_ args) t0 h t n K) (nfL (bm_ args))) (res1 (call f args h t n) fun v _ _ _=>K v h t n) (pu f))
 |.fn (.func f) first cap=>iff 45 (isGo P f) (eK_ fl call f (first ++ args ++ cap) h0 t0 h t n K)
 |_=>.bad 45
def pw_ (ty tx:TypeId) (x y:AVal) (t0:Tk) (h:Hp) (t:Tk) (n:Nat) (K:K1):Res:=iff 49 ((tok n t0).isNone && (match x with
 |.own k _ _=>(tok k t0).isNone
 |_=>true)) (kApp P ty tx x y h t n K)
def newK (fl:Bool) (pu:Nat→Bool) (call:Cl) (ty0:TypeId) (op:Op) (e:Ev) (h0:Hp) (t0:Tk) (h:Hp) (t:Tk) (n:Nat) (K:K1):Res:=match op with
 |.box ty x=>iff 46 (look n h0).isNone (iX_ ty (ev x e) h t n K)
 |.alloc ty=>iff 47 (look n h0).isNone (f0_ P ty h t n K)
 |.makeMap ty none=>iff 48 (look n h0).isNone (kMap h t n K)
 |.buildSlice ty m ps=>gM_ P ty m ps.toList e h t n K
 |.convert s d x=>jZ_ P s d x e h t n K
 |.call c=>match c.callee with
  |.value f=>kw_ P fl pu call (ev f e) (c.args.toList.map fun x=>ev x e) h0 t0 h t n K
  |.builtin .append=>match c.args.toList,c.argTypes.toList with
   |[x,y],[ty,tx]=>pw_ P ty tx (ev x e) (ev y e) t0 h t n K
   |_,_=>.bad 21
  |.builtin .unsafeSliceData=>match c.args.toList,c.argTypes.toList with
   |[x],[_]=>lZ_ P ty0 (ev x e) h t n K
   |_,_=>.bad 88
  |_=>kAny P (.call c) e h t n K
 |.slice ty x lo hi mx=>eJ_ P ty x lo hi mx e h t n K
 |.makeSlice ty x y=>iff 140 (look n h0).isNone (iY_ P ty (ev x e) (ev y e) h t n K)
 |.mapUpdate ty m k x=>match ev m e with
  |.map mo=>iff 141 (look mo h0).isNone (kUpd P ty (ev m e) (ev k e) (ev x e) h t n K)
  |_=>.bad 142
 |.store ty ad x=>match ev ad e with
  |.ref i _=>iff 143 (look i h0).isNone (cG_ P ty (ev ad e) (ev x e) h t n K)
  |_=>.bad 144
 |op=>Bool.rec (kAny P op e h t n K) (opQ op P ⟨fun _=>false,false,fun _=>false⟩ call ty0 e h t n K) (isVal op)
def pv_ (fl:Bool) (pu:Nat→Bool) (ops:Array Oper) (call:Cl) (o:Oper) (e:Ev) (h0:Hp) (t0:Tk) (h:Hp) (t:Tk) (n:Nat) (K:K1):Res:=ha_ ops o e fun w=>cd w (newK P fl pu call o.type o.op e h0 t0 h t n K) (K (.lit undef) h t n)
def jW_ (a:AVal):Bool:=match a with
 |.lit (.slice none 0 0)=>true
 |_=>false
def anyK (pu:Nat→Bool) (call:Cl) (o:Oper) (e:Ev) (K:AVal→Res):Res:=match o.op with
 |.call c=>match c.callee with
  |.value (.func f)=>iff 44 (isGo P f && pu f) (res1 (call f (c.args.toList.map fun x=>ev x e) .nil .nil 0) fun v _ _ _=>K v)
  |_=>.bad 45
 |.buildSlice ty m ps=>gM_ P ty m ps.toList e .nil .nil 0 fun a _ _ _=>K a
 |.binOp b ty x y yt=>iq_ b ty x y yt P ⟨fun _=>false,false,fun _=>false⟩ call 0 e .nil .nil 0 fun a _ _ _=>K a
 |.slice ty x lo (some hi) (some mo)=>Bool.rec (opt 43 (aval P (.slice ty x lo (some hi) (some mo)) (aev (env e)) (store .nil .nil)) K) (opt 132 (ad_ P ty) fun el=>opt 133 (aQ_ P el) fun _=>opt 134 (alow (lo.map (aev (env e)))) fun a=>opt 135 (bI_ (aev (env e) hi)) fun b=>opt 136 (bI_ (aev (env e) mo)) fun c=>iff 137 (Nat.beq a 0 && (Nat.beq b 0 && Nat.beq c 0)) (K (.lit (.slice none 0 0)))) (jW_ (aev (env e) x))
 |op=>iff 54 (cI_ op) (opt 43 (aval P op (aev (env e)) (store .nil .nil)) K)
def fj_ (fl:Bool) (ne:Md) (pu:Nat→Bool) (ops:Array Oper) (call:Cl) (h0:Hp) (t0:Tk) (d:DT):Bool→Ev→Hp→Tk→Nat→Ko→Res :=
 DT.rec (motive:=fun _=>Bool→Ev→Hp→Tk→Nat→Ko→Res) (fun _ e h t n K=>K e h t n)
  (fun i k _ ih tl e h t n K=>opt 53 (ops[i]?) fun o=>Nat.rec (motive:=fun _=>Res) (valK P ops o e h0 t0 fun a=>ih tl (dput o.dst a e) h t n K)
   (fun k _=>Nat.rec (motive:=fun _=>Res) (iff 59 (!tl) (pv_ P fl pu ops call o e h0 t0 h t n fun a h t n=>ih tl (dput o.dst a e) h t n K)) (fun _ _=>hO_ P ne ops call o e h t n fun a h t n=>ih true (dput o.dst a e) h t n K) k) k)
  (fun i _ ih tl e h t n K=>opt 53 (ops[i]?) fun o=>ha_ ops o e fun w=>cd w (anyK P pu call o e fun a=>ih tl (dput o.dst a e) h t n K) (ih tl (dput o.dst (.lit undef) e) h t n K)) (fun i k _ _ ih it tl e h t n K=>iQ_ (opt 53 (ops[i]?) fun o=>Nat.rec (motive:=fun _=>Res) (.bad 55)
   (fun k _=>Nat.rec (motive:=fun _=>Res) (iff 59 (!tl) (pv_ P fl pu ops call o e h0 t0 h t n fun a h t n=>ih tl (dput o.dst a e) h t n K)) (fun _ _=>hO_ P ne ops call o e h t n fun a h t n=>ih true (dput o.dst a e) h t n K) k) k) (it tl e h t n K)) d
def offP (ops:Array Oper) (d:Nat) (i:Nat):Bool:=match ops[i]? with
 |some o=>!(o.looksAt ops).contains d && o.dst != some d
 |none=>true
def offT (ops:Array Oper) (d:Nat):DT→Bool
 |.nil=>true
 |.op i _ r=>offP ops d i && offT ops d r
 |.any i r=>offP ops d i && offT ops d r
 |.alt i _ r t=>offP ops d i && (offT ops d r && offT ops d t)
def nB_ (oi oj ol:Oper):Option (TypeId × Operand × Operand × Operand × Operand × Nat × Nat):=match oi.op,oj.op,ol.op,oi.dst,oj.dst with
 |.mapEntry ty m k,.extract (.tmp a) 1,.entryStore _ m' (.tmp b) x,some di,some dj=>bif oi.guard.isNone && oj.guard.isNone && ol.guard.isNone && ol.dst.isNone && Nat.beq a di && Nat.beq b dj && !(Nat.beq di dj) then some (ty,m,k,m',x,di,dj) else none
 |_,_,_,_,_=>none
def oB_ (l:List (Value × AVal)):Bool:=l.all fun p=>match p.2 with
 |.lit _=>true
 |_=>false
def n2_ (ty:TypeId):Option TypeId:=match P.underlying ty with
 |some (.map _ et)=>some et
 |_=>none
def entK (oi oj ol:Oper) (e:Ev) (h:Hp) (K:Nat→Nat→Nat→Ev→Hp→Res):Res :=
 opt 162 (nB_ oi oj ol) fun q=>gT_ P q.1 (ev q.2.1 e) (ev q.2.2.1 e) h fun mo kv kvs =>
  opt 163 (n2_ P q.1) fun et=>opt 164 (a4_ P et) fun _=>iff 165 (oB_ kvs) (match ev q.2.2.2.1 (dput (some q.2.2.2.2.2.2) .any (dput (some q.2.2.2.2.2.1) .any e)),ev q.2.2.2.2.1 (dput (some q.2.2.2.2.2.2) .any (dput (some q.2.2.2.2.2.1) .any e)) with
   |.map mo',.lit v=>iff 166 (Nat.beq mo' mo) (K q.2.2.2.2.2.1 q.2.2.2.2.2.2 mo (dput (some q.2.2.2.2.2.2) .any (dput (some q.2.2.2.2.2.1) .any e)) (put mo (.map (cR_ kv (.lit v) kvs)) h))
   |_,_=>.bad 167)
def fi_ (ops:Array Oper) (h0:Hp) (t0:Tk):DT→Bool→Ev→Hp→Tk→Nat→Ko→Res
 |.nil,_,e,h,t,n,K=>K e h t n
 |.op i 0 r,tl,e,h,t,n,K=>opt 53 (ops[i]?) fun o=>valK P ops o e h0 t0 fun a=>fi_ ops h0 t0 r tl (dput o.dst a e) h t n K
 |.op i 1 (.op j 0 (.op l 1 r)),tl,e,h,t,n,K=>opt 53 (ops[i]?) fun oi=>opt 53 (ops[j]?) fun oj=>opt 53 (ops[l]?) fun ol=>entK P oi oj ol e h fun di dj mo e' h' =>
  iff 168 (!tl && (look mo h0).isNone && offT ops di r && offT ops dj r) (fi_ ops h0 t0 r false e' h' t n fun e h t n=>K (dput (some di) .any (dput (some dj) .any e)) h t n)
 |.op i 1 (.op j 0 (.op l (_ + 2) r)),tl,e,h,t,n,K=>opt 53 (ops[i]?) fun oi=>opt 53 (ops[j]?) fun oj=>opt 53 (ops[l]?) fun ol=>entK P oi oj ol e h fun di dj mo e' h' =>
  iff 169 (!tl && (look mo h0).isNone && offT ops di r && offT ops dj r) (fi_ ops h0 t0 r true e' h' t n fun e h t n=>K (dput (some di) .any (dput (some dj) .any e)) h t n)
 |.op i (_ + 2) (.op j 0 (.op l (_ + 2) r)),_,e,h,t,n,K=>opt 53 (ops[i]?) fun oi=>opt 53 (ops[j]?) fun oj=>opt 53 (ops[l]?) fun ol=>entK P oi oj ol e h fun di dj _ e' h' =>
  iff 170 (offT ops di r && offT ops dj r) (fi_ ops h0 t0 r true e' h' t n fun e h t n=>K (dput (some di) .any (dput (some dj) .any e)) h t n)
 |_,_,_,_,_,_,_=>.bad 161
def rl_ (x:AObj):List Nat:=match x with
 |.cells cs=>cs.filterMap fun a=>match a with
  |.ref o _=>some o
  |_=>none
 |_=>[]
def fz_ (l:List Nat) (e:Ev) (h:Hp):List Nat:=l.flatMap fun k=>match lk k e with
 |.ref o _=>o :: (match look o h with
  |some x=>rl_ x
  |none=>[])
 |_=>[]
def subN (l:List Nat) (h:Hp):Hp:=List.rec (motive:=fun _=>Hp) .nil (fun o _ r=>match look o h with
 |some x=>put o x r
 |none=>r) l
def hG_ (a:AVal):Option Nat:=match a with
 |.ref o _=>some o
 |.map o=>some o
 |.msl o _ _ _=>some o
 |_=>none
def sj_ (a:AVal) (h:Hp):List Nat:=match hG_ a with
 |some o=>o :: (match look o h with
  |some (.cells cs)=>cs.filterMap hG_
  |_=>[])
 |none=>[]
def pu_ (l:List Nat) (e:Ev) (h:Hp):List Nat:=l.flatMap fun k=>Bool.rec (sj_ (lk (Nat.sub k 1000) e) h) (hG_ (lk k e)).toList (Nat.ble k 999)
def subH (l:List Nat) (e:Ev) (h:Hp):Hp:=subN (pu_ l e h) h
def runC (bs en:Nat→Option (List Nat)) (ne:Md) (pu:Nat→Bool) (tr:Nat→DT) (lv:Nat→List Nat) (fuel:Nat) (call:Cl) (c:Code):Nat→Kc :=
 Code.rec (motive:=fun _=>Nat→Kc)
  (fun _ e h t n K=>K .nor e h t n)
  (fun id ops draw _ e h t n K=>Bool.rec (opsK P ne ops call ops.toList e h t n fun e h t n=>K .nor e h t n) (Option.rec (Option.rec (fj_ P true ne pu ops call h t (tr id) false e h t n fun e h t n=>K .nor e h t n) (fun l=>fj_ P false ne pu ops call (subH l e h) .nil (tr id) false e h t n fun e h t n=>K .nor e h t n) (bs id)) (fun l=>fi_ P ops (subN (fz_ l e h) h) .nil (tr id) false e h t n fun e h t n=>K .nor e h t n) (en id)) draw)
  (fun _ _ ia ib b e h t n K=>ia b e h t n fun x e h t n=>Ex.rec (motive:=fun _=>Res) (ib b e h t n K) (fun i=>K (.exit i) e h t n) (K .ret e h t n) x)
  (fun c _ _ ia ib b e h t n K=>asBool (ev c e) fun v=>cd v (ia b e h t n K) (ib b e h t n K))
  (fun id _ ih _ e h t n K=>ih id e h t n fun x e h t n=>Ex.rec (motive:=fun _=>Res) (K .nor e h t n) (fun i=>cd (Nat.beq i id) (K .nor e h t n) (K (.exit i) e h t n)) (K .ret e h t n) x)
  (fun _ ih b=>n1_ (ih b) (lv b) fuel)
  (fun _ _ _ _ _ _ _ _ _ _ _ _=>.bad 56)
  (fun id _ e h t n K=>K (.exit id) e h t n)
  (fun _ ih b=>ih b)
  (fun _ _ e h t n K=>K .nor e h t n)
  (fun _ _ _ _ _ _ _=>.bad 57)
  (fun _ e h t n K=>K .ret e h t n)
  (fun _ _ _ _ _ _ _=>.bad 58) c
def okC (n:Nat) (tr:Nat→DT):Code→Bool
 |.region id ops true=>gW_ n ops (tr id)
 |.region _ ops false=>ops.toList.all (cQ_ n ops)
 |.seq a b=>okC n tr a && okC n tr b
 |.cond _ a b=>okC n tr a && okC n tr b
 |.block _ c=>okC n tr c
 |.loop c=>okC n tr c
 |.scope c=>okC n tr c
 |_=>true
def okF (tr:Nat→Nat→DT) (f:Nat):Bool:=match P.funcs[f]? with
 |some fn=>match fn.body with
  |some c=>okC fn.ntmps (tr f) c
  |none=>false
 |none=>false
def eC_ (l:List AVal):Nat→Ev:=List.rec (motive:=fun _=>Nat→Ev) (fun _=>.nil) (fun a _ ih k=>.cons k a (ih (Nat.succ k))) l
def finK (rs:List ResultVar):Kx:=fun x e h t n=>Ex.rec (motive:=fun _=>Res) (opt 60 (aret P rs (env e) (store h t)) fun v=>.ok v h t n) (fun _=>.bad 61) (opt 60 (aret P rs (env e) (store h t)) fun v=>.ok v h t n) x
structure Tab where
 ne:Nat→Bool
 wr:Nat→Bool
 np:Nat→Bool
 ok:Nat→Bool
 pu:Nat→Bool
 tr:Nat→Nat→DT
 lv:Nat→Nat→List Nat
 bs:Nat→Nat→Option (List Nat)
 en:Nat→Nat→Option (List Nat)
 nat:Nat→List AVal→Option AVal
 sp:Nat→Option (Cl→Cl→Cl)
def lB_ (T:Tab) (fuel:Nat) (pu:Nat→Bool) (call:Cl) (f:Nat) (args:List AVal) (h:Hp) (t:Tk) (n:Nat):Res :=
 opt 62 (P.funcs[f]?) fun fn=>opt 63 fn.body fun c=>iff 64 (Nat.ble args.length fn.ntmps && T.ok f) (runC P (T.bs f) (T.en f) ⟨T.ne,T.wr f,pu⟩ pu (T.tr f) (T.lv f) fuel call c 0 (eC_ args 0) h t n (finK P fn.results.toList))
def lG_ (T:Tab) (fuel:Nat) (call:Cl):Cl:=fun g args h t n=>Bool.rec (call g args h t n) (lB_ P T fuel T.pu call g args h t n) (T.wr g)
def puX (T:Tab) (g:Nat):Bool:=T.pu g && !T.wr g
def gw_ (T:Tab) (fuel:Nat) (call:Cl) (f:Nat) (args:List AVal) (h:Hp) (t:Tk) (n:Nat):Res:=Bool.rec (lB_ P T fuel T.pu call f args h t n) (lB_ P T fuel (puX T) (lG_ P T fuel call) f args h t n) (T.np f)
def ma_ (T:Tab) (fuel:Nat) (call:Cl) (f:Nat) (args:List AVal) (h:Hp) (t:Tk) (n:Nat):Res :=
 iff 65 (nfL args) (res1 (gw_ P T fuel call f args .nil .nil 0) fun v h2 _ _=>iff 66 (nf (bH_ (frz h2 (rows v) [] v))) (.ok (bH_ (frz h2 (rows v) [] v)) h t n))
def hD_ (T:Tab) (fuel:Nat) (call:Cl) (f:Nat) (args:List AVal) (h:Hp) (t:Tk) (n:Nat):Res :=
 Option.rec (ma_ P T fuel call f args h t n) (fun v=>.ok v h t n) (T.nat f args)
def d0_ (T:Tab) (fuel depth:Nat):Cl :=
 Nat.rec (motive:=fun _=>Cl) (fun _ _ _ _ _=>.bad 67) (fun _ ih f args h t n=>Bool.rec (Option.rec (gw_ P T fuel ih f args h t n) (fun g=>g (gw_ P T fuel ih) ih f args h t n) (T.sp f)) (hD_ P T fuel ih f (bm_ args) h t n) (T.pu f)) depth
end
end
end Go.Nb
end

section
set_option linter.all false
set_option maxRecDepth 100000
namespace Go.Nb
open Go.Ab Go.RowKit
def aex:Ex→Exit
 |.nor=>.normal
 |.exit b=>.exit b
 |.ret=>.ret
def PX (K:Kx) (R:Res):Exit→Env→NSt→Prop:=fun x e s=>∃ x' e' h t n,x=aex x'∧e=env e'∧s=toSt h t n∧K x' e' h t n=R
def Same (pu:Nat→Bool) (call:Cl):Prop:=∀ f args h t n v h' t' n',pu f=true→call f args h t n=.ok v h' t' n'→h'=h∧t'=t∧n'=n
section
variable {P:Program} {ops:Array Oper} {call:Cl} {pu:Nat→Bool} {R:Res}
theorem cO_ (hR:R.fine) {o:Oper} {e:Ev} {f:Bool→Res} (hr:ha_ ops o e f=R):∃ w,aC_ ops o (env e)=some w∧f w=R:=by
 unfold ha_ at hr
 unfold aC_
 cases hg:o.guard with
 |none=>rw [hg] at hr;exact ⟨true,rfl,hr⟩
 |some g =>
  rw [hg] at hr
  obtain ⟨j,want⟩:=g
  obtain ⟨d,hd,hr⟩:=ae_ hR (show opt 22 ((ops[j]?).bind (·.dst)) _=R from hr)
  simp only [hd]
  show ∃ w,(match lk d e with
   |.lit (.bool b)=>some (b == want)
   |.lit _=>some false
   |_=>none)=some w∧f w=R
  rcases oO_ (lk d e) (fun b=>f (b == want)) (aL (lk d e) (fun _=>f false) (.bad 23)) with ⟨b,h1,h2⟩ | ⟨h1,h2⟩
  ·rw [h1]
   exact ⟨b == want,rfl,h2.symm.trans hr⟩
  ·replace hr:=h2.symm.trans hr
   generalize lk d e=a at *
   cases a with
   |lit v =>
    cases v with
    |bool b=>exact absurd rfl (h1 b)
    |_=>exact ⟨false,rfl,hr⟩
   |_=>subst hr;exact hR.elim
theorem lh_ (hR:R.fine) {o:Oper} {e:Ev} {h:Hp} {t:Tk} {K:AVal→Res} (hr:val1 P o e h t K=R):∃ a,aval P o.op (aev (env e)) (store h t)=some a∧K a=R:=by
 unfold val1 at hr
 cases hv:isVal o.op with
 |false=>rw [hv] at hr;exact ae_ hR hr
 |true =>
  rw [hv] at hr
  obtain ⟨c,hc⟩:=kt_ P ⟨fun _=>false,false,fun _=>false⟩ (fun _ _ _ _ _=>.bad 43) 0 o.op e h t 0 (fun a _ _ _=>K a) hv
  obtain ⟨a,ha,hK⟩:=ae_ hR (hc.symm.trans hr)
  rw [dj_] at ha
  exact ⟨a,ha,hK⟩
theorem li_ (hR:R.fine) {o:Oper} {e:Ev} {h:Hp} {t:Tk} {K:AVal→Res} (hr:valK P ops o e h t K=R):∃ a,AYields P ops (store h t) o a (env e)∧K a=R:=by
 obtain ⟨w,hw,hr⟩:=cO_ hR hr
 cases w with
 |true =>
  obtain ⟨a,ha,hK⟩:=lh_ hR (show val1 P o e h t K=R from hr)
  exact ⟨a,.inl ⟨hw,ha⟩,hK⟩
 |false=>exact ⟨_,.inr ⟨hw,rfl⟩,hr⟩
theorem b9_ {h0 h:Hp} {t0 t:Tk} {n:Nat} {x:AObj} (hs:(store h0 t0).Sub (store h t)) (hn:(look n h0).isNone=true):(store h0 t0).Sub (store (put n x h) t) :=
 ⟨fun o y e=>by
  have e':look o h0=some y:=e
  have ho:o≠n:=fun hh=>by rw [hh] at e';rw [e'] at hn;cases hn
  show look o (put n x h)=some y
  rw [cn_,if_neg ho];exact hs.heap o y e,hs.tok⟩
theorem a5_:∀ l:List AVal,bm_ l=l.map bH_
 |[]=>rfl
 |a :: l=>by rw [bm_,a5_ l];rfl
theorem e7_ (a:AVal):(bH_ a).cells=a.cells.map bH_:=by
 cases a with
 |agg cs=>show bm_ cs=cs.map bH_;exact a5_ cs
 |_=>first | rfl | (simp [bH_,AVal.cells])
theorem fK_ (l:List AVal):flat (bm_ l)=(flat l).map bH_:=by
 rw [a5_]
 unfold flat
 induction l with
 |nil=>rfl
 |cons a l ih=>simp only [List.map_cons,List.flatMap_cons,List.map_append,e7_,ih]
theorem gj_ {κ:K} {a:AVal} {v:Value} (h:Rv κ a v):Rv κ (bH_ a) v:=by
 induction h with
 |any v=>exact .any v
 |lit v=>exact .lit v
 |agg cs vs hn _ ih=>rw [bH_,a5_];exact .agg _ vs (by simpa using hn) fun i hi=>by rw [List.getElem_map];exact ih i (by simpa using hi)
 |tup cs vs hn _ ih=>rw [bH_,a5_];exact .tup _ vs (by simpa using hn) fun i hi=>by rw [List.getElem_map];exact ih i (by simpa using hi)
 |slNil sz t=>exact .slNil sz t
 |slE sz t a=>exact .slE sz t a
 |sl sz l t b off cap vals hcap ht hsz hc hv ih =>
  have hl:(bm_ l).length=l.length:=by rw [a5_,List.length_map]
  have hfl:(flat (bm_ l)).length=(flat l).length:=by rw [fK_,List.length_map]
  rw [bH_,← hl]
  refine .sl sz (bm_ l) t b off cap vals (by rw [hl];exact hcap) (fun h=>by rw [hl];exact ht h) (fun x hx=>?_) (fun k hk=>hc k (by rw [← hfl];exact hk)) fun k hk=>?_
  ·rw [a5_] at hx
   obtain ⟨y,hy,rfl⟩:=List.mem_map.1 hx
   rw [e7_,List.length_map];exact hsz y hy
  ·have hk':k < (flat l).length:=by rw [← hfl];exact hk
   have e:(flat (bm_ l))[k]=bH_ (flat l)[k]:=by
    simp only [fK_,List.getElem_map]
   rw [e];exact ih k hk'
 |own t sz l v h0 hτ ih=>exact ih
 |msl o sz off len b cap n e hb hlen hs hn=>exact .msl o sz off len b cap n e hb hlen hs hn
 |ref o off b hb=>exact .ref o off b hb
 |ro a b off vals hc hv ih=>exact .ro a b off vals hc hv
 |map o b hb=>exact .map o b hb
 |fn f first captured vs ws hn h hm h' ih ih'=>exact .fn f first captured vs ws hn h hm h'
 |iface t a v h ih=>exact .iface t a v h
 |nilp o e n b hb hs=>exact .nilp o e n b hb hs
 |sdp0 k a=>exact .sdp0 k a
 |sdp k l b c h0 hτ ih=>exact .sdp k l b c h0 hτ
 |mslc o sz off len cap e b n hb hlen hs hn=>exact .mslc o sz off len cap e b n hb hlen hs hn
theorem gk_ {f:FuncId} {args:List AVal} {s:NSt} {Q:AVal→NSt→Prop} (h:ACalls P f (bm_ args) s Q):ACalls P f args s Q:=fun κ vs hI hsz hv =>
 h κ vs hI (by rw [a5_];simpa using hsz) fun i hi=>by
  have hi':i < args.length:=by rw [a5_] at hi;simpa using hi
  have e:(bm_ args)[i]=bH_ args[i]:=by simp only [a5_,List.getElem_map]
  rw [e];exact gj_ (hv i hi')
theorem ACalls.neutral {f:FuncId} {args:List AVal} {v:AVal} {h h':Hp} {t t':Tk} {n n':Nat} (hc:ACalls P f args (toSt h t n) fun a s=>a=v∧s=toSt h' t' n') (h1:hsub h h'=true) (h2:tsub t t t'=true) (hv:nf (bH_ v)=true) :
  ACalls P f args (toSt h t n) fun a s=>a=bH_ v∧s=toSt h t n:=by
 intro κ vs hN hsz hvs
 refine (hc κ vs hN hsz hvs).mono fun e w' ⟨cv,he,κ',a,s',q1,q2,q3,q4,q5,q6⟩=>?_
 subst q5;subst q6
 have hI:Inv κ' (store h t):=Inv.sub q3.1 (k9_ h1 h2)
 obtain ⟨κ'',r1,r2,r3,r4⟩:=re0 hN q2 hI (aG_ hN.1) (a2_ hN.1)
 exact ⟨cv,he,κ'',_,_,r1.trans q1,r2,r3,r4.keep (gj_ q4) hv,rfl,rfl⟩
theorem fy_ (hc:bh_ P call) (hR:R.fine) {f:FuncId} {args:List AVal} {h0 h:Hp} {t0 t:Tk} {n:Nat} {K:K1} (hs:(store h0 t0).Sub (store h t)) {fl:Bool} (hr:eK_ fl call f args h0 t0 h t n K=R)
  {Q:AVal→NSt→Prop} (hQ:∀ a h' t' n',(store h0 t0).Sub (store h' t')→K a h' t' n'=R→Q a (toSt h' t' n')):ACalls P f args (toSt h t n) Q:=by
 unfold eK_ at hr
 cases hcall:call f args h t n with
 |bad m=>rw [hcall] at hr;subst hr;exact hR.elim
 |ok v h' t' n' =>
  rw [hcall] at hr
  replace hr:(Bool.rec (iff 131 (hsub h0 h') (iff 138 (tsub t0 t0 t') (K v h' t' n'))) (iff 131 (hsub h h') (iff 138 (tsub t t t') (K (bH_ v) h t n))) (fl && nf (bH_ v)):Res)=R:=hr
  cases hnf:(fl && nf (bH_ v)) with
  |false =>
   rw [hnf] at hr
   obtain ⟨hc1,hr⟩:=af_ hR hr
   obtain ⟨hc2,hK⟩:=af_ hR hr
   exact (hc _ _ _ _ _ _ _ _ _ hcall).mono fun a s ⟨h1,h2⟩=>by rw [h1,h2];exact hQ _ _ _ _ (k9_ hc1 hc2) hK
  |true =>
   rw [hnf] at hr
   obtain ⟨hc1,hr⟩:=af_ hR hr
   obtain ⟨hc2,hK⟩:=af_ hR hr
   exact (ACalls.neutral (hc _ _ _ _ _ _ _ _ _ hcall) hc1 hc2 (by rw [Bool.and_eq_true] at hnf;exact hnf.2)).mono fun a s ⟨h1,h2⟩=>by rw [h1,h2];exact hQ _ _ _ _ hs hK
theorem kj_ {fl:Bool} (hc:bh_ P call) (hp:Same pu call) (hR:R.fine) {o:Oper} {e:Ev} {h0 h:Hp} {t0 t:Tk} {n:Nat} {K:K1} (hs:(store h0 t0).Sub (store h t)) (hr:newK P fl pu call o.type o.op e h0 t0 h t n K=R)
  {Q:AVal→NSt→Prop} (hQ:∀ a h' t' n',(store h0 t0).Sub (store h' t')→K a h' t' n'=R→Q a (toSt h' t' n')):AOp P o (aev (env e)) (toSt h t n) Q:=by
 unfold newK at hr
 split at hr
 ·rename_i ty x ho
  obtain ⟨hn,hr⟩:=af_ hR hr
  unfold iX_ at hr
  cases hh:eO_ (ev x e) with
  |none =>
   rw [hh] at hr
   obtain ⟨hb,hK⟩:=af_ hR (show iff 2 _ _=R from hr)
   rw [aE_] at hK
   rw [ax_] at hb hK
   refine AOp_box ho hb (Nat.le_refl n) ?_
   rw [b3_];exact hQ _ _ _ _ (b9_ hs hn) hK
  |some r =>
   rw [hh] at hr
   refine AOp_boxP ho (by rw [← ax_];exact dW_ hh) (Nat.le_refl n) ?_
   rw [b3_];exact hQ _ _ _ _ (b9_ hs hn) hr
 ·rename_i ty ho
  obtain ⟨hn,hr⟩:=af_ hR hr
  obtain ⟨z,hz,hr⟩:=ae_ hR hr
  cases hh:dn_ z.cells.toList with
  |none =>
   rw [hh] at hr
   refine AOp_alloc ho hz (Nat.le_refl n) ?_
   rw [b3_];exact hQ _ _ _ _ (b9_ hs hn) ((aE_ _ _).symm.trans hr)
  |some r =>
   rw [hh] at hr
   refine AOp_allocP ho hz (do_ hh) (Nat.le_refl n) ?_
   rw [b3_];exact hQ _ _ _ _ (b9_ hs hn) hr
 ·rename_i ty ho
  obtain ⟨hn,hK⟩:=af_ hR hr
  refine AOp_makeMap ho (Nat.le_refl n) ?_
  rw [b3_];exact hQ _ _ _ _ (b9_ hs hn) hK
 ·rename_i ho;exact if_ hR ho hr fun a hK=>hQ _ _ _ _ hs hK
 ·rename_i ho;exact j2_ hR ho hr fun a hK=>hQ _ _ _ _ hs hK
 ·rename_i c ho
  split at hr
  ·rename_i f hf
   rw [dj_,ax_] at hr
   unfold kw_ at hr
   split at hr
   ·rename_i g a b hfv
    obtain ⟨hc1,hr2⟩:=af_ hR hr
    clear hr
    simp only [Bool.and_eq_true] at hc1
    obtain ⟨⟨hg,ha⟩,hb⟩:=hc1
    obtain rfl:a=#[]:=Array.ext' (List.length_eq_zero_iff.1 (ao_ ha))
    obtain rfl:b=#[]:=Array.ext' (List.length_eq_zero_iff.1 (ao_ hb))
    refine bY_ (first:=[]) (captured:=[]) ho hf (.inr ⟨hfv,rfl,rfl⟩) hg ?_
    rw [List.nil_append,List.append_nil]
    cases hpu:pu g with
    |true =>
     rw [hpu] at hr2
     cases hcall:call g (c.args.toList.map (aev (env e))) h t n with
     |bad m=>rw [hcall] at hr2;subst hr2;exact hR.elim
     |ok v h' t' n' =>
      rw [hcall] at hr2
      have hcl:=hc _ _ _ _ _ _ _ _ _ hcall
      obtain ⟨rfl,rfl,rfl⟩:=hp _ _ _ _ _ _ _ _ _ hpu hcall
      exact hcl.mono fun a s ⟨h1,h2⟩=>by rw [h1,h2];exact hQ _ _ _ _ hs hr2
    |false =>
     rw [hpu] at hr2
     cases hnf:nfL (bm_ (c.args.toList.map (aev (env e)))) with
     |true =>
      rw [hnf] at hr2
      refine gk_ ?_
      obtain ⟨_,hr3⟩:=af_ hR (show iff 44 _ _=R from hr2)
      cases hcall:call g (bm_ (c.args.toList.map (aev (env e)))) .nil .nil n with
      |bad m=>rw [hcall] at hr3;subst hr3;exact hR.elim
      |ok v h' t' n' =>
       rw [hcall] at hr3
       obtain ⟨hcnd,hK⟩:=af_ hR (show iff 130 _ _=R from hr3)
       simp only [Bool.and_eq_true] at hcnd
       obtain ⟨q1,q2,q3,q4,q5⟩:=hcnd
       exact (ACalls.fresh (hc _ _ _ _ _ _ _ _ _ hcall) hnf q1 q2 q3 (Nat.le_of_ble_eq_true q4)).mono fun a s ⟨h1,h2⟩=>by rw [h1,h2];exact hQ _ _ _ _ (la_ hs q5) hK
     |false =>
      rw [hnf] at hr2
      exact fy_ hc hR hs (show eK_ fl call g _ h0 t0 h t n K=R from hr2) hQ
   ·rename_i g first cap hfv
    obtain ⟨hg,hr2⟩:=af_ hR hr
    exact bY_ (first:=first) (captured:=cap) ho hf (.inl hfv) hg (fy_ hc hR hs hr2 hQ)
   ·subst hr;exact hR.elim
  ·rename_i hf
   split at hr
   ·rename_i x y ty tx ha hb
    obtain ⟨cal,args,argTypes⟩:=c
    obtain rfl:cal=.builtin .append:=hf
    obtain rfl:args=#[x,y]:=Array.ext' ha
    obtain rfl:argTypes=#[ty,tx]:=Array.ext' hb
    obtain ⟨hcnd,hr⟩:=af_ hR hr
    simp only [Bool.and_eq_true] at hcnd
    refine mS_ hR ho hr fun a t' n' hk hK=>hQ _ _ _ _ ⟨hs.heap,fun i p hp=>?_⟩ hK
    have hp':tok i t0=some p:=hp
    show tok i t'=some p
    rw [hk i (fun k s l hx hik=>?_) (fun hin=>?_)]
    ·exact hs.tok i p hp
    ·have h2:=hcnd.2
     rw [hx] at h2
     rw [hik] at hp'
     replace h2:(tok k t0).isNone=true:=h2
     rw [hp'] at h2
     cases h2
    ·have h1:=hcnd.1
     rw [hin] at hp'
     rw [hp'] at h1
     cases h1
   ·subst hr;exact hR.elim
  ·rename_i hf
   split at hr
   ·rename_i x t1 ha hb;exact j3_ hR ho hf ha hb hr fun a hK=>hQ _ _ _ _ hs hK
   ·subst hr;exact hR.elim
  ·rw [← ho] at hr;exact fx_ hR hr fun a hK=>hQ _ _ _ _ hs hK
 ·rename_i ho;exact gN_ hR ho hr fun a hK=>hQ _ _ _ _ hs hK
 ·rename_i ho
  obtain ⟨hn,hr⟩:=af_ hR hr
  exact j6_ hR ho hr fun a x hK=>hQ _ _ _ _ (b9_ hs hn) hK
 ·rename_i ho
  split at hr
  ·rename_i mo hm
   obtain ⟨hn,hr⟩:=af_ hR hr
   exact mT_ hR ho hr fun a mo' x hm' hK=>by
    rw [hm] at hm'
    injection hm' with hm'
    subst hm'
    exact hQ _ _ _ _ (b9_ hs hn) hK
  ·subst hr;exact hR.elim
 ·rename_i ho
  split at hr
  ·rename_i i _ hi
   obtain ⟨hn,hr⟩:=af_ hR hr
   exact ig_ hR ho hr fun a i' off x hi' hK=>by
    rw [hi] at hi'
    injection hi' with hi' _
    subst hi'
    exact hQ _ _ _ _ (b9_ hs hn) hK
  ·subst hr;exact hR.elim
 ·cases hv:isVal o.op with
  |false=>rw [hv] at hr;exact fx_ hR hr fun a hK=>hQ _ _ _ _ hs hK
  |true =>
   rw [hv] at hr
   obtain ⟨c,hc⟩:=kt_ P ⟨fun _=>false,false,fun _=>false⟩ call o.type o.op e h t n K hv
   obtain ⟨a,ha,hK⟩:=ae_ hR (hc.symm.trans hr)
   rw [dj_] at ha
   exact b5_ ha (hQ _ _ _ _ hs hK)
theorem np_ (hp:Pure P pu call) (hR:R.fine) {o:Oper} {e:Ev} {K:AVal→Res} (hw:aC_ ops o (env e)=some true) (hr:anyK P pu call o e K=R):∃ a,da_ P ops o a (env e)∧K a=R:=by
 unfold anyK at hr
 split at hr
 ·rename_i c ho
  split at hr
  ·rename_i f hf
   obtain ⟨hc,hr⟩:=af_ hR hr
   simp only [Bool.and_eq_true] at hc
   rw [dj_] at hr
   cases hcall:call f (c.args.toList.map (aev (env e))) .nil .nil 0 with
   |bad m=>rw [hcall] at hr;subst hr;exact hR.elim
   |ok v h' t' n' =>
    rw [hcall] at hr
    refine ⟨v,.inr ⟨hw,fun s Kk hk=>bY_ (f:=.func f) (first:=[]) (captured:=[]) ho hf (.inr ⟨rfl,rfl,rfl⟩) hc.1 ?_⟩,hr⟩
    rw [List.nil_append,List.append_nil]
    exact (hp f _ v h' t' n' hc.2 hcall s).mono fun a s' ⟨h1,h2⟩=>by rw [h1,h2];exact hk
  ·subst hr;exact hR.elim
 ·rename_i ty m ps ho
  obtain ⟨el,hel,hr⟩:=ae_ hR hr
  obtain ⟨p,hpp,hr⟩:=ae_ hR hr
  obtain ⟨hc,hK⟩:=af_ hR hr
  simp only [Bool.and_eq_true,decide_eq_true_eq] at hc
  obtain ⟨⟨⟨h1,h2⟩,h3⟩,h4⟩:=hc
  rw [aE_] at hK
  simp only [ax_] at hK h4
  refine ⟨_,.inr ⟨hw,fun s Kk hk=>AOp_buildSlice (sz:=p.1) (by_:=p.2) ho hel hpp (ao_ h1) h2 (fun q hq=>?_) (Nat.le_of_ble_eq_true h3) hk⟩,hK⟩
  have:=List.all_eq_true.1 h4 q hq
  simp only [Bool.and_eq_true] at this
  exact ⟨this.1,ao_ this.2⟩
 ·rename_i b ty x y yt ho
  rw [ky_] at hr
  obtain ⟨a,ha,hK⟩:=ae_ hR (show opt 113 (aval P (.binOp b ty x y yt) (fun x=>ev x e) (store .nil .nil)) (fun a=>K a)=R from hr)
  rw [dj_] at ha
  exact ⟨a,.inl fun s=>.inl ⟨hw,by rw [ho];exact ha⟩,hK⟩
 ·rename_i ty x lo hi mo ho
  cases hn:jW_ (aev (env e) x) with
  |false =>
   rw [hn] at hr
   obtain ⟨a,ha,hK⟩:=ae_ hR hr
   exact ⟨a,.inl fun s=>.inl ⟨hw,by rw [ho];exact ha⟩,hK⟩
  |true =>
   rw [hn] at hr
   have hx:aev (env e) x=.lit (.slice none 0 0):=by
    unfold jW_ at hn
    split at hn
    ·rename_i hh;exact hh
    ·cases hn
   obtain ⟨el,q1,hr⟩:=ae_ hR (show opt 132 _ _=R from hr)
   obtain ⟨p,q2,hr⟩:=ae_ hR hr
   obtain ⟨a,q3,hr⟩:=ae_ hR hr
   obtain ⟨b,q4,hr⟩:=ae_ hR hr
   obtain ⟨c,q5,hr⟩:=ae_ hR hr
   obtain ⟨q6,hK⟩:=af_ hR hr
   simp only [Bool.and_eq_true] at q6
   have e1:=ao_ q6.1
   have e2:=ao_ q6.2.1
   have e3:=ao_ q6.2.2
   subst e1;subst e2;subst e3
   exact ⟨_,.inr ⟨hw,fun s Kk hk=>dQ_ ho q1 q2 hx q3 q4 q5 hk⟩,hK⟩
 ·obtain ⟨hs,hr⟩:=af_ hR hr
  obtain ⟨a,ha,hK⟩:=ae_ hR hr
  exact ⟨a,.inl fun s=>.inl ⟨hw,by rw [cU_ hs _ s.st (store .nil .nil)];exact ha⟩,hK⟩
theorem bn_ {fl:Bool} {ne:Md} (hne:NeOk P ne) (hc:bh_ P call) (hp:Same pu call) (hpp:Pure P pu call) (hp2:Pure P ne.pu call) (hR:R.fine) {h0:Hp} {t0:Tk} {n0:Nat}:∀ (d:DT) (tl:Bool) (e:Ev) (h:Hp) (t:Tk) (n:Nat) (K:Ko),(tl=true∨(store h0 t0).Sub (store h t)) →
  fj_ P fl ne pu ops call h0 t0 d tl e h t n K=R→dRun P ops (toSt h0 t0 n0) (PO K R) d (env e) (toSt h t n)
 |.nil,tl,e,h,t,n,K,hs,hr=>⟨e,h,t,n,rfl,rfl,hr⟩
 |.op i 0 r,tl,e,h,t,n,K,hs,hr=>by
  obtain ⟨o,ho,hr⟩:=ae_ hR (show opt 53 (ops[i]?) _=R from hr)
  obtain ⟨a,ha,hK⟩:=li_ hR (show valK P ops o e h0 t0 _=R from hr)
  refine ⟨o,a,ho,ha,?_⟩
  rw [← aI_]
  exact bn_ hne hc hp hpp hp2 hR r tl _ _ _ _ _ hs hK
 |.op i 1 r,tl,e,h,t,n,K,hs,hr=>by
  obtain ⟨o,ho,hr⟩:=ae_ hR (show opt 53 (ops[i]?) _=R from hr)
  obtain ⟨htl,hr⟩:=af_ hR (show iff 59 (!tl) _=R from hr)
  have hs':(store h0 t0).Sub (store h t):=hs.resolve_left (by cases tl with | true=>cases htl | false=>decide)
  refine ⟨o,ho,?_⟩
  obtain ⟨w,hw,hr⟩:=cO_ hR (show ha_ ops o e _=R from hr)
  unfold aT_
  rw [hw]
  cases w with
  |true =>
   refine kj_ hc hp hR hs' (show newK P fl pu call o.type o.op e h0 t0 h t n _=R from hr) fun a h' t' n' hsub hK=>⟨hsub,?_⟩
   rw [← aI_]
   exact bn_ hne hc hp hpp hp2 hR r tl _ _ _ _ _ (.inr hsub) hK
  |false =>
   refine ⟨hs',?_⟩
   rw [← aI_]
   exact bn_ hne hc hp hpp hp2 hR r tl _ _ _ _ _ (.inr hs') hr
 |.op i (k + 2) r,tl,e,h,t,n,K,hs,hr=>by
  obtain ⟨o,ho,hr⟩:=ae_ hR (show opt 53 (ops[i]?) _=R from hr)
  refine ⟨o,ho,gh_ hne hc hp2 hR (show hO_ P ne ops call o e h t n _=R from hr) fun a h' t' n' hK=>?_⟩
  rw [← aI_]
  exact bn_ hne hc hp hpp hp2 hR r true _ _ _ _ _ (.inl rfl) hK
 |.any i r,tl,e,h,t,n,K,hs,hr=>by
  obtain ⟨o,ho,hr⟩:=ae_ hR (show opt 53 (ops[i]?) _=R from hr)
  obtain ⟨w,hw,hr⟩:=cO_ hR (show ha_ ops o e _=R from hr)
  cases w with
  |true =>
   obtain ⟨a,ha,hK⟩:=np_ hpp hR hw (show anyK P pu call o e _=R from hr)
   refine ⟨o,a,ho,ha,?_⟩
   rw [← aI_]
   exact bn_ hne hc hp hpp hp2 hR r tl _ _ _ _ _ hs hK
  |false =>
   refine ⟨o,.lit undef,ho,.inl fun s=>.inr ⟨hw,rfl⟩,?_⟩
   rw [← aI_]
   exact bn_ hne hc hp hpp hp2 hR r tl _ _ _ _ _ hs hr
 |.alt i 0 r d,tl,e,h,t,n,K,hs,hr=>by
  obtain ⟨h1,_⟩:=dK_ hR (show iQ_ _ _=R from hr)
  obtain ⟨o,ho,h1⟩:=ae_ hR (show opt 53 (ops[i]?) _=R from h1)
  subst h1;exact hR.elim
 |.alt i 1 r d,tl,e,h,t,n,K,hs,hr=>by
  obtain ⟨h1,h2⟩:=dK_ hR (show iQ_ _ _=R from hr)
  refine ⟨?_,bn_ hne hc hp hpp hp2 hR d tl e h t n K hs h2⟩
  obtain ⟨o,ho,hr⟩:=ae_ hR (show opt 53 (ops[i]?) _=R from h1)
  obtain ⟨htl,hr⟩:=af_ hR (show iff 59 (!tl) _=R from hr)
  have hs':(store h0 t0).Sub (store h t):=hs.resolve_left (by cases tl with | true=>cases htl | false=>decide)
  refine ⟨o,ho,?_⟩
  obtain ⟨w,hw,hr⟩:=cO_ hR (show ha_ ops o e _=R from hr)
  unfold aT_
  rw [hw]
  cases w with
  |true =>
   refine kj_ hc hp hR hs' (show newK P fl pu call o.type o.op e h0 t0 h t n _=R from hr) fun a h' t' n' hsub hK=>⟨hsub,?_⟩
   rw [← aI_]
   exact bn_ hne hc hp hpp hp2 hR r tl _ _ _ _ _ (.inr hsub) hK
  |false =>
   refine ⟨hs',?_⟩
   rw [← aI_]
   exact bn_ hne hc hp hpp hp2 hR r tl _ _ _ _ _ (.inr hs') hr
 |.alt i (k + 2) r d,tl,e,h,t,n,K,hs,hr=>by
  obtain ⟨h1,h2⟩:=dK_ hR (show iQ_ _ _=R from hr)
  refine ⟨?_,bn_ hne hc hp hpp hp2 hR d tl e h t n K hs h2⟩
  obtain ⟨o,ho,hr⟩:=ae_ hR (show opt 53 (ops[i]?) _=R from h1)
  refine ⟨o,ho,gh_ hne hc hp2 hR (show hO_ P ne ops call o e h t n _=R from hr) fun a h' t' n' hK=>?_⟩
  rw [← aI_]
  exact bn_ hne hc hp hpp hp2 hR r true _ _ _ _ _ (.inl rfl) hK
theorem fm_ {Kk Kk':Env→NSt→Prop} (hk:∀ e s,Kk e s→Kk' e s):∀ {l:List Oper} {e:Env} {s:NSt},aL_ P ops Kk l e s→aL_ P ops Kk' l e s
 |[],_,_,h=>hk _ _ h
 |_ :: _,_,_,h=>aw_ (fun _ _ h=>fm_ hk h) h
theorem aZ_ {s0:NSt} {Kk Kk':Env→NSt→Prop} (hk:∀ e s,Kk e s→Kk' e s):∀ {d:DT} {e:Env} {s:NSt},dRun P ops s0 Kk d e s→dRun P ops s0 Kk' d e s
 |.nil,_,_,h=>hk _ _ h
 |.op i 0 r,_,_,⟨o,a,h1,h2,h3⟩=>⟨o,a,h1,h2,aZ_ hk h3⟩
 |.op i 1 r,_,_,⟨o,h1,h2⟩=>⟨o,h1,aw_ (fun _ _ h=>⟨h.1,aZ_ hk h.2⟩) h2⟩
 |.op i (_ + 2) r,_,_,⟨o,h1,h2⟩=>⟨o,h1,aw_ (fun _ _ h=>aZ_ hk h) h2⟩
 |.any i r,_,_,⟨o,a,h1,h2,h3⟩=>⟨o,a,h1,h2,aZ_ hk h3⟩
 |.alt i 0 r t,_,_,⟨⟨o,h1,h2⟩,h3⟩=>⟨⟨o,h1,aw_ (fun _ _ h=>aZ_ hk h) h2⟩,aZ_ hk h3⟩
 |.alt i 1 r t,_,_,⟨⟨o,h1,h2⟩,h3⟩=>⟨⟨o,h1,aw_ (fun _ _ h=>⟨h.1,aZ_ hk h.2⟩) h2⟩,aZ_ hk h3⟩
 |.alt i (_ + 2) r t,_,_,⟨⟨o,h1,h2⟩,h3⟩=>⟨⟨o,h1,aw_ (fun _ _ h=>aZ_ hk h) h2⟩,aZ_ hk h3⟩
theorem hf_ (hR:R.fine) {a:AVal} {K:Bool→Res} (h:asBool a K=R):∃ b,a=.lit (.bool b)∧K b=R:=by
 unfold asBool at h
 split at h
 ·exact ⟨_,rfl,h⟩
 ·subst h;exact hR.elim
theorem ka_ (e:Ev):∀ (l:List Nat) (k:Nat),Wk (env e k) (env (keep l e) k)
 |[],k=>.any _
 |j :: l,k=>by
  show Wk (lk k e) (lk k (.cons j (lk j e) (keep l e)))
  rw [ke_]
  by_cases h:j=k
  ·rw [if_pos h,h];exact .refl _
  ·rw [if_neg h];exact ka_ e l k
theorem c6_ {d i:Nat} {o:Oper} (ho:ops[i]?=some o) (h:offP ops d i=true):(∀ t,some d=some t→t ∉ o.looksAt ops)∧∀ t,some d=some t→o.dst≠some t:=by
 unfold offP at h
 rw [ho] at h
 simp only [Bool.and_eq_true,Bool.not_eq_true',bne_iff_ne] at h
 refine ⟨fun t ht hm=>?_,fun t ht hd=>?_⟩
 ·obtain rfl:=Option.some.inj ht
  have:=List.contains_iff_mem.2 hm
  rw [h.1] at this
  cases this
 ·obtain rfl:=Option.some.inj ht
  exact h.2 hd
theorem bR_ {o:Oper} {d:Nat} {b:AVal} {Kk Kk':Env→NSt→Prop} {e:Env} {s:NSt} (h1:∀ t,some d=some t→t ∉ o.looksAt ops) (h2:∀ t,some d=some t→o.dst≠some t) (hk:∀ e s,Kk e s→Kk' (updo e (some d) b) s) (h:aT_ P ops o Kk e s):aT_ P ops o Kk' (updo e (some d) b) s:=by
 unfold aT_ at *
 rw [bF_ h1]
 split
 ·rename_i hw
  simp only [hw] at h
  refine cx_ (fun x hx=>(bB_ (ops:=ops) h1 x hx).symm) (h.mono fun v σ' hq=>?_)
  rw [bE_ e b v h2];exact hk _ _ hq
 ·rename_i hw
  simp only [hw] at h
  rw [bE_ e b (.lit undef) h2];exact hk _ _ h
 ·rename_i hw
  simp only [hw] at h
theorem aU_ {s0:NSt} {Kk:Env→NSt→Prop} {d:Nat} {b:AVal}:∀ (t:DT) (e:Env) (s:NSt),offT ops d t=true→dRun P ops s0 Kk t e s→dRun P ops s0 (fun e' s'=>∃ e0,e'=updo e0 (some d) b∧Kk e0 s') t (updo e (some d) b) s
 |.nil,e,s,_,h=>⟨e,rfl,h⟩
 |.op i 0 r,e,s,ho,⟨o,a,h1,h2,h3⟩=>by
  simp only [offT,Bool.and_eq_true] at ho
  obtain ⟨q1,q2⟩:=c6_ h1 ho.1
  refine ⟨o,a,h1,h2.other q1,?_⟩
  rw [bE_ e b a q2]
  exact aU_ r _ _ ho.2 h3
 |.op i 1 r,e,s,ho,⟨o,h1,h2⟩=>by
  simp only [offT,Bool.and_eq_true] at ho
  obtain ⟨q1,q2⟩:=c6_ h1 ho.1
  exact ⟨o,h1,bR_ q1 q2 (fun e s h=>⟨h.1,aU_ r e s ho.2 h.2⟩) h2⟩
 |.op i (_ + 2) r,e,s,ho,⟨o,h1,h2⟩=>by
  simp only [offT,Bool.and_eq_true] at ho
  obtain ⟨q1,q2⟩:=c6_ h1 ho.1
  exact ⟨o,h1,bR_ q1 q2 (fun e s h=>aU_ r e s ho.2 h) h2⟩
 |.any i r,e,s,ho,⟨o,a,h1,h2,h3⟩=>by
  simp only [offT,Bool.and_eq_true] at ho
  obtain ⟨q1,q2⟩:=c6_ h1 ho.1
  refine ⟨o,a,h1,h2.other q1,?_⟩
  rw [bE_ e b a q2]
  exact aU_ r _ _ ho.2 h3
 |.alt i 0 r t,e,s,ho,⟨⟨o,h1,h2⟩,h3⟩=>by
  simp only [offT,Bool.and_eq_true] at ho
  obtain ⟨q1,q2⟩:=c6_ h1 ho.1
  exact ⟨⟨o,h1,bR_ q1 q2 (fun e s h=>aU_ r e s ho.2.1 h) h2⟩,aU_ t e s ho.2.2 h3⟩
 |.alt i 1 r t,e,s,ho,⟨⟨o,h1,h2⟩,h3⟩=>by
  simp only [offT,Bool.and_eq_true] at ho
  obtain ⟨q1,q2⟩:=c6_ h1 ho.1
  exact ⟨⟨o,h1,bR_ q1 q2 (fun e s h=>⟨h.1,aU_ r e s ho.2.1 h.2⟩) h2⟩,aU_ t e s ho.2.2 h3⟩
 |.alt i (_ + 2) r t,e,s,ho,⟨⟨o,h1,h2⟩,h3⟩=>by
  simp only [offT,Bool.and_eq_true] at ho
  obtain ⟨q1,q2⟩:=c6_ h1 ho.1
  exact ⟨⟨o,h1,bR_ q1 q2 (fun e s h=>aU_ r e s ho.2.1 h) h2⟩,aU_ t e s ho.2.2 h3⟩
def PW (K:Ko) (R:Res):Env→NSt→Prop:=fun e s=>∃ e' h t n,(∀ k,Wk (e k) (env e' k))∧s=toSt h t n∧K e' h t n=R
theorem iD_:∀ {l:List (Value × AVal)},oB_ l=true→∃ m:List (Value × Value),l=litM m
 |[],_=>⟨[],rfl⟩
 |(k,a) :: l,h=>by
  unfold oB_ at h
  rw [List.all_cons,Bool.and_eq_true] at h
  obtain ⟨m,rfl⟩:=iD_ (l:=l) h.2
  have h1:=h.1
  cases a with
  |lit v=>exact ⟨(k,v) :: m,rfl⟩
  |_=>cases h1
theorem lK_ {oi oj ol:Oper} {ty:TypeId} {m k m' x:Operand} {di dj:Nat} (h:nB_ oi oj ol=some (ty,m,k,m',x,di,dj)):∃ ty',oi.op=.mapEntry ty m k∧oj.op=.extract (.tmp di) 1∧ol.op=.entryStore ty' m' (.tmp dj) x∧oi.dst=some di∧oj.dst=some dj∧ol.dst=none∧oi.guard=none∧oj.guard=none∧ol.guard=none∧di≠dj:=by
 unfold nB_ at h
 split at h
 ·rename_i h1 h2 h3 h4 h5
  revert h
  generalize hb:(_ && _ && _ && _ && _ && _ && _:Bool)=b
  cases b with
  |false=>intro h;cases h
  |true =>
   intro h
   simp only [Bool.and_eq_true,Option.isNone_iff_eq_none,Bool.not_eq_true'] at hb
   obtain ⟨⟨⟨⟨⟨⟨g1,g2⟩,g3⟩,g4⟩,g5⟩,g6⟩,g7⟩:=hb
   have h':=Option.some.inj h
   simp only [Prod.mk.injEq] at h'
   obtain ⟨rfl,rfl,rfl,rfl,rfl,rfl,rfl⟩:=h'
   rw [ao_ g5] at h2
   rw [ao_ g6] at h3
   exact ⟨_,h1,h2,h3,h4,h5,g4,g1,g2,g3,dg_ g7⟩
 ·cases h
theorem c8_ {o:Oper} {e:Env} (h:o.guard=none):aC_ ops o e=some true:=by unfold aC_;rw [h]
theorem ov_ {h:Hp} {t:Tk} {n mo:Nat} {x y:AObj}:(⟨(⟨(toSt h t n).st.set mo x,(toSt h t n).fr⟩:NSt).st.set mo y,(⟨(toSt h t n).st.set mo x,(toSt h t n).fr⟩:NSt).fr⟩:NSt)=toSt (put mo y h) t n:=by
 rw [← dY_]
 show (⟨((toSt h t n).st.set mo x).set mo y,_⟩:NSt)=_
 rw [Store.set_set]
theorem hW_ (e:Env) {di dj:Nat} (h:di≠dj) (a b a' b':AVal):updo (updo (updo (updo e (some di) a') (some dj) b') (some di) a) (some dj) b=updo (updo e (some di) a) (some dj) b:=by
 funext k
 simp only [updo,upd]
 by_cases h1:k=dj
 ·simp [h1]
 ·by_cases h2:k=di
  ·simp [h2,h]
  ·simp [h1,h2]
theorem jh_ {E:Env} {di dj:Nat} {b c a:AVal} {x:Operand} (h:aev (updo (updo E (some di) .any) (some dj) .any) x=a) (ha:a≠.any):aev (updo (updo E (some di) b) (some dj) c) x=a:=by
 cases x with
 |tmp t =>
  simp only [aev,updo,upd] at h ⊢
  by_cases h1:t=dj
  ·rw [if_pos h1] at h;exact absurd h.symm ha
  ·rw [if_neg h1] at h ⊢
   by_cases h2:t=di
   ·rw [if_pos h2] at h;exact absurd h.symm ha
   ·rw [if_neg h2] at h ⊢;exact h
 |_=>exact h
theorem fX_ (hR:R.fine) {oi oj ol:Oper} {e:Ev} {h:Hp} {t:Tk} {n:Nat} {s0:Store} {KK:Nat→Nat→Nat→Ev→Hp→Res} (hr:entK P oi oj ol e h KK=R) {A:NSt→Prop} {B:Env→NSt→Prop}
  (hA:∀ di dj mo e' h' x,KK di dj mo e' h'=R→A (toSt (put mo x h) t n))
  (hB:∀ di dj mo e' y a b,KK di dj mo e' (put mo y h)=R→di≠dj→env e'=updo (updo (env e) (some di) .any) (some dj) .any→B (updo (updo (env e) (some di) a) (some dj) b) (toSt (put mo y h) t n)) :
  aT_ P ops oi (fun e' s'=>A s'∧∃ a,AYields P ops s0 oj a e'∧aT_ P ops ol B (updo e' oj.dst a) s') (env e) (toSt h t n):=by
 obtain ⟨⟨ty,m,k,m',x,di,dj⟩,hq,r1⟩:=ae_ hR hr
 clear hr
 obtain ⟨ty',e1,e2,e3,d1,d2,d3,g1,g2,g3,hd⟩:=lK_ hq
 obtain ⟨kt,et,kd,mo,kv,kvs,q1,q2,q3,q4,q5,q6,q7,r2⟩:=c5_ hR r1
 clear r1
 obtain ⟨et',q8,r3⟩:=ae_ hR r2
 clear r2
 obtain ⟨z,q9,r4⟩:=ae_ hR r3
 clear r3
 obtain ⟨q10,hr⟩:=af_ hR r4
 clear r4
 obtain rfl:et=et':=by
  have q8':n2_ P ty=some et':=q8
  unfold n2_ at q8'
  have q1':P.underlying ty=some (.map kt et):=q1
  rw [q1'] at q8'
  exact Option.some.inj q8'
 obtain ⟨kvl,rfl⟩:=iD_ q10
 have he1:env (dput (some dj) .any (dput (some di) .any e))=updo (updo (env e) (some di) .any) (some dj) .any:=by rw [aI_,aI_]
 split at hr
 ·rename_i mo' v hm' hx
  obtain ⟨q11,r5⟩:=af_ hR hr
  clear hr
  obtain rfl:=ao_ q11
  rw [ax_] at q3 q4
  replace hm':ev m' (dput (some dj) .any (dput (some di) .any e))=.map mo':=hm'
  replace hx:ev x (dput (some dj) .any (dput (some di) .any e))=.lit v:=hx
  rw [ax_,he1] at hm' hx
  unfold aT_
  rw [c8_ g1]
  refine AOp_mapEntryP e1 q1 q2 q9 q3 q5 q4 q6 q7 fun es clk born f hst hf=>?_
  refine ⟨by rw [dY_];exact hA _ _ _ _ _ _ r5,.lit (.int .i64 born),.inl ⟨c8_ g2,?_⟩,?_⟩
  ·rw [e2,d1]
   show (match aev (updo (env e) (some di) (.tup [.any,.lit (.int .i64 born)])) (.tmp di) with
    |.tup vs=>vs[1]?
    |_=>none)=_
   simp [aev,updo,upd]
  ·rw [c8_ g3,d1,d2,d3]
   refine AOp_entryStore e3 (jh_ hm' (by simp)) (Store.set_get _ _ _) (by simp [aev,updo,upd]) (jh_ hx (by simp)) hst ?_
   rw [ov_,hf]
   exact hB _ _ _ _ _ _ _ r5 hd he1
 ·subst hr;exact hR.elim
theorem fY_ {s0:NSt} {r:DT} {di dj:Nat} {a b:AVal} {e e':Ev} {s:NSt} {K:Ko} (hd:di≠dj) (he:env e'=updo (updo (env e) (some di) .any) (some dj) .any) (h1:offT ops di r=true) (h2:offT ops dj r=true)
  (hD:dRun P ops s0 (PW (fun e h t n=>K (dput (some di) .any (dput (some dj) .any e)) h t n) R) r (env e') s):dRun P ops s0 (PW K R) r (updo (updo (env e) (some di) a) (some dj) b) s:=by
 have key:=aU_ (d:=dj) (b:=b) r _ _ h2 (aU_ (d:=di) (b:=a) r _ _ h1 hD)
 rw [he,hW_ _ hd] at key
 refine aZ_ ?_ key
 rintro e1 s1 ⟨e2,rfl,e3,rfl,e4,h4,t4,n4,hw,rfl,hK⟩
 refine ⟨dput (some di) .any (dput (some dj) .any e4),h4,t4,n4,fun k=>?_,rfl,hK⟩
 rw [aI_,aI_]
 simp only [updo,upd]
 by_cases hk:k=di
 ·have e:(if k=di then AVal.any else if k=dj then AVal.any else env e4 k)=.any:=if_pos hk
  rw [e];exact .any _
 ·by_cases hj:k=dj
  ·have e:(if k=di then AVal.any else if k=dj then AVal.any else env e4 k)=.any:=by rw [if_neg hk,if_pos hj]
   rw [e];exact .any _
  ·rw [if_neg hj,if_neg hk,if_neg hk,if_neg hj];exact hw k
theorem dE_ (hR:R.fine) {h0:Hp} {t0:Tk} {n0:Nat}:∀ (N:Nat) (d:DT),SizeOf.sizeOf d < N→∀ (tl:Bool) (e:Ev) (h:Hp) (t:Tk) (n:Nat) (K:Ko),(tl=true∨(store h0 t0).Sub (store h t)) →
  fi_ P ops h0 t0 d tl e h t n K=R→dRun P ops (toSt h0 t0 n0) (PW K R) d (env e) (toSt h t n)
 |0,d,hN,_,_,_,_,_,_,_,_=>absurd hN (Nat.not_lt_zero _)
 |N + 1,d,hN,tl,e,h,t,n,K,hs,hr=>by
  unfold fi_ at hr
  split at hr
  ·exact ⟨e,h,t,n,fun _=>.refl _,rfl,hr⟩
  ·rename_i i r
   obtain ⟨o,ho,hr⟩:=ae_ hR hr
   obtain ⟨a,ha,hK⟩:=li_ hR hr
   refine ⟨o,a,ho,ha,?_⟩
   rw [← aI_]
   exact dE_ hR N r (by simp at hN;omega) tl _ _ _ _ _ hs hK
  ·rename_i i j l r
   obtain ⟨oi,hi,hr⟩:=ae_ hR hr
   obtain ⟨oj,hj,hr⟩:=ae_ hR hr
   obtain ⟨ol,hl,hr⟩:=ae_ hR hr
   have sub:∀ mo x,(look mo h0).isNone=true→tl=false→(store h0 t0).Sub (store (put mo x h) t):=fun mo x hn ht=>b9_ (hs.resolve_left (by rw [ht];decide)) hn
   have key:=fX_ (P:=P) (ops:=ops) (t:=t) (n:=n) (s0:=(toSt h0 t0 n0).st) hR hr (A:=fun s'=>(toSt h0 t0 n0).Sub s') (B:=fun e'' s''=>(toSt h0 t0 n0).Sub s''∧dRun P ops (toSt h0 t0 n0) (PW K R) r e'' s'') (fun di dj mo e' h' x hk=>by
    obtain ⟨hc,_⟩:=af_ hR hk
    simp only [Bool.and_eq_true,Bool.not_eq_true'] at hc
    exact sub _ _ hc.1.1.2 hc.1.1.1) fun di dj mo e' y a b hk hd he=>by
     obtain ⟨hc,hk⟩:=af_ hR hk
     simp only [Bool.and_eq_true,Bool.not_eq_true'] at hc
     have hsub:=sub mo y hc.1.1.2 hc.1.1.1
     exact ⟨hsub,fY_ hd he hc.1.2 hc.2 (dE_ hR N r (by simp at hN;omega) false _ _ _ _ _ (.inr hsub) hk)⟩
   exact ⟨oi,hi,aw_ (fun e' s' ⟨h1,a,h2,h3⟩=>⟨h1,oj,a,hj,h2,ol,hl,h3⟩) key⟩
  ·rename_i i j l q r
   obtain ⟨oi,hi,hr⟩:=ae_ hR hr
   obtain ⟨oj,hj,hr⟩:=ae_ hR hr
   obtain ⟨ol,hl,hr⟩:=ae_ hR hr
   have sub:∀ mo x,(look mo h0).isNone=true→tl=false→(store h0 t0).Sub (store (put mo x h) t):=fun mo x hn ht=>b9_ (hs.resolve_left (by rw [ht];decide)) hn
   have key:=fX_ (P:=P) (ops:=ops) (t:=t) (n:=n) (s0:=(toSt h0 t0 n0).st) hR hr (A:=fun s'=>(toSt h0 t0 n0).Sub s') (B:=fun e'' s''=>dRun P ops (toSt h0 t0 n0) (PW K R) r e'' s'') (fun di dj mo e' h' x hk=>by
    obtain ⟨hc,_⟩:=af_ hR hk
    simp only [Bool.and_eq_true,Bool.not_eq_true'] at hc
    exact sub _ _ hc.1.1.2 hc.1.1.1) fun di dj mo e' y a b hk hd he=>by
     obtain ⟨hc,hk⟩:=af_ hR hk
     simp only [Bool.and_eq_true,Bool.not_eq_true'] at hc
     exact fY_ hd he hc.1.2 hc.2 (dE_ hR N r (by simp at hN;omega) true _ _ _ _ _ (.inl rfl) hk)
   exact ⟨oi,hi,aw_ (fun e' s' ⟨h1,a,h2,h3⟩=>⟨h1,oj,a,hj,h2,ol,hl,h3⟩) key⟩
  ·rename_i i p j l q r
   obtain ⟨oi,hi,hr⟩:=ae_ hR hr
   obtain ⟨oj,hj,hr⟩:=ae_ hR hr
   obtain ⟨ol,hl,hr⟩:=ae_ hR hr
   have key:=fX_ (P:=P) (ops:=ops) (t:=t) (n:=n) (s0:=(toSt h0 t0 n0).st) hR hr (A:=fun _=>True) (B:=fun e'' s''=>dRun P ops (toSt h0 t0 n0) (PW K R) r e'' s'') (fun _ _ _ _ _ _ _=>trivial) fun di dj mo e' y a b hk hd he=>by
     obtain ⟨hc,hk⟩:=af_ hR hk
     simp only [Bool.and_eq_true] at hc
     exact fY_ hd he hc.1 hc.2 (dE_ hR N r (by simp at hN;omega) true _ _ _ _ _ (.inl rfl) hk)
   exact ⟨oi,hi,aw_ (fun e' s' ⟨_,a,h2,h3⟩=>⟨oj,a,hj,h2,ol,hl,h3⟩) key⟩
  ·subst hr;exact hR.elim
theorem ej_ {t:Tk} {h:Hp}:∀ l:List Nat,(store (subN l h) .nil).Sub (store h t)
 |[]=>⟨fun o x hx=>(by have:look o .nil=some x:=hx;rw [a7_] at this;cases this),fun o p hp=>(by cases hp)⟩
 |k :: l=>by
  have ih:=ej_ (t:=t) (h:=h) l
  refine ⟨fun o x hx=>?_,fun o p hp=>(by cases hp)⟩
  have hx':look o (match look k h with
   |some x=>put k x (subN l h)
   |none=>subN l h)=some x:=hx
  split at hx'
  ·rename_i y hy
   rw [cn_] at hx'
   by_cases ho:o=k
   ·rw [if_pos ho] at hx'
    rw [ho]
    exact hy.trans hx'
   ·rw [if_neg ho] at hx';exact ih.heap o x hx'
  ·exact ih.heap o x hx'
theorem lx_ {n:Nat} {c:Code} {Q Q':Exit→Env→NSt→Prop} {e:Env} {s:NSt} (h:awp P n c Q' e s) (hq:∀ ex e s,Q' ex e s→∃ e',(∀ k,Wk (e k) (e' k))∧Q ex e' s):awp P n c Q e s :=
 fun r dd κ a hs=>wpIn_mono (h r dd κ a hs) fun ex a' w' ⟨κ',e1,s1,q1,q2,q3,q4⟩=>by
  obtain ⟨e2,hw,hQ⟩:=hq _ _ _ q4
  exact ⟨κ',e2,s1,q1,q2,⟨q3.defers,q3.size,fun k=>(q3.env k).wk (hw k),q3.inv⟩,hQ⟩
variable {ntm:Nat} {tr:Nat→DT} {lv:Nat→List Nat} {fuel:Nat}
theorem l3_ (hR:R.fine) {body:Kc} {c:Code} (hb:∀ e h t n K,body e h t n K=R→awp P ntm c (PX K R) (env e) (toSt h t n)) {l:List Nat} {e:Ev} {h:Hp} {t:Tk} {n:Nat} {K:Kx} (hr:n1_ body l fuel e h t n K=R) :
  awp P ntm (.loop c) (PX K R) (env e) (toSt h t n):=by
 refine d6_ (fun m e s=>∃ e' h t n,(∀ k,Wk (e k) (env e' k))∧s=toSt h t n∧n1_ body l m e' h t n K=R) (m:=fuel) ⟨e,h,t,n,fun _=>.refl _,rfl,hr⟩ ?_
 rintro m e s ⟨e',h,t,n,hw,rfl,hl⟩
 cases m with
 |zero=>subst hl;exact hR.elim
 |succ m =>
  refine awp.wk (awp.mono (hb _ _ _ _ _ (show body e' h t n _=R from hl)) ?_) hw (.refl _)
  rintro x e2 s2 ⟨x',e3,h3,t3,n3,rfl,rfl,rfl,hx⟩
  cases x' with
  |nor=>exact ⟨m,Nat.lt_succ_self m,keep l e3,h3,t3,n3,ka_ e3 l,rfl,hx⟩
  |exit b=>exact ⟨.exit b,e3,h3,t3,n3,rfl,rfl,rfl,hx⟩
  |ret=>exact ⟨.ret,e3,h3,t3,n3,rfl,rfl,rfl,hx⟩
theorem mx_ {t:Tk} {h:Hp} {e:Ev} (l:List Nat):(store (subH l e h) .nil).Sub (store h t):=ej_ _
theorem cp_ {bs en:Nat→Option (List Nat)} {ne:Md} (hne:NeOk P ne) (hm:P.follows .mixedOrders=true) (hc:bh_ P call) (hp:Same pu call) (hpp:Pure P pu call) (hp2:Pure P ne.pu call) (hR:R.fine):∀ (c:Code),okC ntm tr c=true→∀ (b:Nat) (e:Ev) (h:Hp) (t:Tk) (n:Nat) (K:Kx),runC P bs en ne pu tr lv fuel call c b e h t n K=R→awp P ntm c (PX K R) (env e) (toSt h t n)
 |.skip,_,b,e,h,t,n,K,hr=>ag_ ⟨.nor,e,h,t,n,rfl,rfl,rfl,hr⟩
 |.region id ops false,ho,b,e,h,t,n,K,hr=>by
  have key:=cK_ (P:=P) (n:=ntm) (id:=id) (l:=ops.toList) (Q:=PX K R) (e:=env e) (σ:=toSt h t n) (by simpa [okC] using ho) (by
   have:=ku_ (P:=P) (ops:=ops) hne hc hp2 hR ops.toList e h t n (fun e h t n=>K .nor e h t n) hr
   rw [Array.toArray_toList]
   exact fm_ (fun e s ⟨e',h',t',n',h1,h2,h3⟩=>⟨.nor,e',h',t',n',rfl,h1,h2,h3⟩) this)
  rwa [Array.toArray_toList] at key
 |.region id ops true,ho,b,e,h,t,n,K,hr=>by
  cases hen:en id with
  |some l =>
   have hr2:fi_ P ops (subN (fz_ l e h) h) .nil (tr id) false e h t n (fun e h t n=>K .nor e h t n)=R:=by
    have:(Option.rec (Option.rec (fj_ P true ne pu ops call h t (tr id) false e h t n fun e h t n=>K .nor e h t n) (fun l=>fj_ P false ne pu ops call (subH l e h) .nil (tr id) false e h t n fun e h t n=>K .nor e h t n) (bs id)) (fun l=>fi_ P ops (subN (fz_ l e h) h) .nil (tr id) false e h t n fun e h t n=>K .nor e h t n) (en id):Res)=R:=hr
    rw [hen] at this;exact this
   have key:=b1_ (P:=P) (n:=ntm) (id:=id) (l:=ops.toList) (Q:=fun ex e s=>ex=.normal∧PW (fun e h t n=>K .nor e h t n) R e s) (e:=env e) (s0:=toSt (subN (fz_ l e h) h) .nil n) (σ:=toSt h t n) (ej_ _) (tr id) hm (by rw [Array.toArray_toList];exact ho) (by
    have:=dE_ (P:=P) (ops:=ops) (h0:=subN (fz_ l e h) h) (t0:=.nil) (n0:=n) hR _ (tr id) (Nat.lt_succ_self _) false e h t n (fun e h t n=>K .nor e h t n) (.inr (ej_ _)) hr2
    rw [Array.toArray_toList]
    exact aZ_ (fun e s hp=>⟨rfl,hp⟩) this)
   rw [Array.toArray_toList] at key
   exact lx_ key fun ex e s ⟨hx,e',h',t',n',h1,h2,h3⟩=>⟨env e',h1,by subst hx;exact ⟨.nor,e',h',t',n',rfl,rfl,h2,h3⟩⟩
  |none =>
  have hr':(Option.rec (fj_ P true ne pu ops call h t (tr id) false e h t n fun e h t n=>K .nor e h t n) (fun l=>fj_ P false ne pu ops call (subH l e h) .nil (tr id) false e h t n fun e h t n=>K .nor e h t n) (bs id):Res)=R:=by
   have:(Option.rec (Option.rec (fj_ P true ne pu ops call h t (tr id) false e h t n fun e h t n=>K .nor e h t n) (fun l=>fj_ P false ne pu ops call (subH l e h) .nil (tr id) false e h t n fun e h t n=>K .nor e h t n) (bs id)) (fun l=>fi_ P ops (subN (fz_ l e h) h) .nil (tr id) false e h t n fun e h t n=>K .nor e h t n) (en id):Res)=R:=hr
   rw [hen] at this;exact this
  obtain ⟨fl,hb,tb,hsb,hr2⟩:∃ (fl:Bool) (hb:Hp) (tb:Tk),(store hb tb).Sub (store h t)∧fj_ P fl ne pu ops call hb tb (tr id) false e h t n (fun e h t n=>K .nor e h t n)=R:=by
   cases hbs:bs id with
   |none=>rw [hbs] at hr';exact ⟨true,h,t,.refl _,hr'⟩
   |some l=>rw [hbs] at hr';exact ⟨false,subH l e h,.nil,mx_ l,hr'⟩
  have key:=b1_ (P:=P) (n:=ntm) (id:=id) (l:=ops.toList) (Q:=PX K R) (e:=env e) (s0:=toSt hb tb n) (σ:=toSt h t n) hsb (tr id) hm (by rw [Array.toArray_toList];exact ho) (by
   have:=bn_ (P:=P) (ops:=ops) (h0:=hb) (t0:=tb) (n0:=n) hne hc hp hpp hp2 hR (tr id) false e h t n (fun e h t n=>K .nor e h t n) (.inr hsb) hr2
   rw [Array.toArray_toList]
   exact aZ_ (fun e s ⟨e',h',t',n',h1,h2,h3⟩=>⟨.nor,e',h',t',n',rfl,h1,h2,h3⟩) this)
  rwa [Array.toArray_toList] at key
 |.seq x y,ho,b,e,h,t,n,K,hr=>by
  simp only [okC,Bool.and_eq_true] at ho
  refine ac_ (awp.mono (cp_ hne hm hc hp hpp hp2 hR x ho.1 b e h t n _ hr) ?_)
  rintro ex e2 s2 ⟨x',e3,h3,t3,n3,rfl,rfl,rfl,hx⟩
  cases x' with
  |nor=>exact cp_ hne hm hc hp hpp hp2 hR y ho.2 b _ _ _ _ _ hx
  |exit i=>exact ⟨.exit i,e3,h3,t3,n3,rfl,rfl,rfl,hx⟩
  |ret=>exact ⟨.ret,e3,h3,t3,n3,rfl,rfl,rfl,hx⟩
 |.cond c x y,ho,b,e,h,t,n,K,hr=>by
  simp only [okC,Bool.and_eq_true] at ho
  obtain ⟨v,hv,hr⟩:=hf_ hR (show asBool (ev c e) _=R from hr)
  rw [ax_] at hv
  refine df_ hv (fun hv=>?_) (fun hv=>?_)
  ·subst hv;exact cp_ hne hm hc hp hpp hp2 hR x ho.1 b _ _ _ _ _ hr
  ·subst hv;exact cp_ hne hm hc hp hpp hp2 hR y ho.2 b _ _ _ _ _ hr
 |.block id c,ho,b,e,h,t,n,K,hr=>by
  refine ah_ (awp.mono (cp_ hne hm hc hp hpp hp2 hR c ho id e h t n _ hr) ?_)
  rintro ex e2 s2 ⟨x',e3,h3,t3,n3,rfl,rfl,rfl,hx⟩
  cases x' with
  |nor=>exact ⟨.nor,e3,h3,t3,n3,rfl,rfl,rfl,hx⟩
  |exit i =>
   have hx':cd (Nat.beq i id) (K .nor e3 h3 t3 n3) (K (.exit i) e3 h3 t3 n3)=R:=hx
   show if i=id then PX K R .normal _ _ else PX K R (.exit i) _ _
   cases hb:Nat.beq i id with
   |true=>rw [hb] at hx';rw [if_pos (ao_ hb)];exact ⟨.nor,e3,h3,t3,n3,rfl,rfl,rfl,hx'⟩
   |false=>rw [hb] at hx';rw [if_neg (dg_ hb)];exact ⟨.exit i,e3,h3,t3,n3,rfl,rfl,rfl,hx'⟩
  |ret=>exact ⟨.ret,e3,h3,t3,n3,rfl,rfl,rfl,hx⟩
 |.loop c,ho,b,e,h,t,n,K,hr=>l3_ (fuel:=fuel) (l:=lv b) hR (fun e h t n K hr=>cp_ hne hm hc hp hpp hp2 hR c ho b e h t n K hr) hr
 |.rangeFunc _ _ _ _,_,b,e,h,t,n,K,hr=>by subst hr;exact hR.elim
 |.exit id,_,b,e,h,t,n,K,hr=>aM_ ⟨.exit id,e,h,t,n,rfl,rfl,rfl,hr⟩
 |.scope c,ho,b,e,h,t,n,K,hr=>jq_ (cp_ hne hm hc hp hpp hp2 hR c ho b e h t n K hr) fun l e s ⟨x',_,_,_,_,hx,_⟩=>by cases x' <;> cases hx
 |.label l,_,b,e,h,t,n,K,hr=>jp_ ⟨.nor,e,h,t,n,rfl,rfl,rfl,hr⟩
 |.goto _,_,b,e,h,t,n,K,hr=>by subst hr;exact hR.elim
 |.ret,_,b,e,h,t,n,K,hr=>aq_ ⟨.ret,e,h,t,n,rfl,rfl,rfl,hr⟩
 |.refuse _,_,b,e,h,t,n,K,hr=>by subst hr;exact hR.elim
theorem d8_:∀ (l:List AVal) (k:Nat),env (eC_ l k)=dL_ k l
 |[],k=>rfl
 |a :: l,k=>by
  show env (.cons k a (eC_ l (k + 1)))=upd (dL_ (k + 1) l) k a
  rw [h6_,d8_ l]
def SpOk (P:Program) (sp:Nat→Option (Cl→Cl→Cl)):Prop:=∀ f g,sp f=some g→∀ body call:Cl,bh_ P body→bh_ P call→∀ args h t n v h' t' n',g body call f args h t n=.ok v h' t' n'→ACalls P f args (toSt h t n) fun a s=>a=v∧s=toSt h' t' n'
def fO_ (P:Program) (T:Tab):Prop:=(∀ f,T.ok f=true→okF P T.tr f=true)∧(∀ f,T.ne f=true→bL_ P f=some Extern.AbiNoEscape.same)∧SpOk P T.sp
theorem fU_ {T:Tab} {pu:Nat→Bool} (hT:fO_ P T) (hm:P.follows .mixedOrders=true) (hc:bh_ P call) (hp:Same pu call) (hpp:Pure P pu call) {f:FuncId} {args:List AVal} {h:Hp} {t:Tk} {n:Nat} {v:AVal} {h':Hp} {t':Tk} {n':Nat} (hr:lB_ P T fuel pu call f args h t n=.ok v h' t' n') :
  ACalls P f args (toSt h t n) fun a s=>a=v∧s=toSt h' t' n':=by
 obtain ⟨R,hRe⟩:∃ R,R=Res.ok v h' t' n':=⟨_,rfl⟩
 rw [← hRe] at hr
 have hR:R.fine:=by rw [hRe];exact trivial
 obtain ⟨fn,hf,hr⟩:=ae_ hR hr
 obtain ⟨c,hb,hr⟩:=ae_ hR hr
 obtain ⟨hcnd,hr⟩:=af_ hR hr
 simp only [Bool.and_eq_true] at hcnd
 have hok:okC fn.ntmps (T.tr f) c=true:=by
  have:=hT.1 f hcnd.2
  unfold okF at this
  rw [hf] at this
  simpa only [hb] using this
 refine ek_ hf hb (Nat.le_of_ble_eq_true hcnd.1) ?_
 rw [← d8_]
 refine awp.mono (cp_ (ne:=⟨T.ne,T.wr f,pu⟩) hT.2.1 hm hc hp hpp hpp hR c hok 0 _ _ _ _ _ hr) ?_
 have fin:∀ {e3 h3 t3 n3},opt 60 (aret P fn.results.toList (env e3) (store h3 t3)) (fun v=>.ok v h3 t3 n3)=R→∃ w,aret P fn.results.toList (env e3) (store h3 t3)=some w∧w=v∧toSt h3 t3 n3=toSt h' t' n':=fun hx=>by
  obtain ⟨w,hw,hx⟩:=ae_ hR hx
  rw [hRe] at hx
  injection hx with h1 h2 h3 h4
  exact ⟨w,hw,h1,by rw [h2,h3,h4]⟩
 rintro ex e2 s2 ⟨x',e3,h3,t3,n3,rfl,rfl,rfl,hx⟩
 cases x' with
 |nor=>exact fin hx
 |exit i=>subst hx;exact hR.elim
 |ret=>exact fin hx
theorem fV_ {T:Tab} (hT:fO_ P T) (hm:P.follows .mixedOrders=true) (hc:bh_ P call) (hp:Same T.pu call) (hpp:Pure P T.pu call) {f:FuncId} {args:List AVal} {h:Hp} {t:Tk} {n:Nat} {v:AVal} {h':Hp} {t':Tk} {n':Nat} (hr:gw_ P T fuel call f args h t n=.ok v h' t' n') :
  ACalls P f args (toSt h t n) fun a s=>a=v∧s=toSt h' t' n':=by
 unfold gw_ at hr
 cases hn:T.np f with
 |false=>rw [hn] at hr;exact fU_ hT hm hc hp hpp hr
 |true =>
  rw [hn] at hr
  have e:∀ g args h t n,T.wr g=false→lG_ P T fuel call g args h t n=call g args h t n:=fun g args h t n hw=>by
   unfold lG_
   rw [hw]
  have hx:∀ g,puX T g=true→T.pu g=true∧T.wr g=false:=fun g hg=>by
   unfold puX at hg
   rw [Bool.and_eq_true] at hg
   exact ⟨hg.1,by cases hw:T.wr g with
    |false=>rfl
    |true=>rw [hw] at hg;cases hg.2⟩
  refine fU_ hT hm ?_ ?_ ?_ hr
  ·intro g args h t n v h' t' n' hcall
   cases hw:T.wr g with
   |false=>rw [e _ _ _ _ _ hw] at hcall;exact hc _ _ _ _ _ _ _ _ _ hcall
   |true =>
    unfold lG_ at hcall
    rw [hw] at hcall
    exact fU_ hT hm hc hp hpp hcall
  ·intro g args h t n v h' t' n' hg hcall
   obtain ⟨h1,h2⟩:=hx g hg
   rw [e _ _ _ _ _ h2] at hcall
   exact hp _ _ _ _ _ _ _ _ _ h1 hcall
  ·intro g args v h' t' n' hg hcall
   obtain ⟨h1,h2⟩:=hx g hg
   rw [e _ _ _ _ _ h2] at hcall
   exact hpp _ _ _ _ _ _ h1 hcall
theorem mb_ {T:Tab} (hT:fO_ P T) (hm:P.follows .mixedOrders=true) (hc:bh_ P call) (hp:Same T.pu call) (hpp:Pure P T.pu call) {f:FuncId} {args:List AVal} {h:Hp} {t:Tk} {n:Nat} {v:AVal} {h':Hp} {t':Tk} {n':Nat} (hr:ma_ P T fuel call f args h t n=.ok v h' t' n') :
  (h'=h∧t'=t∧n'=n)∧(∀ h2 t2 n2,ma_ P T fuel call f args h2 t2 n2=.ok v h2 t2 n2)∧∀ s:NSt,ACalls P f args s fun a s'=>a=v∧s'=s:=by
 obtain ⟨ha,hr⟩:=af_ (R:=.ok v h' t' n') trivial hr
 cases hb:gw_ P T fuel call f args .nil .nil 0 with
 |bad m=>rw [hb] at hr;cases hr
 |ok w h2 t2 n2 =>
  rw [hb] at hr
  obtain ⟨hn,hr⟩:=af_ (R:=.ok v h' t' n') trivial (show iff 66 (nf (bH_ (frz h2 (rows w) [] w))) _=_ from hr)
  injection hr with q1 q2 q3 q4
  subst q1;subst q2;subst q3;subst q4
  refine ⟨⟨rfl,rfl,rfl⟩,fun h3 t3 n3=>?_,?_⟩
  ·unfold ma_
   rw [ha,hb]
   show iff 66 (nf (bH_ (frz h2 (rows w) [] w))) _=_
   rw [hn];rfl
  ·refine fun s0=>ACalls.pure (N:=fun o=>0≤o) (v:=bH_ (frz h2 (rows w) [] w)) ((fV_ hT hm hc hp hpp hb).mono fun a s ⟨h1,hs⟩ κ cv hN hv=>?_) ha hn ⟨rfl,rfl⟩
   rw [h1] at hv
   rw [hs] at hN
   obtain ⟨κ2,σ2,r1,r2,r3,r4,_⟩:=h8_ (h:=h2) (rows w) [] hN.1 (fun _ _=>rfl) hv
   exact ⟨κ2,σ2,r1,r2,r3,gj_ r4⟩
def iL_ (P:Program) (nat:Nat→List AVal→Option AVal):Prop:=∀ f args v,nat f args=some v→∀ s:NSt,ACalls P f args s fun a s'=>a=v∧s'=s
theorem mc_ {T:Tab} (hT:fO_ P T) (hm:P.follows .mixedOrders=true) (hn:iL_ P T.nat) (hc:bh_ P call) (hp:Same T.pu call) (hpp:Pure P T.pu call) {f:FuncId} {args:List AVal} {h:Hp} {t:Tk} {n:Nat} {v:AVal} {h':Hp} {t':Tk} {n':Nat} (hr:hD_ P T fuel call f args h t n=.ok v h' t' n') :
  (h'=h∧t'=t∧n'=n)∧(∀ h2 t2 n2,hD_ P T fuel call f args h2 t2 n2=.ok v h2 t2 n2)∧∀ s:NSt,ACalls P f args s fun a s'=>a=v∧s'=s:=by
 unfold hD_ at hr
 cases hna:T.nat f args with
 |none =>
  rw [hna] at hr
  obtain ⟨h1,h2,h3⟩:=mb_ hT hm hc hp hpp hr
  exact ⟨h1,fun h4 t4 n4=>by unfold hD_;rw [hna];exact h2 h4 t4 n4,h3⟩
 |some w =>
  rw [hna] at hr
  injection hr with q1 q2 q3 q4
  subst q1;subst q2;subst q3;subst q4
  exact ⟨⟨rfl,rfl,rfl⟩,fun h4 t4 n4=>by unfold hD_;rw [hna],hn _ _ _ hna⟩
theorem d7_ {T:Tab} (hT:fO_ P T) (hm:P.follows .mixedOrders=true) (hn:iL_ P T.nat):∀ depth,bh_ P (d0_ P T fuel depth)∧Same T.pu (d0_ P T fuel depth)∧Pure P T.pu (d0_ P T fuel depth)
 |0=>⟨fun _ _ _ _ _ _ _ _ _ h=>(by cases h),fun _ _ _ _ _ _ _ _ _ _ h=>(by cases h),fun _ _ _ _ _ _ _ h=>(by cases h)⟩
 |d + 1=>by
  obtain ⟨hc,hp,hpp⟩:=d7_ hT hm hn d
  have key:∀ f args h t n v h' t' n',d0_ P T fuel (d + 1) f args h t n=.ok v h' t' n'→(T.pu f=true→(h'=h∧t'=t∧n'=n)∧∀ s:NSt,ACalls P f args s fun a s'=>a=v∧s'=s)∧ACalls P f args (toSt h t n) fun a s=>a=v∧s=toSt h' t' n':=by
   intro f args h t n v h' t' n' hr
   have hr':(Bool.rec (Option.rec (gw_ P T fuel (d0_ P T fuel d) f args h t n) (fun g=>g (gw_ P T fuel (d0_ P T fuel d)) (d0_ P T fuel d) f args h t n) (T.sp f)) (hD_ P T fuel (d0_ P T fuel d) f (bm_ args) h t n) (T.pu f):Res)=.ok v h' t' n':=hr
   cases hpu:T.pu f with
   |false =>
    rw [hpu] at hr'
    refine ⟨fun h=>(by cases h),?_⟩
    cases hsp:T.sp f with
    |none=>rw [hsp] at hr';exact fV_ hT hm hc hp hpp hr'
    |some g=>rw [hsp] at hr';exact hT.2.2 f g hsp _ _ (fun _ _ _ _ _ _ _ _ _ hb=>fV_ hT hm hc hp hpp hb) hc _ _ _ _ _ _ _ _ hr'
   |true =>
    rw [hpu] at hr'
    obtain ⟨h1,_,h2⟩:=mc_ hT hm hn hc hp hpp hr'
    refine ⟨fun _=>⟨h1,fun s=>gk_ (h2 s)⟩,?_⟩
    obtain ⟨rfl,rfl,rfl⟩:=h1
    exact gk_ (h2 _)
  exact ⟨fun f args h t n v h' t' n' hr=>(key f args h t n v h' t' n' hr).2,fun f args h t n v h' t' n' hpu hr=>((key f args h t n v h' t' n' hr).1 hpu).1,fun f args v h' t' n' hpu hr=>((key f args _ _ _ v h' t' n' hr).1 hpu).2⟩
theorem ran {T:Tab} (hT:fO_ P T) (hm:P.follows .mixedOrders=true) (hn:iL_ P T.nat) {depth:Nat} {f:FuncId} {args:List AVal} {v:AVal} {h':Hp} {t':Tk} {n':Nat} (hpu:T.pu f=true) (hr:d0_ P T fuel depth f args .nil .nil 0=.ok v h' t' n') :
  ∀ s:NSt,ACalls P f args s fun a s'=>a=v∧s'=s:=(d7_ hT hm hn depth).2.2 f args v h' t' n' hpu hr
end
end Go.Nb
end

section
set_option linter.all false
set_option maxRecDepth 100000
namespace Go.Nb
open Go.Ab Go.RowKit
noncomputable section
mutual
def wkb:AVal→AVal→Bool
 |.lit a,.lit b=>veq a b
 |.lit (.slice none 0 0),.sl _ [] _=>true
 |.agg a,.agg b=>wkbL a b
 |.tup a,.tup b=>wkbL a b
 |.sl s a _,.sl s' b false=>Nat.beq s s' && (b.all (fun x=>Nat.beq x.cells.length s') && wkbL a b)
 |_,_=>false
def wkbL:List AVal→List AVal→Bool
 |[],[]=>true
 |a :: l,b :: m=>wkb a b && wkbL l m
 |_,_=>false
end
theorem oD_:∀ {l m:List AVal},(l.length=m.length∧∀ i (hi:i < l.length) (hj:i < m.length),Wk l[i] m[i])→∀ {a b:AVal},Wk a b→((a :: l).length=(b :: m).length∧∀ i (hi:i < (a :: l).length) (hj:i < (b :: m).length),Wk (a :: l)[i] (b :: m)[i]):=fun h _ _ h1 =>
 ⟨by rw [List.length_cons,List.length_cons,h.1],fun i hi hj=>by
  cases i with
  |zero=>exact h1
  |succ i=>exact h.2 i (Nat.lt_of_succ_lt_succ hi) (Nat.lt_of_succ_lt_succ hj)⟩
mutual
theorem nh_:∀ {a b:AVal},wkb a b=true→Wk a b
 |a,b,h=>by
  unfold wkb at h
  split at h
  ·rw [lj_ h];exact .refl _
  ·exact .nil _ _
  ·obtain ⟨h1,h2⟩:=fe_ h;exact .agg _ _ h1 h2
  ·obtain ⟨h1,h2⟩:=fe_ h;exact .tup _ _ h1 h2
  ·simp only [Bool.and_eq_true] at h
   obtain ⟨h1,h2⟩:=fe_ h.2.2
   rw [ao_ h.1]
   exact .sl _ _ _ _ h1 (fun x hx=>ao_ (List.all_eq_true.1 h.2.1 x hx)) h2
  ·cases h
theorem fe_:∀ {l m:List AVal},wkbL l m=true→l.length=m.length∧∀ i (hi:i < l.length) (hj:i < m.length),Wk l[i] m[i]
 |[],[],_=>⟨rfl,fun i hi=>by cases hi⟩
 |a :: l,b :: m,h=>by
  rw [wkbL,Bool.and_eq_true] at h
  exact oD_ (fe_ h.2) (nh_ h.1)
end
abbrev Ran:=Nat × List AVal × AVal
def d3_ (l:List Ran) (f:Nat) (args:List AVal):Option AVal:=List.rec (motive:=fun _=>Option AVal) none (fun e _ r=>Bool.rec r (Bool.rec r (some e.2.2) (wkbL args e.2.1)) (Nat.beq e.1 f)) l
def bt_ (P:Program) (e:Ran):Prop:=∀ s:NSt,ACalls P e.1 e.2.1 s fun a s'=>a=e.2.2∧s'=s
theorem ACalls.wkA {P:Program} {f:Nat} {args args':List AVal} {s:NSt} {Q:AVal→NSt→Prop} (hw:args.length=args'.length∧∀ i (hi:i < args.length) (hj:i < args'.length),Wk args[i] args'[i]) (h:ACalls P f args' s Q):ACalls P f args s Q:=fun κ vs hI hsz hv =>
 h κ vs hI (hsz.trans hw.1) fun i hi=>(hv i (by rw [hw.1];exact hi)).wk (hw.2 i _ hi)
theorem ACalls.wkR {P:Program} {f:Nat} {args:List AVal} {s s':NSt} {w v:AVal} (hw:Wk w v) (h:ACalls P f args s fun a s2=>a=w∧s2=s'):ACalls P f args s fun a s2=>a=v∧s2=s':=fun κ vs hI hsz hv =>
 (h κ vs hI hsz hv).mono fun e w' ⟨cv,he,κ',a,s2,h1,h2,h3,h4,h5,h6⟩=>⟨cv,he,κ',v,s2,h1,h2,h3,by rw [h5] at h4;exact h4.wk hw,rfl,h6⟩
theorem bz_ {P:Program}:∀ (l:List Ran),(∀ e∈l,bt_ P e)→iL_ P (d3_ l)
 |[],_,f,args,v,h=>by cases h
 |e :: l,hl,f,args,v,h=>by
  have h':(Bool.rec (d3_ l f args) (Bool.rec (d3_ l f args) (some e.2.2) (wkbL args e.2.1)) (Nat.beq e.1 f):Option AVal)=some v:=h
  have rest:d3_ l f args=some v→∀ s:NSt,ACalls P f args s fun a s'=>a=v∧s'=s:=fun h=>bz_ l (fun e he=>hl e (List.mem_cons_of_mem _ he)) f args v h
  cases h1:Nat.beq e.1 f with
  |false=>rw [h1] at h';exact rest h'
  |true =>
   rw [h1] at h'
   cases h2:wkbL args e.2.1 with
   |false=>rw [h2] at h';exact rest h'
   |true =>
    rw [h2] at h'
    obtain rfl:=Option.some.inj h'
    have:=hl e (List.mem_cons_self ..)
    unfold bt_ at this
    rw [ao_ h1] at this
    exact fun s=>ACalls.wkA (fe_ h2) (this s)
def ranB (P:Program) (T:Tab) (fuel depth:Nat) (e:Ran):Bool:=T.pu e.1 && (match d0_ P T fuel depth e.1 e.2.1 .nil .nil 0 with
 |.ok w _ _ _=>wkb w e.2.2
 |.bad _=>false)
theorem fF_ {P:Program} {T:Tab} {fuel depth:Nat} {e:Ran} (hT:fO_ P T) (hm:P.follows .mixedOrders=true) (hn:iL_ P T.nat) (h:ranB P T fuel depth e=true):bt_ P e:=by
 unfold ranB at h
 rw [Bool.and_eq_true] at h
 obtain ⟨hpu,h⟩:=h
 split at h
 ·rename_i w h' t' n' hr
  exact fun s=>ACalls.wkR (nh_ h) (ran hT hm hn hpu hr s)
 ·cases h
theorem bt_.of {P:Program} {f:Nat} {args:List AVal} {v:AVal} (h:∀ σ,Ab.ACalls P f args σ fun a σ'=>a=v∧σ=σ') (hv:nf v=true):bt_ P (f,args,v):=fun s=>ACalls.of0 (h s.st) hv ⟨rfl,rfl⟩
theorem toAb {P:Program} {f:Nat} {args:List AVal} {σ:Store} {v:AVal} (h:∀ s:NSt,ACalls P f args s fun a s'=>a=v∧s'=s):Ab.ACalls P f args σ fun a σ'=>a=v∧σ'=σ:=fun κ vs hI hsz hv =>
 (h ⟨σ,fun _=>False⟩ κ vs ⟨hI,fun _ h=>h.elim⟩ hsz hv).mono fun e w' ⟨cv,he,κ',a,s',h1,h2,h3,h4,h5,h6⟩=>⟨cv,he,κ',a,s'.st,h1,h2,h3.1,h4,h5,by rw [h6]⟩
end
end Go.Nb
end

section
set_option linter.all false
set_option maxRecDepth 100000
namespace Go.Nb
open Go.Ab Go.RowKit
theorem cN_ {σ:Store} {i j:Nat} {x y:AObj} (h:i≠j):(σ.set i x).set j y=(σ.set j y).set i x:=by
 unfold Store.set
 simp only [Store.mk.injEq,and_true]
 funext k
 by_cases h1:k=j
 ·subst h1;simp [Ne.symm h]
 ·simp [h1]
theorem Rv.reX {κ:K} {X:Nat→Obj} {a:AVal} {v:Value} (h:Rv κ a v):Rv { κ with X:=X } a v:=by
 induction h with
 |any v=>exact .any v
 |lit v=>exact .lit v
 |agg cs vs hn _ ih=>exact .agg cs vs hn ih
 |tup cs vs hn _ ih=>exact .tup cs vs hn ih
 |slNil sz t=>exact .slNil sz t
 |slE sz t a=>exact .slE sz t a
 |sl sz l t b off cap vals hcap ht hsz hc _ ih=>exact .sl sz l t b off cap vals hcap ht hsz hc ih
 |own t sz l v _ ht ih=>exact .own t sz l v ih ht
 |msl o sz off len b cap n e hb hlen hs hn=>exact .msl o sz off len b cap n e hb hlen hs hn
 |ref o off b hb=>exact .ref o off b hb
 |ro a b off vals hc _ ih=>exact .ro a b off vals hc ih
 |map o b hb=>exact .map o b hb
 |fn f first captured vs ws hn _ hm _ ih ih'=>exact .fn f first captured vs ws hn ih hm ih'
 |iface t a v _ ih=>exact .iface t a v ih
 |nilp o e n b hb hs=>exact .nilp o e n b hb hs
 |sdp0 k a=>exact .sdp0 k a
 |sdp k l b c _ ht ih=>exact .sdp k l b c ih ht
 |mslc o sz off len cap e b n hb hlen hs hn=>exact .mslc o sz off len cap e b n hb hlen hs hn
def mk (k:Nat):AObj:=.raw (.mapIter none k #[] 0)
noncomputable def isMk (k:Nat) (x:Option AObj):Bool:=match x with
 |some y=>oeq y (mk k)
 |none=>false
theorem jV_ {k:Nat} {x:Option AObj} (h:isMk k x=true):x=some (mk k):=by
 cases x with
 |none=>cases h
 |some y=>rw [ko_ (show oeq y (mk k)=true from h)]
def l8_ (x:AObj):Bool:=match x with
 |.raw (.mapIter ..)=>false
 |_=>true
def noMk:Hp→Bool
 |.nil=>true
 |.node l r v=>(match v with
  |none=>true
  |some x=>l8_ x) && (noMk l && noMk r)
theorem hC_:∀ {h:Hp},noMk h=true→∀ o x,look o h=some x→l8_ x=true
 |.nil,_,o,x,hx=>by rw [a7_] at hx;cases hx
 |.node l r v,hh,o,x,hx=>by
  simp only [noMk,Bool.and_eq_true] at hh
  obtain ⟨h1,h2,h3⟩:=hh
  rw [aF_] at hx
  split at hx
  ·subst hx;exact h1
  ·split at hx
   ·exact hC_ h2 _ x hx
   ·exact hC_ h3 _ x hx
theorem ORel.reX {κ:K} {X:Nat→Obj} {x:AObj} {b:Nat} (hx:l8_ x=true) (h:ORel κ x b):ORel { κ with X:=X } x b:=by
 cases x with
 |cells cs=>obtain ⟨c,e,h1,h2,h3⟩:=h;exact ⟨c,e,h1,h2,fun i hi=>Rv.reX (h3 i hi)⟩
 |map kvs=>obtain ⟨es,cl,h1,h2,h3,h4,h5⟩:=h;exact ⟨es,cl,h1,h2,h3,h4,fun i hi hj=>⟨(h5 i hi hj).1,Rv.reX (h5 i hi hj).2⟩⟩
 |raw o=>cases o <;> first | exact h | cases hx
 |mapIter m s se st=>exact h
theorem Inv.reX {κ:K} {σ σ':Store} (X:Nat→Obj) (h:Inv κ σ) (hh:∀ o x',σ'.heap o=some x'→∃ x,σ.heap o=some x∧∀ b,ORel κ x b→ORel { κ with X:=X } x' b) (ht:∀ t p,σ'.tok t=some p→σ.tok t=some p):Inv { κ with X:=X } σ' where
 glob:=h.glob
 base:=h.base
 heap o x e:=by
  obtain ⟨y,e2,hr⟩:=hh o x e
  obtain ⟨b,q1,q2,q3,q4⟩:=h.heap o y e2
  exact ⟨b,q1,q2,q3,hr b q4⟩
 inj o o' x x' b e e' hb hb':=by
  obtain ⟨y,e2,_⟩:=hh o x e
  obtain ⟨y',e2',_⟩:=hh o' x' e'
  exact h.inj o o' y y' b e2 e2' hb hb'
 tok t sz e:=h.tok t sz (ht t sz e)
 tokinj t t' sz sz' v v' b e e':=h.tokinj t t' sz sz' v v' b (ht _ _ e) (ht _ _ e')
 tokobj t sz v b o x e hv hb ho:=by
  obtain ⟨y,e2,_⟩:=hh o x ho
  exact h.tokobj t sz v b o y (ht _ _ e) hv hb e2
 frO:=h.frO
 frT:=h.frT
 frI:=h.frI
def exS (s:NSt) (nL nD:Nat) (r d:Obj):NSt:=⟨(s.st.set nL (.raw r)).set nD (.raw d),s.fr⟩
def two (r d:Obj) (k:Nat):Obj:=match k with
 |0=>r
 |_=>d
def b2_ (o:Obj):Prop:=(∀ c e f,o≠.cells c e f)∧∀ X,unr X o=o
section
variable {κ:K} {h:Hp} {t:Tk} {n nL nD:Nat} {r d:Obj}
structure Kept (h:Hp) (nL nD:Nat):Prop where
 ne:nL≠nD
 l:look nL h=some (mk 0)
 d:look nD h=some (mk 1)
 no:∀ o x,o≠nL→o≠nD→look o h=some x→l8_ x=true
theorem kf_ (hk:Kept h nL nD) (hr:b2_ r) (hd:b2_ d) (hN:NInv κ (exS (toSt h t n) nL nD r d)):NInv { κ with X:=two r d } (toSt h t n):=by
 refine ⟨Inv.reX _ hN.1 (fun o x' e=>?_) (fun _ _ e=>e),fun o ho=>hN.2 o ho⟩
 have e':look o h=some x':=e
 by_cases h1:o=nD
 ·subst h1
  obtain rfl:=Option.some.inj (hk.d.symm.trans e')
  exact ⟨.raw d,Store.set_get ..,fun b hb=>⟨by have:=hb.1;rw [hd.2] at this;exact this,fun _ _ _ hc=>by cases hc⟩⟩
 ·by_cases h2:o=nL
  ·subst h2
   obtain rfl:=Option.some.inj (hk.l.symm.trans e')
   exact ⟨.raw r,by show (((store h t).set o (.raw r)).set nD (.raw d)).heap o=_;rw [Store.set_ne _ _ h1];exact Store.set_get ..,fun b hb=>⟨by have:=hb.1;rw [hr.2] at this;exact this,fun _ _ _ hc=>by cases hc⟩⟩
  ·exact ⟨x',by show (((store h t).set nL (.raw r)).set nD (.raw d)).heap o=_;rw [Store.set_ne _ _ h1,Store.set_ne _ _ h2];exact e',fun b hb=>ORel.reX (hk.no o x' h2 h1 e') hb⟩
theorem hy_ (X:Nat→Obj) (hk:Kept h nL nD) (hr:b2_ r) (hd:b2_ d) (hX:κ.X=two r d) (hN:NInv κ (toSt h t n)):NInv { κ with X:=X } (exS (toSt h t n) nL nD r d):=by
 refine ⟨Inv.reX _ hN.1 (fun o x' e=>?_) (fun _ _ e=>e),fun o ho=>hN.2 o ho⟩
 have e':(((store h t).set nL (.raw r)).set nD (.raw d)).heap o=some x':=e
 by_cases h1:o=nD
 ·subst h1
  rw [Store.set_get] at e'
  obtain rfl:=Option.some.inj e'
  exact ⟨mk 1,hk.d,fun b hb=>⟨by have:=hb.1;rw [hX] at this;rw [hd.2];exact this,hd.1⟩⟩
 ·rw [Store.set_ne _ _ h1] at e'
  by_cases h2:o=nL
  ·subst h2
   rw [Store.set_get] at e'
   obtain rfl:=Option.some.inj e'
   exact ⟨mk 0,hk.l,fun b hb=>⟨by have:=hb.1;rw [hX] at this;rw [hr.2];exact this,hr.1⟩⟩
  ·rw [Store.set_ne _ _ h2] at e'
   exact ⟨x',e',fun b hb=>ORel.reX (hk.no o x' h2 h1 e') hb⟩
theorem nC_ {r':Obj} (hne:nL≠nD) (hr:b2_ r) (hr':b2_ r') {s:NSt} (hN:NInv κ (exS s nL nD r d)) :
  ∃ b,κ.ρ nL=some b∧κ.w.heap[b]?=some r∧κ.Le { κ with w:=κ.w.putObj b r' }∧NInv { κ with w:=κ.w.putObj b r' } (exS s nL nD r' d):=by
 obtain ⟨b,h1,h2,h3,h4⟩:=hN.1.setRaw (i:=nL) (x:=r) (y:=r') (by show (((s.st.set nL (.raw r)).set nD (.raw d)).heap nL)=_;rw [Store.set_ne _ _ hne];exact Store.set_get ..) hr'.1 (hr.2 _) (hr'.2 _)
 refine ⟨b,h1,h2,h3,?_,hN.2⟩
 have e:((s.st.set nL (.raw r)).set nD (.raw d)).set nL (.raw r')=(s.st.set nL (.raw r')).set nD (.raw d):=by
  rw [cN_ (Ne.symm hne),Store.set_set]
 have h5:=h4
 show Inv _ ((s.st.set nL (.raw r')).set nD (.raw d))
 rw [← e]
 exact h5
theorem sm_ {s:NSt} (hne:nL≠nD) (hr:b2_ r) (hd:b2_ d) (hN:NInv κ (exS s nL nD r d)):∃ a b,κ.ρ nL=some a∧κ.ρ nD=some b∧κ.w.heap[a]?=some r∧κ.w.heap[b]?=some d:=by
 obtain ⟨a,h1,_,_,h2,_⟩:=hN.1.heap nL (.raw r) (by show (((s.st.set nL (.raw r)).set nD (.raw d)).heap nL)=_;rw [Store.set_ne _ _ hne];exact Store.set_get ..)
 obtain ⟨b,h3,_,_,h4,_⟩:=hN.1.heap nD (.raw d) (Store.set_get ..)
 rw [hr.2] at h2
 rw [hd.2] at h4
 exact ⟨a,b,h1,h3,h2,h4⟩
end
end Go.Nb
end
