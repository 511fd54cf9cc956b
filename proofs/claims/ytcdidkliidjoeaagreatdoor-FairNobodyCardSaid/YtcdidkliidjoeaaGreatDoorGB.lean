/-
  THE OPERATIONS THAT CHANGE THE STORE: new variables,stores,calls,slices made and appended to; SLICES THAT GROW: append to a slice of one's own (a token goes from hand to hand),slices written out; BYTES: a string's bytes as a slice;append to a slice that has no room (or to nil),of a slice's elements or a string's bytes;append of a string's bytes to a slice of one's own; INTERFACES,MAPS,SLICES THAT ARE WRITTEN: calls by an interface;maps made,written,taken from;append to a slice whose cells are written,too; SLICES THAT ARE WRITTEN: append to a slice into an object (its name goes to a new one); A REGION THAT DRAWS ITS ORDER,over abstract states: one walk in an order of one's choice serves every order,if (checked by the kernel) each operation that only looks is taken as soon as it may be,every other one alone when nothing else is ready, and the last ones wait for all others. Own work (an AI agent).
-/
import Derived.Test.YtcdidkliidjoeaaGreatDoorGA
import Derived.Laws.OwnMore
import Derived.Deep.AppendSrc
import Derived.Laws.IdiomStrings
import Derived.MapKept

section
set_option linter.all false
namespace Go.Ab
theorem Store.set_set (σ:Store) (o:Nat) (x y:AObj):(σ.set o x).set o y=σ.set o y:=by
 unfold Store.set
 congr 1
 funext i
 dsimp only
 split <;> rfl
theorem Store.set_get (σ:Store) (o:Nat) (x:AObj):(σ.set o x).heap o=some x:=by simp [Store.set]
theorem Store.set_ne (σ:Store) {o i:Nat} (x:AObj) (h:i≠o):(σ.set o x).heap i=σ.heap i:=by simp [Store.set,h]
section
variable {P:Program} {o:Oper} {α:Operand→AVal} {σ:Store} {Kk:AVal→Store→Prop}
theorem b5_ {a:AVal} (h:aval P o.op α σ=some a) (hk:Kk a σ):AOp P o α σ Kk:=by
 intro κ ev hI hx
 obtain ⟨cv,h1,h2⟩:=cb_ (o:=o) h (Store.Sub.refl σ) hI hx
 rw [h1]
 exact ⟨κ,a,σ,rfl,.refl κ,hI,h2,hk⟩
theorem d5_ {a:AVal} {σ':Store} (h:aval P o.op α σ'=some a) (hs:σ'.Sub σ) (hk:Kk a σ):AOp P o α σ Kk:=by
 intro κ ev hI hx
 obtain ⟨cv,h1,h2⟩:=cb_ (o:=o) h hs hI hx
 rw [h1]
 exact ⟨κ,a,σ,rfl,.refl κ,hI,h2,hk⟩
theorem ay_ {κ:K} {s:Sem Value} {ev:Operand→Value} (he:execOp ev o=(do pure (.value (← s)))) (h:∃ cv w',s.run P κ.w=.ok cv w'∧Post κ Kk cv w'):Upon P (Post κ Kk) ((execOp ev o).run P κ.w):=by
 obtain ⟨cv,w',h1,h2⟩:=h
 rw [he]
 simp only [Sem.run_bind,h1,Result.andThen_ok,Sem.run_pure]
 exact h2
theorem iE_ {κ:K} {s:Sem Unit} {ev:Operand→Value} (he:execOp ev o=(do s;pure .skip)) (h:∃ w',s.run P κ.w=.ok () w'∧Post κ Kk undef w'):Upon P (Post κ Kk) ((execOp ev o).run P κ.w):=by
 obtain ⟨w',h1,h2⟩:=h
 rw [he]
 simp only [Sem.run_bind,h1,Result.andThen_ok,Sem.run_pure]
 exact h2
theorem eU_ {κ:K} (hI:Inv κ σ) {cs:List AVal} {vs:Array Value} (hv:RvL κ cs vs) {e:TypeId} (hk:∀ i,σ.heap i=none→Kk (.ref i 0) (σ.set i (.cells cs))) :
  Post κ Kk (.pointer (some ⟨κ.w.heap.size,0,none⟩)) (κ.w.alloc (.cells vs e)):=by
 obtain ⟨i,hi,hfree⟩:=hI.fresh
 obtain ⟨κ',hw,hle,hρ,hI'⟩:=hI.alloc i hi (.cells cs) (.cells vs e) fun κ' hle hh _ =>
  ⟨vs,e,hh,by rw [hv.1];exact Nat.le_refl _,fun j hj=>(hv.2 j hj).mono hle⟩
 exact ⟨κ',.ref i 0,σ.set i (.cells cs),hw,hle,hI',.ref i 0 _ hρ,hk i hfree⟩
theorem AOp_alloc {t:TypeId} {z:Value} (ho:o.op=.alloc t) (hz:a4_ P t=some z) (hk:∀ i,σ.heap i=none→Kk (.ref i 0) (σ.set i (.cells (aO_ z)))):AOp P o α σ Kk:=by
 obtain ⟨dst,op,ty,pos,after,guard⟩:=o
 obtain rfl:op=.alloc t:=ho
 intro κ ev hI hx
 refine ay_ rfl ⟨.pointer (some ⟨κ.w.heap.size,0,none⟩),κ.w.alloc (.cells z.cells t),?_,eU_ hI (gn_ z) hk⟩
 simp only [Instr.alloc,Sem.run_bind,az_ hz,Result.andThen_ok,newVar,newRow,run_newObj,Sem.run_pure,World.alloc_eq]
theorem AOp_box {t:TypeId} {x:Operand} (ho:o.op=.box t x) (hs:(α x).solid=true) (hk:∀ i,σ.heap i=none→Kk (.ref i 0) (σ.set i (.cells (α x).cells))):AOp P o α σ Kk:=by
 obtain ⟨dst,op,ty,pos,after,guard⟩:=o
 obtain rfl:op=.box t x:=ho
 intro κ ev hI hx
 refine ay_ rfl ⟨.pointer (some ⟨κ.w.heap.size,0,none⟩),κ.w.alloc (.cells (ev x).cells t),?_,eU_ hI ((hx x (by simp [Op.operands])).cells hs) hk⟩
 simp only [Instr.box,Sem.run_bind,Result.andThen_ok,newVar,newRow,run_newObj,Sem.run_pure,World.alloc_eq]
theorem jm_ {cs as:List AVal} {k:Nat} {a:AVal} (h:k + (as.length + 1)≤cs.length):aput cs k (a :: as)=aput (cs.set k a) (k + 1) as:=by
 apply List.ext_getElem?
 intro i
 rw [aput_get? (by simpa using h),aput_get? (by simp;omega)]
 by_cases h1:i=k
 ·subst h1
  rw [if_pos ⟨Nat.le_refl _,by simp⟩,if_neg (by omega)]
  simp [show i < cs.length by omega]
 ·by_cases h2:k + 1≤i∧i < k + 1 + as.length
  ·rw [if_pos ⟨by omega,by simp;omega⟩,if_pos h2,show i - k=(i - (k + 1)) + 1 by omega,List.getElem?_cons_succ]
  ·rw [if_neg (by simp;omega),if_neg h2,List.getElem?_set_ne (by omega)]
theorem hZ_ (cs:List AVal) (k:Nat) (h:k≤cs.length):aput cs k []=cs:=by simp [aput]
theorem a8_ {b off:Nat} {i:Nat}:∀ (as:List AVal) (us:List Value) (j:Nat) (κ:K) (σ:Store) (cs:List AVal),Inv κ σ→σ.heap i=some (.cells cs)→κ.ρ i=some b→us.length=as.length→(∀ k (hk:k < as.length) (hk':k < us.length),Rv κ as[k] us[k]) →
  (∀ a∈as,a.one=true)→off + j + as.length≤cs.length →
  ∃ w',(storeCells ⟨b,off,none⟩ us j).run P κ.w=.ok () w'∧κ.Le { κ with w:=w' }∧Inv { κ with w:=w' } (σ.set i (.cells (aput cs (off + j) as)))
 |[],[],j,κ,σ,cs,hI,hh,hρ,_,_,_,hle=>by
  refine ⟨κ.w,by simp [storeCells],.refl κ,?_⟩
  rw [hZ_ _ _ (by omega)]
  have:σ.set i (.cells cs)=σ:=by
   unfold Store.set
   have:(fun k=>if k=i then some (AObj.cells cs) else σ.heap k)=σ.heap:=by
    funext k
    split
    ·rename_i h;subst h;exact hh.symm
    ·rfl
   rw [this]
  rw [this]
  exact hI
 |a :: as,[],_,_,_,_,_,_,_,hn,_,_,_=>by simp at hn
 |[],u :: us,_,_,_,_,_,_,_,hn,_,_,_=>by simp at hn
 |a :: as,u :: us,j,κ,σ,cs,hI,hh,hρ,hn,hv,ho,hle=>by
  simp only [List.length_cons] at hle hn
  have hu:=hv 0 (by simp) (by simp)
  simp only [List.getElem_cons_zero] at hu
  obtain ⟨b',hb',⟨q,hcell⟩,hfz,hle',hI'⟩:=hI.setCell hh (off:=off + j) (by omega) hu
  obtain rfl:b=b':=Option.some.inj (hρ.symm.trans hb')
  have hone:=(hu.one (ho a (List.mem_cons_self ..))).1
  obtain ⟨w',h1,h2,h3⟩:=a8_ (b:=b) (off:=off) (i:=i) as us (j + 1) { κ with w:=κ.w.setCell ⟨b,off + j,none⟩ u } (σ.set i (.cells (cs.set (off + j) a))) (cs.set (off + j) a) hI' (Store.set_get ..) hρ (by omega)
   (fun k hk hk'=>by
    have:=hv (k + 1) (by simp;omega) (by simp;omega)
    simp only [List.getElem_cons_succ] at this
    exact this.mono hle') (fun x hx=>ho x (List.mem_cons_of_mem _ hx)) (by simp;omega)
  refine ⟨w',?_,hle'.trans h2,?_⟩
  ·unfold storeCells
   simp only [Sem.run_bind,a6_]
   rw [run_store P κ.w _ u _ hone]
   simp only [hcell,hfz,Bool.false_eq_true,if_false,Result.andThen_ok]
   exact h1
  ·rw [Store.set_set] at h3
   rw [jm_ (k:=off + j) (by omega)]
   exact h3
theorem AOp_store {t:TypeId} {ad x:Operand} {i off size:Nat} {g:Bool} {cs:List AVal} (ho:o.op=.store t ad x) (ha:α ad=.ref i off) (hh:σ.heap i=some (.cells cs)) (ht:aQ_ P t=some (size,g))
  (hs:(α x).solid=true) (hones:∀ c∈(α x).cells,c.one=true) (hsz:(α x).cells.length=size) (hle:off + size≤cs.length) (hk:Kk .any (σ.set i (.cells (aput cs off (α x).cells)))):AOp P o α σ Kk:=by
 obtain ⟨dst,op,ty,pos,after,guard⟩:=o
 obtain rfl:op=.store t ad x:=ho
 intro κ ev hI hx
 obtain ⟨ti,d,hti,hd,rfl,_⟩:=aR_ ht
 have had:=hx ad (by simp [Op.operands])
 rw [ha] at had
 obtain ⟨b,hb,hev⟩:=had.refInv
 obtain ⟨hn,hv⟩:=(hx x (by simp [Op.operands])).cells hs
 obtain ⟨w',h1,h2,h3⟩:=a8_ (P:=P) (b:=b) (off:=off) (i:=i) (α x).cells (ev x).cells.toList 0 κ σ cs hI hh hb (by simpa using hn) (fun k hk hk'=>by
  have:=hv k hk
  simpa [show k < (ev x).cells.size by simpa using hk'] using this) hones (by omega)
 refine iE_ rfl ⟨w',?_,{ κ with w:=w' },.any,_,rfl,h2,h3,.any _,hk⟩
 simp only [Instr.storeAt,hev,Instr.sureAddr,Sem.run_bind,Sem.run_pure,Result.andThen_ok,storeVar,ar_ hti,hn,hsz]
 simpa using h1
def isGo (P:Program) (f:FuncId):Bool :=
 match P.funcs[f]? with
 |some fn=>!(fn.name == "runtime.NumGoroutine") && fn.body.isSome
 |none=>false
theorem bD_ {f:FuncId} (h:isGo P f=true) (args:Array Value) (w:World):(callFunc f args).run P w=.ok (.enter f args) w:=by
 unfold isGo at h
 split at h
 ·rename_i fn hf
  simp only [Bool.and_eq_true,Bool.not_eq_true'] at h
  unfold callFunc
  simp only [Sem.run_bind,run_program,Result.andThen_ok,hf,h.1,Bool.false_eq_true,if_false]
  rw [if_neg (by cases hb:fn.body <;> simp_all)]
  rfl
 ·cases h
theorem bY_ {c:Call} {f:Operand} {g:FuncId} {first captured:List AVal} (ho:o.op=.call c) (hc:c.callee=.value f) (hf:α f=.fn (.func g) first captured∨(α f=.lit (.func (.func g) #[] #[])∧first=[]∧captured=[])) (hg:isGo P g=true)
  (h:ACalls P g (first ++ c.args.toList.map α ++ captured) σ Kk):AOp P o α σ Kk:=by
 obtain ⟨dst,op,ty,pos,after,guard⟩:=o
 obtain rfl:op=.call c:=ho
 intro κ ev hI hx
 obtain ⟨cal,args,argTypes⟩:=c
 obtain rfl:cal=.value f:=hc
 have hfv:Rv κ (α f) (ev f):=hx f (by simp [Op.operands,Call.operands])
 obtain ⟨vs,ws,hev,hn1,h1,hn2,h2⟩:∃ vs ws,ev f=.func (.func g) vs ws∧vs.size=first.length∧(∀ i (hi:i < first.length),Rv κ first[i] (vs.getD i undef))∧ws.size=captured.length∧(∀ i (hi:i < captured.length),Rv κ captured[i] (ws.getD i undef)):=by
  rcases hf with hf | ⟨hf,rfl,rfl⟩
  ·rw [hf] at hfv
   generalize ev f=u at hfv
   cases hfv with
   |fn _ _ _ vs ws hn h hm h'=>exact ⟨vs,ws,rfl,hn,h,hm,h'⟩
  ·rw [hf] at hfv
   exact ⟨#[],#[],hfv.litInv,rfl,fun i hi=>by simp at hi,rfl,fun i hi=>by simp at hi⟩
 have he:(execOp ev ⟨dst,.call ⟨.value f,args,argTypes⟩,ty,pos,after,guard⟩).run P κ.w=.ok (.enter g (vs ++ args.map ev ++ ws)) κ.w:=by
  simp only [execOp,resolve,Sem.run_bind,hev,Deferred.ofValue,Sem.run_pure,Result.andThen_ok,invoke]
  exact bD_ hg _ _
 rw [he]
 have:=h κ (vs ++ args.map ev ++ ws) hI (by simp [hn1,hn2]) (fun i hi=>?_)
 ·exact this.mono fun e w' ⟨cv,h1,h2⟩=>⟨cv,h1,h2⟩
 ·simp only [List.length_append,List.length_map,Array.length_toList] at hi
  by_cases c1:i < first.length
  ·rw [List.getElem_append_left (by simp;omega),List.getElem_append_left (by omega)]
   have e:(vs ++ args.map ev ++ ws).getD i undef=vs.getD i undef:=by
    simp only [Array.getD_eq_getD_getElem?,Array.append_assoc]
    rw [Array.getElem?_append_left (by omega)]
   rw [e];exact h1 i c1
  ·by_cases c2:i < first.length + args.size
   ·rw [List.getElem_append_left (by simp;omega),List.getElem_append_right (by omega)]
    have e:(vs ++ args.map ev ++ ws).getD i undef=ev (args[i - first.length]'(by omega)):=by
     simp only [Array.getD_eq_getD_getElem?,Array.append_assoc]
     rw [Array.getElem?_append_right (by omega),Array.getElem?_append_left (by simp;omega)]
     simp [hn1,show i - first.length < args.size by omega]
    rw [e]
    simp only [List.getElem_map,Array.getElem_toList]
    exact hx _ (by simp [Op.operands,Call.operands])
   ·rw [List.getElem_append_right (by simp;omega)]
    have e:(vs ++ args.map ev ++ ws).getD i undef=ws.getD (i - (first.length + args.size)) undef:=by
     simp only [Array.getD_eq_getD_getElem?]
     rw [Array.getElem?_append_right (by simp;omega)]
     simp [hn1]
    rw [e]
    simp only [List.length_append,List.length_map,Array.length_toList]
    exact h2 _ (by omega)
end
end Go.Ab
end

section
set_option linter.all false
namespace Go.Ab
open Go.RowKit (Below)
def RvC (κ:K) (av:List AVal) (cs:List Value):Prop:=av.length=cs.length∧∀ i (hi:i < av.length) (hj:i < cs.length),Rv κ av[i] cs[i]
theorem RvC.append {κ:K} {av bs:List AVal} {cs ds:List Value} (h:RvC κ av cs) (k:RvC κ bs ds):RvC κ (av ++ bs) (cs ++ ds):=by
 refine ⟨by simp [h.1,k.1],fun i hi hj=>?_⟩
 by_cases hlt:i < av.length
 ·rw [List.getElem_append_left hlt,List.getElem_append_left (by rw [← h.1];exact hlt)]
  exact h.2 i hlt _
 ·have hl:=h.1
  rw [List.getElem_append_right (by omega),List.getElem_append_right (by omega)]
  have:=k.2 (i - av.length) (by simp at hi;omega) (by simp at hj;omega)
  simpa [hl] using this
theorem RvC.one {κ:K} {a:AVal} {v:Value} (h:Rv κ a v):RvC κ [a] [v]:=⟨rfl,fun i hi _=>by
 have h0:i=0:=by simpa using hi
 subst h0;exact h⟩
theorem RvC.nil {κ:K}:RvC κ [] []:=⟨rfl,fun i hi=>by simp at hi⟩
theorem RvC.mono {κ κ':K} (hle:κ.Le κ') {av:List AVal} {cs:List Value} (h:RvC κ av cs):RvC κ' av cs:=⟨h.1,fun i hi hj=>(h.2 i hi hj).mono hle⟩
theorem cs_ {κ:K} {sz:Nat} {l:List AVal} {v:Value} (h:Rv κ (.sl sz l false) v) :
  ∃ a cap us,v=.slice a l.length cap∧(∀ x∈l,x.cells.length=sz)∧RvC κ (flat l) us∧((a=none∧l=[]∧cap=0)∨∃ ad:Addr,a=some ad∧∀ j u,us[j]?=some u→κ.w.cell? (ad.add j)=some u):=by
 rcases h.slInv with ⟨a,rfl,rfl⟩ | ⟨b,off,cap,vals,rfl,hcap,_,hsz,hc,hv⟩
 ·refine ⟨a,0,[],rfl,by simp,.nil,?_⟩
  cases a with
  |none=>exact .inl ⟨rfl,rfl,rfl⟩
  |some ad=>exact .inr ⟨ad,rfl,by simp⟩
 ·refine ⟨_,cap,(List.range (flat l).length).map vals,rfl,hsz,⟨by simp,fun i hi hj=>by simpa using hv i hi⟩,.inr ⟨_,rfl,fun j u hu=>?_⟩⟩
  have hj:j < (flat l).length:=by
   have:=(List.getElem?_eq_some_iff.1 hu).1
   simpa using this
  have:u=vals j:=by
   rw [List.getElem?_map,List.getElem?_range hj] at hu
   exact (Option.some.inj hu).symm
  subst this
  rw [a6_]
  exact (hc j hj).2
def Store.newTok (σ:Store) (old:Option Nat) (t:Nat) (p:TypeId × Nat):Store:={ σ with tok:=fun i=>if i=t then some p else if some i=old then none else σ.tok i }
theorem Inv.tokStep {κ κ':K} {σ:Store} (h:Inv κ σ) (hle:κ.Le κ') {t':Nat} {v':Value} {p:TypeId × Nat} {old:Option Nat} (hρ:κ'.ρ=κ.ρ) (hτ:κ'.τ=fun i=>if i=t' then some v' else κ.τ i)
  (hI:∀ b,an_ v'≠some b→κ'.I b=κ.I b) (hkeep:∀ b,an_ v'≠some b→b < κ.w.heap.size→κ'.w.heap[b]?=κ.w.heap[b]?) (hok:db_ κ' p v')
  (hfree:∀ b,an_ v'=some b→κ.w.heap.size≤b∨∃ t v q,old=some t∧σ.tok t=some q∧κ.τ t=some v∧an_ v=some b):Inv κ' (σ.newTok old t' p):=by
 have other:∀ t q v b,t≠t'→some t≠old→σ.tok t=some q→κ.τ t=some v→an_ v=some b→an_ v'≠some b:=by
  intro t q v b _ ho ht hv hb hb'
  rcases hfree b hb' with hlt | ⟨t1,v1,q1,e1,e2,e3,e4⟩
  ·obtain ⟨v2,hv2,hk⟩:=h.tok t q ht
   rw [hv] at hv2
   obtain rfl:=Option.some.inj hv2
   have:=hk.lt hb
   omega
  ·exact ho (by rw [e1,h.tokinj t t1 q q1 v v1 b ht e2 hv e3 hb e4])
 have objs:∀ o x b,σ.heap o=some x→κ.ρ o=some b→an_ v'≠some b:=by
  intro o x b ho hb hb'
  obtain ⟨b1,hb1,_,_,hR⟩:=h.heap o x ho
  rw [hb] at hb1
  obtain rfl:=Option.some.inj hb1
  rcases hfree b hb' with hlt | ⟨t1,v1,q1,e1,e2,e3,e4⟩
  ·have:=hR.lt;omega
  ·exact h.tokobj t1 q1 v1 b o x e2 e3 e4 ho hb
 have was:∀ t q,(σ.newTok old t' p).tok t=some q→t≠t'→some t≠old∧σ.tok t=some q:=by
  intro t q ht hne
  simp only [Store.newTok,hne,if_false] at ht
  split at ht
  ·cases ht
  ·rename_i ho;exact ⟨ho,ht⟩
 refine ⟨h.glob.le hle,by rw [hle.base];exact Nat.le_trans h.base hle.below.size,fun o x e=>?_,fun o o' x x' b e e' hb hb'=>h.inj o o' x x' b e e' (by rw [← hρ];exact hb) (by rw [← hρ];exact hb'),fun t q e=>?_,fun t t1 q q1 v v1 b e e1 hv hv1 hb hb1=>?_,
  fun t q v b o x e hv hb ho=>?_,by rw [hρ];exact h.frO,?_,fun b hb=>?_⟩
 ·obtain ⟨b,hb,hbase,hIb,hR⟩:=h.heap o x e
  have hne:=objs o x b e hb
  exact ⟨b,by rw [hρ];exact hb,by rw [hle.base];exact hbase,by rw [hI b hne];exact hIb,hR.mono hle (hkeep b hne hR.lt)⟩
 ·by_cases ht:t=t'
  ·subst ht
   have:p=q:=by simpa [Store.newTok] using e
   subst this
   exact ⟨v',by rw [hτ];simp,hok⟩
  ·obtain ⟨ho,e'⟩:=was t q e ht
   obtain ⟨v,hv,hk⟩:=h.tok t q e'
   refine ⟨v,by rw [hτ];simp [ht,hv],hk.mono hle fun b hb=>?_⟩
   have hne:=other t q v b ht ho e' hv hb
   exact ⟨hkeep b hne (hk.lt hb),hI b hne⟩
 ·rw [hτ] at hv hv1
  by_cases ht:t=t' <;> by_cases ht1:t1=t'
  ·rw [ht,ht1]
  ·obtain ⟨ho,e'⟩:=was t1 q1 e1 ht1
   simp only [ht,if_true,Option.some.injEq] at hv
   simp only [ht1,if_false] at hv1
   subst hv
   exact absurd hb (other t1 q1 v1 b ht1 ho e' hv1 hb1)
  ·obtain ⟨ho,e'⟩:=was t q e ht
   simp only [ht1,if_true,Option.some.injEq] at hv1
   simp only [ht,if_false] at hv
   subst hv1
   exact absurd hb1 (other t q v b ht ho e' hv hb)
  ·obtain ⟨ho,e'⟩:=was t q e ht
   obtain ⟨ho1,e1'⟩:=was t1 q1 e1 ht1
   simp only [ht,if_false] at hv
   simp only [ht1,if_false] at hv1
   exact h.tokinj t t1 q q1 v v1 b e' e1' hv hv1 hb hb1
 ·rw [hτ] at hv
  rw [hρ]
  by_cases ht:t=t'
  ·simp only [ht,if_true,Option.some.injEq] at hv
   subst hv
   intro hh
   exact objs o x b ho hh hb
  ·obtain ⟨hoo,e'⟩:=was t q e ht
   simp only [ht,if_false] at hv
   exact h.tokobj t q v b o x e' hv hb ho
 ·obtain ⟨N,hN⟩:=h.frT
  refine ⟨N + t' + 1,fun i hi=>?_⟩
  rw [hτ]
  dsimp only
  rw [if_neg (by omega)]
  exact hN i (by omega)
 ·by_cases hb':an_ v'=some b
  ·have:=hok.lt hb';omega
  ·rw [hI b hb'];exact h.frI b (Nat.le_trans hle.below.size hb)
theorem bW_ {P:Program} {tx ty t e:TypeId} {i:TypeInfo} {sz:Nat} (ht:P.underlying t=some (.slice e)) (hi:P.info? e=some i) (hsz:i.size=sz) {w:World} {x:Value} {news:List Value} (hs:Src P sz tx x 0 news w) (a:Option Addr) (n cap:Nat) (hn:n≤cap) :
  (Builtin.append_ #[t,tx] ty #[.slice a n cap,x]).run P w=.ok (.slice a n cap) w:=by
 subst hsz
 have hnews:news=[]:=List.eq_nil_of_length_eq_zero (by simpa using hs.newsLen)
 subst hnews
 cases a <;> rcases hs.kind with ⟨e',hk⟩ | hk <;> simp [Builtin.append_,run_underlying ht,run_underlying hk,sizeOf,typeInfo,hi,hs.len,hs.cells,hn,storeCells]
theorem g5_ (w:World) (g:Nat) (e:TypeId) (fr:Nat × Nat):∀ (vs:List Value) (off:Nat) (cur:Array Value),w.heap[g]?=some (.cells cur e fr)→off + vs.length≤cur.size →
  w.setCells g off vs=w.setRow g (cur.toList.take off ++ vs ++ cur.toList.drop (off + vs.length)).toArray:=by
 have key:∀ (vs:List Value) (off:Nat) (cur:Array Value) (w:World),w.heap[g]?=some (.cells cur e fr)→off + vs.length≤cur.size →
   w.setCells g off vs=w.setRow g (cur.toList.take off ++ vs ++ cur.toList.drop (off + vs.length)).toArray:=by
  intro vs
  induction vs with
  |nil =>
   intro off cur w hg h
   have e1:(cur.toList.take off ++ [] ++ cur.toList.drop (off + ([]:List Value).length)).toArray=cur:=by simp
   rw [e1]
   show w=_
   unfold World.setRow
   have hlt:g < w.heap.size:=(Array.getElem?_eq_some_iff.1 hg).1
   have hv:w.heap[g]=.cells cur e fr:=(Array.getElem?_eq_some_iff.1 hg).2
   show World.mk w.heap w.tape w.drawn w.os w.output=_
   congr 1
   apply Array.ext (by simp)
   intro i h1 h2
   rw [Array.getElem_modify]
   split
   ·rename_i hh;subst hh;rw [hv]
   ·rfl
  |cons v vs ih =>
   intro off cur w hg h
   have hlt:g < w.heap.size:=(Array.getElem?_eq_some_iff.1 hg).1
   have hv:w.heap[g]=.cells cur e fr:=(Array.getElem?_eq_some_iff.1 hg).2
   have hset:w.setCell ⟨g,off,none⟩ v=w.setRow g (cur.setIfInBounds off v):=by
    unfold World.setCell World.setRow
    congr 1
    apply Array.ext (by simp)
    intro i h1 h2
    rw [Array.getElem_modify,Array.getElem_modify]
    split
    ·rename_i hh;dsimp only at hh;subst hh;rw [hv];simp
    ·rfl
   have hg2:=setRow_heap w g cur (cur.setIfInBounds off v) e fr hg
   show (w.setCell ⟨g,off,none⟩ v).setCells g (off + 1) vs=_
   rw [hset,ih (off + 1) (cur.setIfInBounds off v) _ hg2 (by simp at h ⊢;omega)]
   have hrr:∀ a b:Array Value,(w.setRow g a).setRow g b=w.setRow g b:=fun a b=>by
    unfold World.setRow
    congr 1
    apply Array.ext (by simp)
    intro i h1 h2
    rw [Array.getElem_modify,Array.getElem_modify,Array.getElem_modify]
    split
    ·rename_i hh;subst hh;rw [hv]
    ·rfl
   rw [hrr]
   congr 2
   have ho:off < cur.toList.length:=by simp at h ⊢;omega
   rw [Array.toList_setIfInBounds,List.set_eq_take_append_cons_drop,if_pos ho]
   have l1:(cur.toList.take off).length=off:=by simp at ho ⊢;omega
   rw [List.take_append,l1,show off + 1 - off=1 by omega,List.take_of_length_le (by omega:(cur.toList.take off).length≤off + 1)]
   rw [List.drop_append,l1,List.drop_eq_nil_of_le (by omega:(cur.toList.take off).length≤off + 1 + vs.length),show off + 1 + vs.length - off=vs.length + 1 by omega]
   simp [List.drop_drop,Nat.add_assoc,Nat.add_comm 1]
 exact fun vs off cur hg h=>key vs off cur w hg h
theorem dd_ {P : Program} (w : World) (base : Nat) (t tx ty e : TypeId) (i : TypeInfo) (z : Value) (size bytes : Nat) (ht : P.underlying t = some (.slice e)) (hi : P.info? e = some i) (hz : i.zero = some z)
    (hsize : i.size = size) (hby : i.bytes = bytes) (hzs : z.cells.size = size) (hsz : 0 < size)
    (v : Value) (n : Nat) (xs : List Value) (hown : aY_ w base e size v n xs) (x : Value)
    (m : Nat) (news : List Value) (hl : news.length = m * size) (hx : Src P size tx x m news w)
    (h63 : n + m ≤ maxLen) (hbytes : (n + m) * bytes ≤ 140737488355328) (hbase : base ≤ w.heap.size) :
    ∃ v' w', (Builtin.append_ #[t, tx] ty #[v, x]).run P w = .ok v' w' ∧ aY_ w' base e size v' (n + m) (xs ++ news) ∧
      ((v' = v ∧ w' = w ∧ m = 0) ∨
       (∃ g cap cur cur' fr, v = .slice (some ⟨g, 0, none⟩) n cap ∧ w.heap[g]? = some (.cells cur e fr) ∧ v' = .slice (some ⟨g, 0, none⟩) (n + m) cap ∧ w' = w.setRow g cur' ∧ cur'.size = cur.size ∧ base ≤ g ∧ ∀ k, k < n * size → cur'[k]? = cur[k]?) ∨
       (∃ c cap' fr, w' = w.drew.alloc (.cells c e fr) ∧ v' = .slice (some ⟨w.heap.size, 0, none⟩) (n + m) cap')) := by
  subst hsize
  subst hby
  have hsmall : n + m ≤ 9223372036854775807 := by simp only [maxLen] at h63; omega
  have hlen : (xs ++ news).length = (n + m) * i.size := by rw [List.length_append, hown.1, hl, Nat.add_mul]
  have hnone : m = 0 → ∀ a cap, n ≤ cap → v = .slice a n cap → ∃ v' w', (Builtin.append_ #[t, tx] ty #[v, x]).run P w = .ok v' w' ∧ aY_ w' base e i.size v' (n + m) (xs ++ news) ∧ (v' = v ∧ w' = w ∧ m = 0) := by
    rintro rfl a cap hc rfl
    obtain rfl : news = [] := List.eq_nil_of_length_eq_zero (by simpa using hl)
    exact ⟨_, w, bW_ ht hi rfl hx a n cap hc, by simpa using hown, rfl, rfl, rfl⟩
  have grown : ∀ (old : Nat), old < n + m →
      aY_ (w.drew.alloc (.cells ((xs ++ news).toArray ++ Builtin.zeroCells z.cells (grownCap w (n + m) old e - (n + m))) e)) base e i.size
        (.slice (some ⟨w.heap.size, 0, none⟩) (n + m) (grownCap w (n + m) old e)) (n + m) (xs ++ news) := by
    intro old ho
    have hge := grownCap_ge w (n + m) old e
    have hcm : grownCap w (n + m) old e ≤ maxLen := grownCap_le_maxLen w (n + m) old e h63
    refine ⟨hlen, .inr ⟨w.heap.size, _, _, (0, 0), rfl, hbase, Go.heap_alloc_new w.drew _, .inl rfl, hge, hcm, ?_, ?_⟩⟩
    · simp only [Array.size_append, List.size_toArray, size_zeroCells, hzs, hlen, ← Nat.add_mul]
      congr 1
      omega
    · simp only [Array.toList_append]
      rw [← hlen]
      exact List.take_left
  rcases hown.2 with ⟨rfl, rfl⟩ | ⟨g, cap, cur, fr, rfl, hbg, hg, hfr, hnc, hcm, hcs, htake⟩
  · have hx0 : xs = [] := List.eq_nil_of_length_eq_zero (by simpa using hown.1)
    subst hx0
    by_cases hm : m = 0
    · obtain ⟨v', w', h1, h2, h3⟩ := hnone hm none 0 (Nat.le_refl _) rfl
      exact ⟨v', w', h1, h2, .inl h3⟩
    · have hr := run_append_grow_src (P := P) (w := w) t tx ty e i z ht hi hz none 0 0 [] (by simp [Builtin.firstCells, loadCells, loadCellsFrom]) x m news hx (by omega) (by omega) (growslice_fits (by omega) hbytes)
      exact ⟨_, _, hr, grown 0 (by omega), .inr (.inr ⟨_, _, (0, 0), rfl, rfl⟩)⟩
  · by_cases hm : m = 0
    · obtain ⟨v', w', h1, h2, h3⟩ := hnone hm _ cap hnc rfl
      exact ⟨v', w', h1, h2, .inl h3⟩
    by_cases hroom : n + m ≤ cap
    · have hfit : n * i.size + news.length ≤ cur.size := by rw [hl, hcs, ← Nat.add_mul]; exact Nat.mul_le_mul_right _ hroom
      have hcell : ∀ j, j < news.length → ∃ u, w.cell? ⟨g, 0 + n * i.size + j, none⟩ = some u := fun j hj => ⟨cur[0 + n * i.size + j]'(by omega), by simp [World.cell?, hg, show 0 + n * i.size + j < cur.size by omega]⟩
      have hr := run_append_room_src (P := P) (w := w) t tx ty e i ht hi g 0 n cap x m news hx hroom (fun j hj => by obtain ⟨u, hu⟩ := hcell j hj; rw [hu]; rfl) (fun j hj => aY_.thaw hg hfr (by omega))
      have hrow : w.setCells g (0 + n * i.size) news = w.setRow g (cur.toList.take (n * i.size) ++ news ++ cur.toList.drop (n * i.size + news.length)).toArray := by
        rw [Nat.zero_add]; exact g5_ w g e fr news (n * i.size) cur hg hfit
      rw [hrow] at hr
      have hsz2 : (cur.toList.take (n * i.size) ++ news ++ cur.toList.drop (n * i.size + news.length)).toArray.size = cur.size := by
        simp only [List.size_toArray, List.length_append, List.length_take, List.length_drop, Array.length_toList]
        omega
      refine ⟨_, _, hr, ⟨hlen, .inr ⟨g, cap, _, fr, rfl, hbg, setRow_heap w g cur _ e _ hg, hfr.imp id (fun h => by rw [hsz2]; exact h), hroom, hcm, ?_, ?_⟩⟩, .inr (.inl ⟨g, cap, cur, _, fr, rfl, hg, rfl, rfl, ?_, hbg, fun k hk => ?_⟩)⟩
      · simp only [List.size_toArray, List.length_append, List.length_take, List.length_drop, Array.length_toList]
        omega
      · rw [htake, ← hlen]
        exact List.take_left
      · simp only [List.size_toArray, List.length_append, List.length_take, List.length_drop, Array.length_toList]
        omega
      · have hk1 : k < (cur.toList.take (n * i.size)).length := by
          simp only [List.length_take, Array.length_toList]; omega
        simp only [List.getElem?_toArray, List.append_assoc]
        rw [List.getElem?_append_left hk1, List.getElem?_take, if_pos hk]
        simp
    · have hold : (Builtin.firstCells i.size n (.slice (some ⟨g, 0, none⟩) n cap)).run P w.drew = .ok xs.toArray w.drew :=
        run_firstCells_some (P := P) w.drew i.size n ⟨g, 0, none⟩ n cap xs hown.1 (fun j u hu => hown.cells (g := g) rfl j u hu)
      have hr := run_append_grow_src (P := P) (w := w) t tx ty e i z ht hi hz (some ⟨g, 0, none⟩) n cap xs hold x m news hx (by omega) (by omega) (growslice_fits (by omega) hbytes)
      exact ⟨_, _, hr, grown cap (by omega), .inr (.inr ⟨_, _, (0, 0), rfl, rfl⟩)⟩
def al_ (P:Program) (e:TypeId):Option (Nat × Nat) :=
 match P.info? e with
 |some i=>match i.zero with
  |some z=>if z.cells.size=i.size∧0 < i.size∧0 < i.bytes then some (i.size,i.bytes) else none
  |none=>none
 |none=>none
theorem aB_ {P:Program} {e:TypeId} {sz by_:Nat} (h:al_ P e=some (sz,by_)):∃ i z,P.info? e=some i∧i.zero=some z∧i.size=sz∧i.bytes=by_∧z.cells.size=sz∧0 < sz∧0 < by_:=by
 unfold al_ at h
 split at h
 ·rename_i i hi
  split at h
  ·rename_i z hz
   split at h
   ·rename_i hc
    simp only [Option.some.injEq,Prod.mk.injEq] at h
    obtain ⟨rfl,rfl⟩:=h
    exact ⟨i,z,hi,hz,rfl,rfl,hc.1,hc.2.1,hc.2.2⟩
   ·cases h
  ·cases h
 ·cases h
theorem i6_ {κ:K} {e:TypeId} {sz:Nat} {v:Value} {l:List AVal} {us:List Value} (hs:∀ x∈l,x.cells.length=sz) (ho:aY_ κ.w κ.base e sz v l.length us) (hr:RvC κ (flat l) us)
  (hI:∀ b,an_ v=some b→κ.I b=l.length * sz):Rv κ (.sl sz l false) v:=by
 have hfl:(flat l).length=l.length * sz:=av_ hs
 rcases ho.2 with ⟨rfl,h0⟩ | ⟨g,cap,cur,fr,rfl,hbg,hg,_,hnc,hcm,hcs,htake⟩
 ·obtain rfl:l=[]:=List.eq_nil_of_length_eq_zero h0
  exact .slNil _ _
 ·have hc:=ho.cells (g:=g) rfl
  refine .sl sz l false g 0 cap (fun k=>us.getD k undef) hnc (by simp) hs (fun k hk=>?_) (fun k hk=>?_)
  ·have hku:k < us.length:=by rw [← hr.1];exact hk
   rw [hI g rfl]
   refine ⟨by omega,?_⟩
   have:=hc k us[k] (by simp [hku])
   rw [a6_] at this
   simpa [hku] using this
  ·have hku:k < us.length:=by rw [← hr.1];exact hk
   have:=hr.2 k hk hku
   simpa [hku] using this
section
variable {P:Program} {o:Oper} {α:Operand→AVal} {σ:Store} {Kk:AVal→Store→Prop}
theorem ev_ {κ:K} {σ:Store} (hI:Inv κ σ) {v0:Value} {e:TypeId} {sz:Nat} {l:List AVal} {old:Option Nat} {a:AVal} (hvs:Rv κ a v0)
  (hs:(∃ k,a=.own k sz l∧σ.tok k=some (e,sz)∧old=some k)∨(a=.lit (.slice none 0 0)∧l=[]∧old=none)):∃ us,(∀ y∈l,y.cells.length=sz)∧aY_ κ.w κ.base e sz v0 l.length us∧RvC κ (flat l) us∧(∀ b,an_ v0=some b→κ.I b=l.length * sz) ∧
   (∀ b,an_ v0=some b→∃ t v q,old=some t∧σ.tok t=some q∧κ.τ t=some v∧an_ v=some b):=by
 rcases hs with ⟨k,hk1,hk2,rfl⟩ | ⟨hk1,rfl,rfl⟩
 ·subst hk1
  cases hvs with
  |own _ _ _ _ h0 hτ =>
   obtain ⟨v,hv,n,xs,how,hIb⟩:=hI.tok k _ hk2
   rw [hτ] at hv
   obtain rfl:=Option.some.inj hv
   obtain ⟨a,cap,us,hev,hsz',hr,hc⟩:=cs_ h0
   have hn:n=l.length:=by
    rcases how.2 with ⟨h1,rfl⟩ | ⟨g,cap',cur,fr,h1,_⟩
    ·rw [hev] at h1;simp at h1;simp [h1]
    ·rw [hev] at h1;simp at h1;omega
   subst hn
   have hxs:xs=us:=by
    apply List.ext_getElem?
    intro j
    have hlx:xs.length=us.length:=by rw [how.1,← hr.1,av_ hsz']
    by_cases hj:j < xs.length
    ·rcases how.2 with ⟨h1,h0'⟩ | ⟨g,cap',cur,fr,h1,_⟩
     ·rw [how.1,h0'] at hj;simp at hj
     ·have e1:=how.cells (g:=g) (by rw [h1];rfl) j xs[j] (by simp [hj])
      rcases hc with ⟨rfl,_,_⟩ | ⟨ad,rfl,hcu⟩
      ·rw [hev] at h1;simp at h1
      ·have e2:=hcu j us[j] (by simp [show j < us.length by omega])
       rw [hev] at h1
       simp only [Value.slice.injEq,Option.some.injEq] at h1
       rw [h1.1] at e2
       rw [e1] at e2
       rw [List.getElem?_eq_getElem hj,List.getElem?_eq_getElem (by omega),Option.some.inj e2]
    ·rw [List.getElem?_eq_none (by omega),List.getElem?_eq_none (by omega)]
   subst hxs
   exact ⟨xs,hsz',how,hr,hIb,fun b hb=>⟨k,_,_,rfl,hk2,hτ,hb⟩⟩
 ·subst hk1
  have:=hvs.litInv
  subst this
  exact ⟨[],by simp,aY_.nil _ _ _ _,.nil,by simp [an_],by simp [an_]⟩
theorem c3_ {κ : K} {σ : Store} (hI : Inv κ σ) {v0 v' : Value} {w' : World} {e : TypeId} {sz : Nat} {l l2 : List AVal} {us vs : List Value} {old : Option Nat} (hlsz : ∀ y ∈ l, y.cells.length = sz) (hl2sz : ∀ y ∈ l2, y.cells.length = sz)
    (hus : RvC κ (flat l) us) (hvsr : RvC κ (flat l2) vs) (hIold : ∀ b, an_ v0 = some b → κ.I b = l.length * sz)
    (hfreeold : ∀ b, an_ v0 = some b → ∃ t v q, old = some t ∧ σ.tok t = some q ∧ κ.τ t = some v ∧ an_ v = some b)
    (hown' : aY_ w' κ.base e sz v' (l.length + l2.length) (us ++ vs))
    (hcase : (v' = v0 ∧ w' = κ.w ∧ l2.length = 0) ∨
       (∃ g cap cur cur' fr, v0 = .slice (some ⟨g, 0, none⟩) l.length cap ∧ κ.w.heap[g]? = some (.cells cur e fr) ∧ v' = .slice (some ⟨g, 0, none⟩) (l.length + l2.length) cap ∧ w' = κ.w.setRow g cur' ∧ cur'.size = cur.size ∧ κ.base ≤ g ∧ ∀ k, k < l.length * sz → cur'[k]? = cur[k]?) ∨
       (∃ c cap' fr, w' = κ.w.drew.alloc (.cells c e fr) ∧ v' = .slice (some ⟨κ.w.heap.size, 0, none⟩) (l.length + l2.length) cap')) :
    ∃ κ' t', κ'.w = w' ∧ κ.Le κ' ∧ Inv κ' (σ.newTok old t' (e, sz)) ∧ Rv κ' (.own t' sz (l ++ l2)) v' ∧ σ.tok t' = none := by
  obtain ⟨t', ht', htok'⟩ := hI.freshTok
  have hszall : ∀ y ∈ l ++ l2, y.cells.length = sz := fun y hy => (List.mem_append.1 hy).elim (hlsz y) (hl2sz y)
  obtain ⟨κ', hw', hle, hρ, hτ, hIb, hIo, hkeep, hfree⟩ : ∃ κ' : K, κ'.w = w' ∧ κ.Le κ' ∧ κ'.ρ = κ.ρ ∧ κ'.τ = (fun j => if j = t' then some v' else κ.τ j) ∧ (∀ b, an_ v' = some b → κ'.I b = (l ++ l2).length * sz) ∧
      (∀ b, an_ v' ≠ some b → κ'.I b = κ.I b) ∧ (∀ b, an_ v' ≠ some b → b < κ.w.heap.size → κ'.w.heap[b]? = κ.w.heap[b]?) ∧
      (∀ b, an_ v' = some b → κ.w.heap.size ≤ b ∨ ∃ t v q, old = some t ∧ σ.tok t = some q ∧ κ.τ t = some v ∧ an_ v = some b) := by
    have tau : ∀ (t : Nat) v, κ.τ t = some v → (if t = t' then some v' else κ.τ t) = some v := fun t v hv => by
      rw [if_neg (fun hh => by rw [hh, ht'] at hv; cases hv)]; exact hv
    rcases hcase with ⟨rfl, rfl, hm⟩ | ⟨g, cap, cur, cur', fr, hev, hg, rfl, rfl, hcs, hbg, hck⟩ | ⟨c, cap', fr, rfl, rfl⟩
    · refine ⟨{ κ with τ := fun j => if j = t' then some _ else κ.τ j }, rfl, ⟨rfl, Below.refl _ _, fun _ _ h => h, fun _ _ h => h, tau, fun _ => Nat.le_refl _, fun _ _ _ _ h => h, Nat.le_refl _, fun _ _ => rfl⟩, rfl, rfl, fun b hb => ?_, fun _ _ => rfl, fun _ _ _ => rfl, fun b hb => .inr (hfreeold b hb)⟩
      show κ.I b = _
      rw [hIold b hb, List.length_append, hm, Nat.add_zero]
    · have hIg : κ.I g = l.length * sz := hIold g (by rw [hev]; rfl)
      have hgt := setRow_heap κ.w g cur cur' e fr hg
      refine ⟨{ κ with w := κ.w.setRow g cur', τ := fun j => if j = t' then some _ else κ.τ j, I := fun b => if b = g then (l ++ l2).length * sz else κ.I b }, rfl,
        ⟨rfl, ⟨rfl, rfl, rfl, by simp [World.setRow], fun k hk => setRow_other κ.w g k cur' (by omega)⟩, fun b s hs => ?_, fun _ _ h => h, tau, fun b => ?_, fun b off v ho hv => ?_, Nat.le_refl _, fun b hb => if_neg (by omega)⟩, rfl, rfl, fun b hb => ?_, fun b hb => ?_, fun b hb hlt => ?_, fun b hb => .inr (hfreeold b ?_)⟩
      · show (κ.w.setRow g cur').shape? b = _
        by_cases hbg' : b = g
        · subst hbg'
          unfold World.shape? at hs ⊢
          rw [hg] at hs
          rw [hgt]
          simpa [hcs] using hs
        · unfold World.shape? at hs ⊢
          rw [setRow_other κ.w g b cur' hbg']
          exact hs
      · show _ ≤ (if b = g then _ else _)
        split
        · rename_i hh; subst hh; rw [hIg, List.length_append, Nat.add_mul]; omega
        · exact Nat.le_refl _
      · show (κ.w.setRow g cur').cell? _ = _
        by_cases hbg' : b = g
        · subst hbg'
          rw [hIg] at ho
          rw [cell_of_row _ _ _ _ _ _ hg] at hv
          rw [cell_of_row _ _ _ _ _ _ hgt, hck off ho]
          exact hv
        · simp only [World.cell?] at hv ⊢
          rw [setRow_other κ.w g b cur' hbg']
          exact hv
      · have : g = b := by simpa [an_] using hb
        subst this
        simp
      · have : b ≠ g := fun hh => hb (by subst hh; rfl)
        simp [this]
      · exact setRow_other κ.w g b cur' (fun hh => hb (by subst hh; rfl))
      · rw [hev]
        have : g = b := by simpa [an_] using hb
        subst this; rfl
    · refine ⟨{ κ with w := κ.w.drew.alloc (.cells c e fr), τ := fun j => if j = t' then some _ else κ.τ j, I := fun b => if b = κ.w.heap.size then (l ++ l2).length * sz else κ.I b }, rfl,
        ⟨rfl, ((Below.refl _ _).drew).alloc hI.base _, fun b s hs => shape?_alloc_old κ.w.drew _ b s hs, fun _ _ h => h, tau, fun b => ?_, fun b off v _ hv => cell?_alloc_old' κ.w.drew _ b off v hv, by first | exact Nat.le_succ _ | exact Nat.le_refl _, fun b hb => if_neg (by have := hI.base; omega)⟩, rfl, rfl, fun b hb => ?_, fun b hb => ?_, fun b hb hlt => ?_, fun b hb => .inl ?_⟩
      · show _ ≤ (if b = _ then _ else _)
        split
        · rename_i hh; subst hh; rw [hI.frI _ (Nat.le_refl _)]; exact Nat.zero_le _
        · exact Nat.le_refl _
      · have : κ.w.heap.size = b := by simpa [an_] using hb
        subst this
        simp
      · have : b ≠ κ.w.heap.size := fun hh => hb (by subst hh; rfl)
        simp [this]
      · exact Below.heap_alloc κ.w.drew _ b hlt
      · have : κ.w.heap.size = b := by simpa [an_] using hb
        omega
  subst hw'
  have hr' : RvC κ' (flat (l ++ l2)) (us ++ vs) := by rw [bU_]; exact (hus.mono hle).append (hvsr.mono hle)
  have hown2 : aY_ κ'.w κ'.base e sz v' (l ++ l2).length (us ++ vs) := by rw [hle.base, List.length_append]; exact hown'
  have hok : db_ κ' (e, sz) v' := ⟨_, _, hown2, hIb⟩
  have hsl := i6_ hszall hown2 hr' hIb
  exact ⟨κ', t', rfl, hle, hI.tokStep hle hρ hτ hIo hkeep hok hfree, .own t' sz _ v' hsl (by rw [hτ]; simp), htok'⟩
theorem dF_ {s x:Operand} {t e:TypeId} {sz by_:Nat} {l l2:List AVal} {old:Option Nat}
  (ho:o.op=.call { callee:=.builtin .append,args:=#[s,x],argTypes:=#[t,t] }) (hse:ad_ P t=some e) (hte:al_ P e=some (sz,by_))
  (hs:(∃ k,α s=.own k sz l∧σ.tok k=some (e,sz)∧old=some k)∨(α s=.lit (.slice none 0 0)∧l=[]∧old=none))
  (hx:slOf (α x)=some (sz,l2)∨(α x=.lit (.slice none 0 0)∧l2=[])) (hone:∀ y∈l2,∀ c∈y.cells,c.one=true)
  (hlen:(l.length + l2.length) * by_≤140737488355328)
  (hk:∀ t',σ.tok t'=none→Kk (.own t' sz (l ++ l2)) (σ.newTok old t' (e,sz))):AOp P o α σ Kk:=by
 obtain ⟨dst,op,ty,pos,after,guard⟩:=o
 obtain rfl:op=.call { callee:=.builtin .append,args:=#[s,x],argTypes:=#[t,t] }:=ho
 intro κ ev hI hxx
 obtain ⟨i,z,hi,hz,hisz,hiby,hzs,hsz,hby⟩:=aB_ hte
 have hts:P.underlying t=some (.slice e):=by
  unfold ad_ at hse
  split at hse
  ·rename_i e' he';obtain rfl:=Option.some.inj hse;exact he'
  ·cases hse
 have hvs:=hxx s (by simp [Op.operands,Call.operands])
 have hvx:=hxx x (by simp [Op.operands,Call.operands])
 have hle47:l.length + l2.length≤140737488355328:=Nat.le_trans (Nat.le_mul_of_pos_right _ hby) hlen
 obtain ⟨us,hlsz,hown,hus,hIold,hfreeold⟩:=ev_ hI hvs hs
 obtain ⟨vs,hl2sz,hvsr,hxv⟩:∃ vs,(∀ y∈l2,y.cells.length=sz)∧RvC κ (flat l2) vs∧((ev x=.slice none 0 0∧l2.length=0)∨∃ a c,ev x=.slice (some a) l2.length c∧∀ j u,vs[j]?=some u→κ.w.cell? (a.add j)=some u):=by
  rcases hx with hx | ⟨hx,rfl⟩
  ·obtain ⟨a,cap,us2,hev,hsz',hr,hc⟩:=cs_ (cr_ hx hvx)
   refine ⟨us2,hsz',hr,?_⟩
   rcases hc with ⟨rfl,rfl,rfl⟩ | ⟨ad,rfl,hcu⟩
   ·exact .inl ⟨hev,rfl⟩
   ·exact .inr ⟨ad,cap,hev,hcu⟩
  ·rw [hx] at hvx
   exact ⟨[],by simp,.nil,.inl ⟨hvx.litInv,rfl⟩⟩
 have hfl2:vs.length=l2.length * sz:=by rw [← hvsr.1,av_ hl2sz]
 have hones:∀ u∈vs,u.oneCell'=true:=by
  intro u hu
  obtain ⟨j,hj,rfl⟩:=List.getElem_of_mem hu
  have hj':j < (flat l2).length:=by rw [hvsr.1];exact hj
  refine ((hvsr.2 j hj' hj).one ?_).1
  have:(flat l2)[j]∈flat l2:=List.getElem_mem hj'
  unfold flat at this
  obtain ⟨y,hy,hc⟩:=List.mem_flatMap.1 this
  exact hone y hy _ hc
 have hsrc:Src P sz t (ev x) l2.length vs κ.w:=by
  rcases hxv with ⟨h1,h2⟩ | ⟨a,c,h1,h2⟩
  ·rw [h1,h2]
   obtain rfl:vs=[]:=List.eq_nil_of_length_eq_zero (by rw [hfl2,h2,Nat.zero_mul])
   exact Src.ofNil κ.w hts 0
  ·rw [h1];exact Src.ofSlice κ.w hts a l2.length c vs hfl2 h2 hones
 obtain ⟨v',w',hrun,hown',hcase⟩:=dd_ (P:=P) κ.w κ.base t t ty e i z sz by_ hts hi hz hisz hiby hzs hsz (ev s) l.length us hown (ev x) l2.length vs hfl2 hsrc (by simp only [maxLen];omega) hlen hI.base
 obtain ⟨κ',t',rfl,hle,hI',hr',htok'⟩:=c3_ hI hlsz hl2sz hus hvsr hIold hfreeold hown' hcase
 refine ay_ (s:=Builtin.append_ #[t,t] ty #[ev s,ev x]) (by simp [execOp,resolve,invoke,builtin]) ⟨v',κ'.w,hrun,κ',.own t' sz (l ++ l2),σ.newTok old t' (e,sz),rfl,hle,hI',hr',hk t' htok'⟩
theorem et_ {sz:Nat} {α:Operand→AVal}:∀ (parts:List (Nat × Operand)) (k:Nat) (cs:List AVal),parts.map (·.1)=List.range' k parts.length→(∀ p∈parts,(α p.2).solid=true∧(α p.2).cells.length=sz)→cs.length=(k + parts.length) * sz →
  gq_ (fun i=>some (i * sz,sz)) cs (parts.map fun p=>(p.1,α p.2))=some (cs.take (k * sz) ++ flat (parts.map fun p=>α p.2))
 |[],k,cs,_,_,hn=>by
  simp only [List.map_nil,gq_,lO_,List.append_nil]
  rw [List.take_of_length_le (by rw [hn];simp)]
 |(i,x) :: rest,k,cs,hk,hs,hn=>by
  simp only [List.map_cons,List.length_cons,List.range'_succ,List.cons.injEq] at hk
  obtain ⟨rfl,hk⟩:=hk
  obtain ⟨h1,h2⟩:=hs (i,x) (List.mem_cons_self ..)
  dsimp only at h1 h2
  simp only [List.length_cons] at hn
  have hsz:i * sz + sz≤cs.length:=by
   rw [hn,show i * sz + sz=(i + 1) * sz by rw [Nat.succ_mul]]
   exact Nat.mul_le_mul_right _ (by omega)
  simp only [List.map_cons,gq_]
  rw [if_pos ⟨h1,h2,hsz⟩]
  have hlen:(aput cs (i * sz) (α x).cells).length=cs.length:=by simp [aput,h2];omega
  rw [et_ rest (i + 1) (aput cs (i * sz) (α x).cells) hk (fun p hp=>hs p (List.mem_cons_of_mem _ hp)) (by rw [hlen,hn];congr 1;omega)]
  congr 1
  rw [bC_,← List.append_assoc]
  congr 1
  simp only [aput]
  rw [List.take_append_of_le_length (by simp [h2,Nat.succ_mul];omega),List.take_of_length_le (by simp [h2,Nat.succ_mul];omega)]
set_option maxHeartbeats 2000000 in
theorem AOp_buildSlice {t e:TypeId} {n sz by_:Nat} {parts:Array (Nat × Operand)} (ho:o.op=.buildSlice t n parts) (hse:ad_ P t=some e) (hte:al_ P e=some (sz,by_)) (hn:parts.toList.length=n) (hr:parts.toList.map (·.1)=List.range' 0 parts.toList.length)
  (hs:∀ p∈parts.toList,(α p.2).solid=true∧(α p.2).cells.length=sz) (hbig:n * sz≤16777216) (hk:Kk (.sl sz (parts.toList.map fun p=>α p.2) true) σ):AOp P o α σ Kk:=by
 obtain ⟨dst,op,ty,pos,after,guard⟩:=o
 obtain rfl:op=.buildSlice t n parts:=ho
 intro κ ev hI hx
 obtain ⟨i,z,hi,hz,hisz,hiby,hzs,hsz,hby⟩:=aB_ hte
 have hts:P.underlying t=some (.slice e):=by
  unfold ad_ at hse
  split at hse
  ·rename_i e' he';obtain rfl:=Option.some.inj hse;exact he'
  ·cases hse
 have hzv:a4_ P e=some z:=by simp [a4_,hi,hz]
 have hpx:∀ p∈parts.toList,Rv κ (α p.2) (ev p.2):=fun p hp=>hx p.2 (by
  simp only [Op.operands,List.mem_toArray,List.mem_map]
  exact ⟨p,hp,rfl⟩)
 obtain ⟨zs,hzs0⟩:∃ zs:Array Value,zs=(if n * sz=0 then (#[]:Array Value) else z.cells):=⟨_,rfl⟩
 obtain ⟨us,hus⟩:∃ us:Array Value,us=(Array.range (n * sz)).map (zs[·% zs.size]!):=⟨_,rfl⟩
 have husz:us.size=n * sz:=by rw [hus];simp
 have hany:RvL κ (us.toList.map .lit) us:=⟨by simp,fun j hj=>by
  have hj':j < us.size:=by simpa using hj
  simp only [List.getElem_map]
  rw [show us.getD j undef=us.toList[j]'(by simpa using hj') by simp [hj']]
  exact .lit _⟩
 obtain ⟨rs,hrs,hrr⟩:=du_ (κ:=κ) (fun i=>some (i * sz,sz)) parts.toList (us.toList.map .lit) us _ hpx hany (et_ parts.toList 0 _ hr hs (by simp [husz,hn]))
 rw [Nat.zero_mul,List.take_zero,List.nil_append] at hrr
 have hl:(parts.toList.map fun p=>α p.2).length=n:=by simp [hn]
 have hszl:∀ x∈(parts.toList.map fun p=>α p.2),x.cells.length=sz:=fun x hx=>by
  obtain ⟨p,hp,rfl⟩:=List.mem_map.1 hx
  exact (hs p hp).2
 have hfl:(flat (parts.toList.map fun p=>α p.2)).length=n * sz:=by rw [av_ hszl,hl]
 have hle:κ.Le { κ with w:=κ.w.alloc (.cells rs e),I:=fun b=>if b=κ.w.heap.size then n * sz else κ.I b } :=
  ⟨rfl,(Below.refl _ _).alloc hI.base _,fun b s h=>shape?_alloc_old _ _ b s h,fun _ _ h=>h,fun _ _ h=>h,fun b=>by
   show _≤(if b=_ then _ else _)
   split
   ·rename_i hh;subst hh;rw [hI.frI _ (Nat.le_refl _)];exact Nat.zero_le _
   ·exact Nat.le_refl _,fun b off v _ hv=>cell?_alloc_old' _ _ b off v hv,Nat.le_refl _,fun b hb=>if_neg (by have:=hI.base;omega)⟩
 refine ay_ (s:=Instr.buildSlice t n (parts.map fun (i,x)=>(i,ev x))) rfl ⟨.slice (some ⟨κ.w.heap.size,0,none⟩) n n,κ.w.alloc (.cells rs e),?_,_,_,σ,rfl,hle,?_,?_,hk⟩
 ·unfold Instr.buildSlice
  simp only [Sem.run_bind,run_underlying hts,Result.andThen_ok,ar_ hi,hisz]
  rw [if_neg (by omega)]
  have hfill:Instr.fill (fun i=>some (i * sz,sz)) us (parts.map fun (i,x)=>(i,ev x)).toList=some rs:=by
   simpa using hrs
  by_cases h0:n * sz=0
  ·rw [if_pos h0] at hzs0 ⊢
   subst hzs0
   subst hus
   simp only [Sem.run_bind,Sem.run_pure,Result.andThen_ok,hfill,newRow,run_newObj,World.alloc_eq]
  ·rw [if_neg h0] at hzs0 ⊢
   subst hzs0
   subst hus
   simp only [Sem.run_bind,Sem.run_pure,Result.andThen_ok,az_ hzv,hfill,newRow,run_newObj,World.alloc_eq]
 ·refine hI.quiet hle rfl rfl (fun b hb=>?_) (fun b hb=>?_) (fun b hb=>Below.heap_alloc _ _ b hb)
  ·show (if b=_ then _ else _)=_
   rw [if_neg (by omega)]
  ·show (if b=_ then _ else _)=_
   have hb':κ.w.heap.size + 1≤b:=by simpa using hb
   rw [if_neg (by omega)]
   exact hI.frI b (by omega)
 ·have:=Rv.sl (κ:={ κ with w:=κ.w.alloc (.cells rs e),I:=fun b=>if b=κ.w.heap.size then n * sz else κ.I b }) sz (parts.toList.map fun p=>α p.2) true κ.w.heap.size 0 n (fun k=>rs.getD k undef) (by omega) (fun _=>hl.symm) hszl
   (fun k hk=>by
    refine ⟨by simp;omega,?_⟩
    show (κ.w.alloc (.cells rs e)).cell? _=_
    rw [cell_of_row _ _ _ rs e (0,0) (heap_alloc_new _ _)]
    have hk':k < rs.size:=by rw [hrr.1];exact hk
    simp [hk'])
   (fun k hk=>(hrr.2 k hk).mono hle)
  rwa [hl] at this
end
theorem Store.newTok_set (σ:Store) (o:Nat) (x:AObj) (a:Option Nat) (t:Nat) (p:TypeId × Nat):(σ.set o x).newTok a t p=(σ.newTok a t p).set o x:=rfl
theorem Store.newTok_heap (σ:Store) (o:Nat) (a:Option Nat) (t:Nat) (p:TypeId × Nat):(σ.newTok a t p).heap o=σ.heap o:=rfl
theorem Store.set_tok (σ:Store) (o:Nat) (x:AObj) (t:Nat):(σ.set o x).tok t=σ.tok t:=rfl
theorem Store.newTok_get (σ:Store) (a:Option Nat) (t:Nat) (p:TypeId × Nat):(σ.newTok a t p).tok t=some p:=by simp [Store.newTok]
theorem Store.newTok_step {σ:Store} {k k':Nat} {p q:TypeId × Nat} (h:σ.tok k=none):(σ.newTok none k p).newTok (some k) k' q=σ.newTok none k' q:=by
 unfold Store.newTok
 congr 1
 funext i
 by_cases h1:i=k'
 ·simp [h1]
 ·by_cases h2:i=k
  ·subst h2;simp [h1,h]
  ·simp [h1,h2]
end Go.Ab
end

section
set_option linter.all false
namespace Go.Ab
open Go.RowKit (Below)
def aj_ (s:ByteArray):List AVal:=s.data.toList.map fun b=>.lit (.int .u8 b.toNat)
theorem ap_ (s:ByteArray):(aj_ s).length=s.size:=by
 unfold aj_
 rw [List.length_map,Array.length_toList]
 rfl
theorem cB_ (s:ByteArray):∀ x∈aj_ s,x.cells.length=1:=by
 intro x hx
 obtain ⟨b,_,rfl⟩:=List.mem_map.1 hx
 rfl
theorem ck_ (s t:ByteArray):aj_ s ++ aj_ t=aj_ (s ++ t):=by
 unfold aj_
 rw [← List.map_append]
 have:(s ++ t).data=s.data ++ t.data:=ByteArray.data_append ..
 rw [this,Array.toList_append]
theorem bd_ (s:ByteArray):flat (aj_ s)=aj_ s:=by
 unfold aj_ flat
 induction s.data.toList with
 |nil=>rfl
 |cons b l ih=>simpa [AVal.cells] using ih
theorem dq_ (s:ByteArray):fA_ (aj_ s)=some (s.data.toList.map fun b=>(b.toNat:Int)):=by
 unfold aj_
 induction s.data.toList with
 |nil=>rfl
 |cons b l ih=>simp only [List.map_cons,fA_,ih,Option.map_some]
theorem e5_ (s:ByteArray):ow_ (s.data.toList.map fun b=>(b.toNat:Int))=s:=by
 unfold ow_
 rw [foldl_push_byteCells]
 cases s with
 |mk d =>
  simp [ByteArray.empty,ByteArray.emptyWithCapacity]
  try rfl
theorem gs_ (s:ByteArray) (t:Bool):bq_ (.sl 1 (aj_ s) t)=some (.lit (.string s)):=by
 simp [bq_,slOf,dq_,e5_]
theorem de_ (s:ByteArray) (k:Nat):bq_ (.own k 1 (aj_ s))=some (.lit (.string s)):=by
 simp [bq_,slOf,dq_,e5_]
theorem fS_:bq_ (.lit (.slice none 0 0))=some (.lit (.string ByteArray.empty)):=rfl
theorem cu_ (s:ByteArray) (l h:Nat):((aj_ s).take h).drop l=aj_ (s.extract l h):=by
 unfold aj_
 rw [← List.map_take,← List.map_drop]
 congr 1
 have:(s.extract l h).data=s.data.extract l h:=ByteArray.data_extract ..
 rw [this,Array.toList_extract]
 simp [List.extract_eq_drop_take,List.drop_take]
theorem hg_ (s:ByteArray) (h:Nat):(aj_ s).take h=aj_ (s.extract 0 h):=by
 have:=cu_ s 0 h
 rwa [List.drop_zero] at this
theorem hp_ (s:ByteArray):s.extract 0 s.size=s:=by
 apply ByteArray.ext
 have:(s.extract 0 s.size).data=s.data.extract 0 s.size:=ByteArray.data_extract ..
 rw [this]
 exact Array.extract_size
theorem RvC.byteCells {κ:K} (s:ByteArray):RvC κ (aj_ s) (byteCells s) :=
 ⟨by rw [ap_,byteCells_length],fun i hi hj=>by
  simp only [aj_,Go.byteCells,List.getElem_map]
  exact .lit _⟩
section
variable {P:Program} {o:Oper} {α:Operand→AVal} {σ:Store} {Kk:AVal→Store→Prop}
theorem hB_ {κ:K} (hI:Inv κ σ) {w1:World} (hw1:w1=κ.w∨w1=κ.w.drew) (x:Obj) (n:Nat) :
  ∃ κ':K,κ'.w=w1.alloc x∧κ.Le κ'∧κ'.I κ.w.heap.size=n∧Inv κ' σ:=by
 have hh:w1.heap=κ.w.heap:=by rcases hw1 with rfl | rfl <;> rfl
 have hle:κ.Le { κ with w:=w1.alloc x,I:=fun b=>if b=κ.w.heap.size then n else κ.I b }:=by
  refine ⟨rfl,?_,fun b s h=>?_,fun _ _ h=>h,fun _ _ h=>h,fun b=>?_,fun b off v _ hv=>?_,by rcases hw1 with rfl | rfl;exact Nat.le_refl _;exact by first | exact Nat.le_succ _ | exact Nat.le_refl _,fun b hb=>if_neg (by have:=hI.base;omega)⟩
  ·rcases hw1 with rfl | rfl
   ·exact (Below.refl _ _).alloc hI.base _
   ·exact ((Below.refl _ _).drew).alloc hI.base _
  ·rcases hw1 with rfl | rfl
   ·exact shape?_alloc_old κ.w _ b s h
   ·exact shape?_alloc_old κ.w.drew _ b s h
  ·show _≤(if b=_ then _ else _)
   split
   ·rename_i hh;subst hh;rw [hI.frI _ (Nat.le_refl _)];exact Nat.zero_le _
   ·exact Nat.le_refl _
  ·rcases hw1 with rfl | rfl
   ·exact cell?_alloc_old' κ.w _ b off v hv
   ·exact cell?_alloc_old' κ.w.drew _ b off v hv
 refine ⟨{ κ with w:=w1.alloc x,I:=fun b=>if b=κ.w.heap.size then n else κ.I b },rfl,hle,by simp,hI.quiet hle rfl rfl (fun b hb=>?_) (fun b hb=>?_) (fun b hb=>?_)⟩
 ·show (if b=_ then _ else _)=_
  rw [if_neg (by omega)]
 ·show (if b=_ then _ else _)=_
  have hb':κ.w.heap.size + 1≤b:=by simpa [hh] using hb
  rw [if_neg (by omega)]
  exact hI.frI b (by omega)
 ·rcases hw1 with rfl | rfl
  ·exact Below.heap_alloc κ.w _ b hb
  ·exact Below.heap_alloc κ.w.drew _ b hb
theorem AOp_bytesOf {src dst e:TypeId} {x:Operand} {s:ByteArray} (ho:o.op=.convert src dst x) (hs:P.underlying src=some .string) (hd:P.underlying dst=some (.slice e)) (he:P.underlying e=some (.int .u8)) (hx:α x=.lit (.string s))
  (hk:Kk (.sl 1 (aj_ s) false) σ):AOp P o α σ Kk:=by
 obtain ⟨dst',op,ty,pos,after,guard⟩:=o
 obtain rfl:op=.convert src dst x:=ho
 intro κ ev hI hxx
 have hv:=hxx x (by simp [Op.operands])
 rw [hx] at hv
 have hv':=hv.litInv
 have hr:=run_bytes_of_string (P:=P) κ.w src dst e s hs hd he
 obtain ⟨κ',hw,hle,hIb,hI'⟩:=hB_ hI (.inr rfl) (.cells (bytesRow s (grownCap κ.w s.size 0 e)) e ((bytesRow s (grownCap κ.w s.size 0 e)).size,(bytesRow s (grownCap κ.w s.size 0 e)).size + 1)) s.size
 refine ay_ (s:=Go.convert src dst (ev x)) rfl ⟨_,_,by rw [hv'];exact hr,κ',_,σ,hw,hle,hI',?_,hk⟩
 have hge:=grownCap_ge κ.w s.size 0 e
 have:=Rv.sl (κ:=κ') 1 (aj_ s) false κ.w.heap.size 0 (grownCap κ.w s.size 0 e) (fun k=>(byteCells s).getD k undef) (by rw [ap_];exact hge) (by simp) (cB_ s)
  (fun k hk=>by
   rw [bd_,ap_] at hk
   rw [hIb,hw]
   refine ⟨by omega,?_⟩
   show (κ.w.drew.alloc _).cell? ⟨κ.w.drew.heap.size,_,none⟩=_
   rw [cell_of_row _ _ _ _ _ _ (heap_alloc_new κ.w.drew _)]
   have h1:k < (s.data.map fun b=>Value.int .u8 b.toNat).size:=by simpa using hk
   rw [Nat.zero_add,bytesRow,Array.getElem?_append_left h1]
   have h2:k < (byteCells s).length:=by rw [byteCells_length];exact hk
   simp only [Array.getElem?_map,List.getD,List.getElem?_eq_getElem h2,Option.getD_some]
   simp only [Go.byteCells,List.getElem_map,Array.getElem_toList]
   have h3:k < s.data.size:=by simpa using h1
   rw [Array.getElem?_eq_getElem h3]
   rfl)
  (fun k hk=>by
   have hk':=hk
   rw [bd_,ap_] at hk'
   have h2:k < (byteCells s).length:=by rw [byteCells_length];exact hk'
   have:=(RvC.byteCells (κ:=κ') s).2 k (by rw [ap_];exact hk') h2
   simp only [bd_]
   simpa [h2] using this)
 rwa [ap_] at this
def ASrc (P:Program) (sz:Nat) (tx:TypeId) (x:AVal) (l2:List AVal):Prop :=
 ((∃ e',P.underlying tx=some (.slice e'))∧(slOf x=some (sz,l2)∨(x=.lit (.slice none 0 0)∧l2=[]))∧∀ y∈l2,∀ c∈y.cells,c.one=true) ∨
 (P.underlying tx=some .string∧sz=1∧∃ s,x=.lit (.string s)∧l2=aj_ s)
theorem ASrc.spec {κ:K} {sz:Nat} {tx:TypeId} {x:AVal} {l2:List AVal} {v:Value} (h:ASrc P sz tx x l2) (hr:Rv κ x v) :
  ∃ news,(∀ y∈l2,y.cells.length=sz)∧RvC κ (flat l2) news∧Src P sz tx v l2.length news κ.w:=by
 rcases h with ⟨⟨e',hk⟩,hx,hone⟩ | ⟨hk,rfl,s,rfl,rfl⟩
 ·have key:∃ a cap us,v=.slice a l2.length cap∧(∀ y∈l2,y.cells.length=sz)∧RvC κ (flat l2) us∧((a=none∧l2=[]∧cap=0)∨∃ ad:Addr,a=some ad∧∀ j u,us[j]?=some u→κ.w.cell? (ad.add j)=some u):=by
   rcases hx with hx | ⟨rfl,rfl⟩
   ·exact cs_ (cr_ hx hr)
   ·exact ⟨none,0,[],hr.litInv,by simp,.nil,.inl ⟨rfl,rfl,rfl⟩⟩
  obtain ⟨a,cap,us,rfl,hsz,hrc,hc⟩:=key
  have hl:us.length=l2.length * sz:=by rw [← hrc.1,av_ hsz]
  have hones:∀ u∈us,u.oneCell'=true:=by
   intro u hu
   obtain ⟨j,hj,rfl⟩:=List.getElem_of_mem hu
   have hj':j < (flat l2).length:=by rw [hrc.1];exact hj
   refine ((hrc.2 j hj' hj).one ?_).1
   have:(flat l2)[j]∈flat l2:=List.getElem_mem hj'
   unfold flat at this
   obtain ⟨y,hy,hc⟩:=List.mem_flatMap.1 this
   exact hone y hy _ hc
  rcases hc with ⟨rfl,rfl,rfl⟩ | ⟨ad,rfl,hcu⟩
  ·obtain rfl:us=[]:=List.eq_nil_of_length_eq_zero (by simpa using hl)
   exact ⟨[],hsz,hrc,Src.ofNil κ.w hk 0⟩
  ·exact ⟨us,hsz,hrc,Src.ofSlice κ.w hk ad l2.length cap us hl hcu hones⟩
 ·obtain rfl:=hr.litInv
  refine ⟨byteCells s,cB_ s,by rw [bd_];exact RvC.byteCells s,?_⟩
  rw [ap_]
  exact Src.ofString κ.w hk s
theorem AOp_appendTight {s x:Operand} {t tx e:TypeId} {sz by_:Nat} {l l2:List AVal}
  (ho:o.op=.call { callee:=.builtin .append,args:=#[s,x],argTypes:=#[t,tx] }) (hse:ad_ P t=some e) (hte:al_ P e=some (sz,by_))
  (hs:α s=.sl sz l true∨(α s=.lit (.slice none 0 0)∧l=[])) (hx:ASrc P sz tx (α x) l2) (hlen:(l.length + l2.length) * by_≤140737488355328)
  (hk:Kk (.sl sz (l ++ l2) false) σ):AOp P o α σ Kk:=by
 obtain ⟨dst,op,ty,pos,after,guard⟩:=o
 obtain rfl:op=.call { callee:=.builtin .append,args:=#[s,x],argTypes:=#[t,tx] }:=ho
 intro κ ev hI hxx
 obtain ⟨i,z,hi,hz,hisz,hiby,hzs,hsz,hby⟩:=aB_ hte
 have hts:P.underlying t=some (.slice e):=by
  unfold ad_ at hse
  split at hse
  ·rename_i e' he';obtain rfl:=Option.some.inj hse;exact he'
  ·cases hse
 have hvs:Rv κ (.sl sz l true) (ev s):=by
  have:=hxx s (by simp [Op.operands,Call.operands])
  rcases hs with hs | ⟨hs,rfl⟩
  ·rwa [hs] at this
  ·rw [hs] at this
   rw [this.litInv]
   exact .slNil _ _
 obtain ⟨news,hl2sz,hnr,hsrc⟩:=hx.spec (hxx x (by simp [Op.operands,Call.operands]))
 have hle47:l.length + l2.length≤140737488355328:=Nat.le_trans (Nat.le_mul_of_pos_right _ hby) hlen
 obtain ⟨a,us,hev,hlsz,hus,hac⟩:∃ a us,ev s=.slice a l.length l.length∧(∀ y∈l,y.cells.length=sz)∧RvC κ (flat l) us∧((a=none∧l=[])∨∃ ad:Addr,a=some ad∧∀ j u,us[j]?=some u→κ.w.cell? (ad.add j)=some u):=by
  obtain ⟨a,cap,us,hev,h1,h2,h3⟩:=cs_ (hvs.wk (.sl1 ..))
  have hcap:cap=l.length:=by
   rcases hvs.slInv with ⟨a',e1,e2⟩ | ⟨b,off,cap',vals,e1,_,e2,_⟩
   ·subst e2;rw [hev] at e1;simp at e1;simp [e1.2]
   ·rw [hev] at e1;simp at e1;have:=e2 rfl;omega
  subst hcap
  exact ⟨a,us,hev,h1,h2,h3.imp (fun h=>⟨h.1,h.2.1⟩) id⟩
 by_cases hm:l2.length=0
 ·obtain rfl:l2=[]:=List.eq_nil_of_length_eq_zero hm
  have hr:=bW_ (P:=P) (ty:=ty) hts hi hisz hsrc a l.length l.length (Nat.le_refl _)
  rw [← hev] at hr
  rw [List.append_nil] at hk
  exact ay_ (s:=Builtin.append_ #[t,tx] ty #[ev s,ev x]) (by simp [execOp,resolve,invoke,builtin]) ⟨_,_,hr,κ,_,σ,rfl,.refl κ,hI,hvs.wk (.sl1 ..),hk⟩
 ·have hul:us.length=l.length * sz:=by rw [← hus.1,av_ hlsz]
  have hold:(Builtin.firstCells i.size l.length (.slice a l.length l.length)).run P κ.w.drew=.ok us.toArray κ.w.drew:=by
   rcases hac with ⟨rfl,rfl⟩ | ⟨ad,rfl,hcu⟩
   ·obtain rfl:us=[]:=List.eq_nil_of_length_eq_zero (by simpa using hul)
    exact run_firstCells_none κ.w.drew i.size 0 0 0
   ·exact run_firstCells_some κ.w.drew i.size l.length ad l.length l.length us (by rw [hisz];exact hul) (by simpa using hcu)
  have hr:=run_append_grow_src (P:=P) κ.w t tx ty e i z hts hi hz a l.length l.length us hold (ev x) l2.length news (by rw [hisz];exact hsrc) (by omega) (by omega) (growslice_fits (by omega) (by rw [hiby];exact hlen))
  rw [← hev] at hr
  have hge:=grownCap_ge κ.w (l.length + l2.length) l.length e
  obtain ⟨κ',hw,hle,hIb,hI'⟩:=hB_ hI (.inr rfl) (.cells ((us ++ news).toArray ++ Builtin.zeroCells z.cells (grownCap κ.w (l.length + l2.length) l.length e - (l.length + l2.length))) e) ((l.length + l2.length) * sz)
  have hszall:∀ y∈l ++ l2,y.cells.length=sz:=fun y hy=>(List.mem_append.1 hy).elim (hlsz y) (hl2sz y)
  have hrc:RvC κ' (flat (l ++ l2)) (us ++ news):=by rw [bU_];exact (hus.mono hle).append (hnr.mono hle)
  have hfl:(flat (l ++ l2)).length=(l.length + l2.length) * sz:=by rw [av_ hszall,List.length_append]
  refine ay_ (s:=Builtin.append_ #[t,tx] ty #[ev s,ev x]) (by simp [execOp,resolve,invoke,builtin]) ⟨_,_,hr,κ',_,σ,hw,hle,hI',?_,hk⟩
  have:=Rv.sl (κ:=κ') sz (l ++ l2) false κ.w.heap.size 0 (grownCap κ.w (l.length + l2.length) l.length e) (fun k=>(us ++ news).getD k undef) (by rw [List.length_append];exact hge) (by simp) hszall
   (fun k hk=>by
    have hk1:k < (us ++ news).length:=by rw [← hrc.1];exact hk
    rw [hIb,hw]
    refine ⟨by omega,?_⟩
    show (κ.w.drew.alloc _).cell? ⟨κ.w.drew.heap.size,_,none⟩=_
    rw [cell_of_row _ _ _ _ _ _ (heap_alloc_new κ.w.drew _),Nat.zero_add,Array.getElem?_append_left (by simpa using hk1),List.getElem?_toArray,List.getD_eq_getElem?_getD,List.getElem?_eq_getElem hk1]
    rfl)
   (fun k hk=>by
    have hk1:k < (us ++ news).length:=by rw [← hrc.1];exact hk
    have:=hrc.2 k hk hk1
    rw [List.getD_eq_getElem?_getD,List.getElem?_eq_getElem hk1]
    exact this)
  rwa [List.length_append] at this
end
end Go.Ab
end

section
set_option linter.all false
namespace Go.Ab
open Go.RowKit (Below)
open Go.MapKept (IsKey sameNow_of_keys run_checkKey run_findKey run_keyThatStays)
def jj_ (P:Program) (t:TypeId) (name:String):Option (FuncId × Bool) :=
 match P.info? t with
 |some i=>match i.methods.find? (·.name == name) with
  |some m=>if m.path.toList.isEmpty then m.func else none
  |none=>none
 |none=>none
def iN_ (P:Program) (σ:Store) (t:TypeId) (ptr:Bool) (a:AVal):Option AVal :=
 match P.underlying t with
 |some (.pointer e)=>if ptr then some a else bT_ P σ e a
 |some _=>if ptr then none else some a
 |none=>none
section
variable {P:Program} {o:Oper} {α:Operand→AVal} {σ:Store} {Kk:AVal→Store→Prop}
theorem ji_ {κ:K} {e:TypeId} {a b:AVal} {u:Value} (h:bT_ P σ e a=some b) (hu:Rv κ a u):∃ ad,u=.pointer (some ad):=by
 unfold bT_ at h
 split at h
 ·split at h
  ·obtain ⟨b,off,vals,rfl,_⟩:=hu.roInv;exact ⟨_,rfl⟩
  ·obtain ⟨b,hb,rfl⟩:=hu.refInv;exact ⟨_,rfl⟩
  ·cases h
 ·cases h
theorem on_ (ad:Addr) (xt:TypeId) (a b:ByteArray) (w:World):(Builtin.ssaWrapNilChk_ #[xt] xt #[.pointer (some ad),.string a,.string b]).run P w=.ok (.pointer (some ad)) w:=rfl
theorem fI_ {κ:K} (hI:Inv κ σ) {t:TypeId} {name:String} {f:FuncId} {ptr:Bool} (hm:jj_ P t name=some (f,ptr)) {a r:AVal} (hr:iN_ P σ t ptr a=some r) {v:Value} (hv:Rv κ a v) (n:Nat) :
  ∃ rv,(method (n + 1) t v name).run P κ.w=.ok (f,rv) κ.w∧Rv κ r rv:=by
 unfold jj_ at hm
 split at hm
 case h_2=>cases hm
 rename_i i hi
 split at hm
 case h_2=>cases hm
 rename_i m hfind
 split at hm
 case isFalse=>cases hm
 rename_i hpath
 have hp:m.path.toList=[]:=by simpa using hpath
 have hpe:m.path.isEmpty=true:=by
  have:m.path=#[]:=by apply Array.ext';simpa using hp
  rw [this];rfl
 unfold method
 simp only [Sem.run_bind,typeInfo,run_program,Result.andThen_ok,hi,Sem.run_pure,hfind,hp,follow,hm,hpe,if_true]
 unfold iN_ at hr
 cases hu:P.underlying t with
 |none=>rw [hu] at hr;cases hr
 |some d =>
  rw [hu] at hr
  unfold receiverAt
  simp only [Sem.run_bind,run_underlying hu,Result.andThen_ok]
  cases d
  case pointer e =>
   cases ptr
   ·simp only [Bool.false_eq_true,if_false] at hr
    obtain ⟨ad,rfl⟩:=ji_ hr hv
    obtain ⟨cv,h1,h2⟩:=gd_ hI (Store.Sub.refl σ) hr hv
    refine ⟨cv,?_,h2⟩
    have h1':(loadVar e ad).run P κ.w=.ok cv κ.w:=by simpa [Instr.loadAt,Instr.sureAddr] using h1
    simp [Place.get,asAddr,h1',strVal,on_]
   ·simp only [if_true,Option.some.injEq] at hr
    subst hr
    exact ⟨v,by simp [Place.get],hv⟩
  all_goals
   cases ptr
   ·simp only [Bool.false_eq_true,if_false,Option.some.injEq] at hr
    subst hr
    exact ⟨v,by simp [Place.get],hv⟩
   ·simp at hr
theorem fl_ {x:Operand} {name:String} {args:Array Operand} {ts:Array TypeId} {t:TypeId} {a r:AVal} {f:FuncId} {ptr:Bool} {as:List AVal} {Q:AVal→Store→Prop} (ho:o.op=.call { callee:=.invoke x name,args:=args,argTypes:=ts })
  (hx:α x=.iface t a) (hm:jj_ P t name=some (f,ptr)) (hr:iN_ P σ t ptr a=some r) (hg:isGo P f=true) (has:r :: args.toList.map α=as) (h:ACalls P f as σ Q) (hk:∀ v σ',Q v σ'→Kk v σ'):AOp P o α σ Kk:=by
 subst has
 obtain ⟨dst,op,ty,pos,after,guard⟩:=o
 obtain rfl:op=_:=ho
 intro κ ev hI hxx
 have hvx:=hxx x (by simp [Op.operands,Call.operands])
 rw [hx] at hvx
 obtain ⟨v,hev,hva⟩:∃ v,ev x=.iface t v∧Rv κ a v:=by
  generalize ev x=u at hvx
  cases hvx with
  |iface _ _ v h=>exact ⟨v,rfl,h⟩
 obtain ⟨rv,h1,h2⟩:=fI_ hI hm hr hva (P.types.size + Made.depth - 1)
 have hfuel:P.types.size + Made.depth - 1 + 1=P.types.size + Made.depth:=by
  have:0 < Made.depth:=by decide
  omega
 rw [hfuel] at h1
 have he:(execOp ev ⟨dst,.call ⟨.invoke x name,args,ts⟩,ty,pos,after,guard⟩).run P κ.w=.ok (.enter f (#[rv] ++ args.map ev)) κ.w:=by
  have hex:(#[Value.iface t v] ++ args.map ev).extract 1 (#[Value.iface t v] ++ args.map ev).size=args.map ev:=by
   apply Array.ext'
   simp [List.take_of_length_le]
  have h0:(#[Value.iface t v] ++ args.map ev)[0]?=some (Value.iface t v):=by
   rw [Array.getElem?_append_left (by simp)];rfl
  simp only [execOp,resolve,Sem.run_bind,Sem.run_pure,Result.andThen_ok,invoke,hev]
  rw [h0,hex]
  simp only [callMethod,Sem.run_bind,run_program,Result.andThen_ok,h1]
  exact bD_ hg _ _
 rw [he]
 refine (h.mono hk κ (#[rv] ++ args.map ev) hI (by simp [Nat.add_comm]) fun i hi=>?_).mono fun e w' ⟨cv,q1,q2⟩=>⟨cv,q1,q2⟩
 cases i with
 |zero =>
  have e:(#[rv] ++ args.map ev).getD 0 undef=rv:=by simp [Array.getElem?_append_left]
  rw [e];exact h2
 |succ i =>
  simp only [List.length_cons,List.length_map,Array.length_toList] at hi
  have e:(#[rv] ++ args.map ev).getD (i + 1) undef=ev (args[i]'(by omega)):=by
   simp only [Array.getD_eq_getD_getElem?]
   rw [Array.getElem?_append_right (by simp)]
   simp [show i < args.size by omega]
  rw [e]
  simp only [List.getElem_cons_succ,List.getElem_map,Array.getElem_toList]
  exact hxx _ (by simp [Op.operands,Call.operands])
def hu_:Value→Value→Bool
 |.int _ x,.int _ y=>decide (x=y)
 |.string x,.string y=>decide (x=y)
 |.bool x,.bool y=>x == y
 |_,_=>false
def cR_ (k:Value) (a:AVal):List (Value × AVal)→List (Value × AVal)
 |[]=>[(k,a)]
 |e :: es=>if hu_ e.1 k then (k,a) :: es else e :: cR_ k a es
def d2_ (k:Value):List (Value × AVal)→List (Value × AVal)
 |[]=>[]
 |e :: es=>if hu_ e.1 k then es else e :: d2_ k es
theorem eL_ {d:TypeDesc} {a b:Value} (ha:IsKey d a) (hb:IsKey d b):hu_ a b=true ↔ a=b:=by
 cases d <;> cases a <;> cases b <;> simp_all [IsKey,hu_]
theorem hL_ {d:TypeDesc} {a b:Value} (ha:IsKey d a) (hb:IsKey d b):Instr.sameNow d a b=some (hu_ b a):=by
 obtain ⟨r,h1,h2⟩:=sameNow_of_keys ha hb
 rw [h1]
 congr 1
 cases r with
 |true=>rw [eq_comm,eL_ hb ha];exact (h2.1 rfl).symm
 |false =>
  cases hh:hu_ b a with
  |false=>rfl
  |true=>have:=h2.2 ((eL_ hb ha).1 hh).symm;cases this
theorem ea_ {κ:K} {d:TypeDesc} {k:Value} (hk:IsKey d k):∀ (l:List MapEntry) (q:List (Value × AVal)) (j:Nat),l.length=q.length→(∀ i (hi:i < q.length) (hj:i < l.length),l[i].key=q[i].1∧Rv κ q[i].2 l[i].val)→(∀ x∈q,IsKey d x.1) →
  (Instr.findNow d k l j=some none∧(∀ a,cR_ k a q=q ++ [(k,a)])∧d2_ k q=q) ∨
  ∃ i v,Instr.findNow d k l j=some (some (j + i,v))∧i < l.length∧(∃ h:i < l.length,l[i].key=k)∧(∀ a,cR_ k a q=q.set i (k,a))∧d2_ k q=q.eraseIdx i
 |[],q,j,hl,_,_=>by
  obtain rfl:q=[]:=List.eq_nil_of_length_eq_zero hl.symm
  exact .inl ⟨rfl,fun _=>rfl,rfl⟩
 |e :: l,[],j,hl,_,_=>by simp at hl
 |e :: l,p :: q,j,hl,hq,hkeys=>by
  have h0:=hq 0 (by simp) (by simp)
  simp only [List.getElem_cons_zero] at h0
  have hp:=hkeys p (List.mem_cons_self ..)
  unfold Instr.findNow
  rw [h0.1,hL_ hk hp]
  cases hke:hu_ p.1 k with
  |true =>
   refine .inr ⟨0,e.val,by simp,by simp,⟨by simp,?_⟩,fun a=>by simp [cR_,hke],by simp [d2_,hke]⟩
   simp only [List.getElem_cons_zero]
   rw [h0.1];exact (eL_ hp hk).1 hke
  |false =>
   rcases ea_ hk l q (j + 1) (by simpa using hl) (fun i hi hj=>by
    have:=hq (i + 1) (by simpa using hi) (by simpa using hj)
    simpa using this) (fun x hx=>hkeys x (List.mem_cons_of_mem _ hx)) with ⟨h1,h2,h3⟩ | ⟨i,v,h1,h2,⟨h2',h3⟩,h4,h5⟩
   ·exact .inl ⟨by simpa using h1,fun a=>by simp [cR_,hke,h2],by simp [d2_,hke,h3]⟩
   ·refine .inr ⟨i + 1,v,?_,by simpa using h2,⟨by simpa using h2,by simpa using h3⟩,fun a=>by simp [cR_,hke,h4],by simp [d2_,hke,h5]⟩
    simp only [h1]
    congr 3;omega
theorem AOp_makeMap {t:TypeId} (ho:o.op=.makeMap t none) (hk:∀ i,σ.heap i=none→Kk (.map i) (σ.set i (.map []))):AOp P o α σ Kk:=by
 obtain ⟨dst,op,ty,pos,after,guard⟩:=o
 obtain rfl:op=_:=ho
 intro κ ev hI hx
 obtain ⟨i,hi,hfree⟩:=hI.fresh
 obtain ⟨κ',hw,hle,hρ,hI'⟩:=hI.alloc i hi (.map []) (.map #[] 0) fun κ' hle hh _=>⟨#[],0,hh,rfl,by simp,by simp,fun j hj=>by simp at hj⟩
 refine ay_ rfl ⟨.map (some κ.w.heap.size),κ.w.alloc (.map #[] 0),?_,κ',.map i,_,hw,hle,hI',.map i _ hρ,hk i hfree⟩
 simp [Instr.makeMap]
theorem bM_ {w:World} {b:Nat} {x:Obj} (y:Obj) (h:w.heap[b]?=some x):({ w with heap:=w.heap.setIfInBounds b y }:World).heap[b]?=some y:=by
 have hlt:b < w.heap.size:=(Array.getElem?_eq_some_iff.1 h).1
 simp [hlt]
theorem am_ {w:World} {b b':Nat} (y:Obj) (h:b'≠b):({ w with heap:=w.heap.setIfInBounds b y }:World).heap[b']?=w.heap[b']?:=by
 simp [Array.getElem?_setIfInBounds_ne (Ne.symm h)]
theorem Inv.setMap {κ:K} {σ:Store} (h:Inv κ σ) {o:Nat} {kvs kvs':List (Value × AVal)} (ho:σ.heap o=some (.map kvs)) {b:Nat} (hb:κ.ρ o=some b) {es es':Array MapEntry} {clock clock':Nat} (hh:κ.w.heap[b]?=some (.map es clock))
  (hbase:κ.base≤b) (hIb:κ.I b=0)
  (hn:es'.size=kvs'.length) (hborn:∀ e∈es',e.born < clock') (hnd:(es'.toList.map (·.born)).Pairwise (·≠ ·)) (hv:∀ i (hi:i < kvs'.length) (hj:i < es'.size),es'[i].key=kvs'[i].1∧Rv κ kvs'[i].2 es'[i].val) :
  κ.Le { κ with w:={ κ.w with heap:=κ.w.heap.setIfInBounds b (.map es' clock') } }∧Inv { κ with w:={ κ.w with heap:=κ.w.heap.setIfInBounds b (.map es' clock') } } (σ.set o (.map kvs')):=by
 have hle:κ.Le { κ with w:={ κ.w with heap:=κ.w.heap.setIfInBounds b (.map es' clock') } }:=by
  refine ⟨rfl,⟨rfl,rfl,rfl,by simp,fun k hk=>am_ _ (by omega)⟩,fun b' s e'=>?_,fun _ _ e'=>e',fun _ _ e'=>e',fun _=>Nat.le_refl _,fun b' off' u hi e'=>?_,Nat.le_refl _,fun _ _=>rfl⟩
  ·have hne:b'≠b:=fun hh'=>by
    subst hh'
    unfold World.shape? at e'
    rw [hh] at e';cases e'
   unfold World.shape? at e' ⊢
   dsimp only
   rw [am_ _ hne];exact e'
  ·have hne:b'≠b:=fun hh'=>by rw [hh',hIb] at hi;omega
   simp only [World.cell?] at e' ⊢
   rw [am_ _ hne];exact e'
 refine ⟨hle,h.step hle rfl rfl h.frO b hbase hIb (fun b' hne _=>am_ _ hne) o _ (fun _ _=>rfl) hb ⟨es',clock',bM_ _ hh,hn,hborn,hnd,fun i hi hj=>⟨(hv i hi hj).1,(hv i hi hj).2.mono hle⟩⟩ ?_ ?_⟩
 ·intro i y hy hne hh'
  exact hne (h.inj i o _ _ b hy ho hh' hb)
 ·intro t sz u ht hu hh'
  exact h.tokobj t sz u b o _ ht hu hh' ho hb
theorem AOp_mapUpdate {t kt et : TypeId} {kd : TypeDesc} {m k x : Operand} {mo : Nat} {kv : Value} {kvs : List (Value × AVal)} {a : AVal} (ho : o.op = .mapUpdate t m k x) (ht : P.underlying t = some (.map kt et)) (hkd : P.underlying kt = some kd)
    (hm : α m = .map mo) (hh : σ.heap mo = some (.map kvs)) (hkv : α k = .lit kv) (hkey : IsKey kd kv) (hkeys : ∀ x ∈ kvs, IsKey kd x.1) (hx : α x = a) (hk : Kk .any (σ.set mo (.map (cR_ kv a kvs)))) : AOp P o α σ Kk := by
  subst hx
  obtain ⟨dst, op, ty, pos, after, guard⟩ := o
  obtain rfl : op = _ := ho
  intro κ ev hI hxx
  have hvm := hxx m (by simp [Op.operands])
  have hvk := hxx k (by simp [Op.operands])
  have hvx := hxx x (by simp [Op.operands])
  rw [hm] at hvm
  rw [hkv] at hvk
  have hek := hvk.litInv
  obtain ⟨b, hb, hbase, hIb, es, clock, hheap, hn, hborn, hnd, hall⟩ := hI.heap mo _ hh
  have hem : ev m = .map (some b) := by
    generalize ev m = u at hvm
    cases hvm with
    | map _ b' hb' => rw [hb] at hb'; obtain rfl := Option.some.inj hb'; rfl
  have hlist : ∀ i (hi : i < kvs.length) (hj : i < es.toList.length), es.toList[i].key = kvs[i].1 ∧ Rv κ kvs[i].2 es.toList[i].val := fun i hi hj => by simpa using hall i hi (by simpa using hj)
  have hfind := ea_ hkey es.toList kvs 0 (by simpa using hn) hlist hkeys
  have hck : (Instr.checkKey false 10000 kt kv).run P κ.w = .ok () κ.w := run_checkKey hkd hkey _ _
  rcases hfind with ⟨h1, h2, _⟩ | ⟨i, v, h1, h2, ⟨h2', h3⟩, h4, _⟩
  · obtain ⟨hle, hI'⟩ := hI.setMap hh hb hheap hbase hIb (es' := es.push { key := kv, val := ev x, born := clock }) (clock' := clock + 1) (kvs' := kvs ++ [(kv, α x)]) (by simp [hn]) (by
        intro e he
        rcases Array.mem_push.1 he with he | rfl
        · exact Nat.lt_succ_of_lt (hborn e he)
        · exact Nat.lt_succ_self _) (by
        simp only [Array.toList_push, List.map_append, List.map_cons, List.map_nil]
        refine List.pairwise_append.2 ⟨hnd, List.pairwise_singleton _ _, fun y hy z hz => ?_⟩
        obtain rfl := List.mem_singleton.1 hz
        obtain ⟨e, he, rfl⟩ := List.mem_map.1 hy
        exact Nat.ne_of_lt (hborn e (by simpa using he))) (by
        intro j hj hj'
        by_cases hlt : j < es.size
        · rw [Array.getElem_push_lt hlt, List.getElem_append_left (by omega)]
          exact hall j (by omega) hlt
        · have : j = es.size := by simp at hj'; omega
          subst this
          rw [Array.getElem_push_eq, List.getElem_append_right (by omega)]
          simp only [hn, Nat.sub_self, List.getElem_cons_zero]
          exact ⟨trivial, hvx⟩)
    refine iE_ (s := Instr.mapUpdate t (ev m) (ev k) (ev x)) rfl ⟨_, ?_, _, .any, _, rfl, hle, hI', .any _, by rw [← h2]; exact hk⟩
    rw [hem, hek]
    unfold Instr.mapUpdate
    simp only [Sem.run_bind, run_underlying ht, Result.andThen_ok, Go.MapKept.run_getObj_map hheap, hck, run_findKey hkd h1, Go.MapKept.run_setObj_map _ hheap]
  · rw [Nat.zero_add] at h1
    have hi : i < es.size := by simpa using h2
    have hkeep : (Instr.keyThatStays (((es[i]?).map (·.key)).getD kv) kv).run P κ.w = .ok kv κ.w := by
      have : ((es[i]?).map (·.key)).getD kv = kv := by
        simp only [Array.getElem?_eq_getElem hi, Option.map_some, Option.getD_some]
        simpa using h3
      rw [this]
      exact run_keyThatStays hkey
    obtain ⟨hle, hI'⟩ := hI.setMap hh hb hheap hbase hIb (es' := es.modify i fun e => { e with key := kv, val := ev x }) (clock' := clock) (kvs' := kvs.set i (kv, α x)) (by simp [hn]) (by
        intro e he
        obtain ⟨j, hj, rfl⟩ := Array.getElem_of_mem he
        have hj' : j < es.size := by simpa using hj
        have hb0 := hborn es[j] (Array.getElem_mem _)
        rw [Array.getElem_modify]
        split
        · exact hb0
        · exact hb0) (by
        have : ((es.modify i fun e => { e with key := kv, val := ev x }).toList.map (·.born)) = es.toList.map (·.born) := by
          apply List.ext_getElem (by simp)
          intro j h1 h2
          simp only [List.getElem_map, Array.getElem_toList, Array.getElem_modify]
          split <;> rfl
        rw [this]; exact hnd) (by
        intro j hj hj'
        rw [Array.getElem_modify, List.getElem_set]
        split
        · exact ⟨rfl, hvx⟩
        · exact hall j (by simpa using hj) _)
    refine iE_ (s := Instr.mapUpdate t (ev m) (ev k) (ev x)) rfl ⟨_, ?_, _, .any, _, rfl, hle, hI', .any _, by rw [← h4]; exact hk⟩
    rw [hem, hek]
    unfold Instr.mapUpdate
    simp only [Sem.run_bind, run_underlying ht, Result.andThen_ok, Go.MapKept.run_getObj_map hheap, hck, run_findKey hkd h1, hkeep, Go.MapKept.run_setObj_map _ hheap]
theorem AOp_delete {t t2 kt et:TypeId} {kd:TypeDesc} {m k:Operand} {mo:Nat} {kv:Value} {kvs:List (Value × AVal)} (ho:o.op=.call { callee:=.builtin .delete,args:=#[m,k],argTypes:=#[t,t2] }) (ht:P.underlying t=some (.map kt et)) (hkd:P.underlying kt=some kd)
  (hm:α m=.map mo) (hh:σ.heap mo=some (.map kvs)) (hkv:α k=.lit kv) (hkey:IsKey kd kv) (hkeys:∀ x∈kvs,IsKey kd x.1) (hk:Kk (.tup []) (σ.set mo (.map (d2_ kv kvs)))):AOp P o α σ Kk:=by
 obtain ⟨dst,op,ty,pos,after,guard⟩:=o
 obtain rfl:op=_:=ho
 intro κ ev hI hxx
 have hvm:=hxx m (by simp [Op.operands,Call.operands])
 have hvk:=hxx k (by simp [Op.operands,Call.operands])
 rw [hm] at hvm
 rw [hkv] at hvk
 have hek:=hvk.litInv
 obtain ⟨b,hb,hbase,hIb,es,clock,hheap,hn,hborn,hnd,hall⟩:=hI.heap mo _ hh
 have hem:ev m=.map (some b):=by
  generalize ev m=u at hvm
  cases hvm with
  |map _ b' hb'=>rw [hb] at hb';obtain rfl:=Option.some.inj hb';rfl
 have hlist:∀ i (hi:i < kvs.length) (hj:i < es.toList.length),es.toList[i].key=kvs[i].1∧Rv κ kvs[i].2 es.toList[i].val:=fun i hi hj=>by simpa using hall i hi (by simpa using hj)
 have hfind:=ea_ hkey es.toList kvs 0 (by simpa using hn) hlist hkeys
 have hck:∀ e,(Instr.checkKey e 10000 kt kv).run P κ.w=.ok () κ.w:=fun e=>run_checkKey hkd hkey _ _
 rcases hfind with ⟨h1,_,h2⟩ | ⟨i,v,h1,h2,_,_,h5⟩
 ·obtain ⟨hle,hI'⟩:=hI.setMap hh hb hheap hbase hIb (es':=es) (clock':=clock) (kvs':=kvs) hn hborn hnd hall
  refine ay_ (s:=Builtin.delete_ #[t,t2] ty #[ev m,ev k]) (by simp [execOp,resolve,invoke,builtin]) ⟨.tuple #[],_,?_,_,.tup [],_,rfl,hle,hI',.tup [] _ rfl (fun i hi=>by simp at hi),by rw [h2] at hk;exact hk⟩
  rw [hem,hek]
  unfold Builtin.delete_
  simp [run_underlying ht,Go.MapKept.run_getObj_map hheap,hck,run_findKey hkd h1,Go.MapKept.run_setObj_map _ hheap,Result.andThen]
 ·rw [Nat.zero_add] at h1
  have hi:i < es.size:=by simpa using h2
  have hsub:(es.eraseIdxIfInBounds i).toList=es.toList.eraseIdx i:=by simp [Array.eraseIdxIfInBounds,hi]
  obtain ⟨hle,hI'⟩:=hI.setMap hh hb hheap hbase hIb (es':=es.eraseIdxIfInBounds i) (clock':=clock) (kvs':=kvs.eraseIdx i) (by
    rw [← Array.length_toList,hsub,List.length_eraseIdx,List.length_eraseIdx];simp [hn]) (by
    intro e he
    have:e∈(es.eraseIdxIfInBounds i).toList:=Array.mem_toList_iff.2 he
    rw [hsub] at this
    exact hborn e (Array.mem_toList_iff.1 ((List.eraseIdx_sublist _ _).subset this))) (by
    rw [hsub];exact hnd.sublist ((List.eraseIdx_sublist _ _).map _)) (by
    intro j hj hj'
    have hjj:j < (es.toList.eraseIdx i).length:=by rw [← hsub,Array.length_toList];exact hj'
    have e1:(es.eraseIdxIfInBounds i)[j]=(es.toList.eraseIdx i)[j]:=by
     have:(es.eraseIdxIfInBounds i).toList[j]?=(es.toList.eraseIdx i)[j]?:=by rw [hsub]
     rw [List.getElem?_eq_getElem hjj,List.getElem?_eq_getElem (by rw [Array.length_toList];exact hj'),Array.getElem_toList] at this
     exact Option.some.inj this
    rw [e1,List.getElem_eraseIdx,List.getElem_eraseIdx]
    split
    ·exact hlist j _ _
    ·exact hlist (j + 1) _ _)
  refine ay_ (s:=Builtin.delete_ #[t,t2] ty #[ev m,ev k]) (by simp [execOp,resolve,invoke,builtin]) ⟨.tuple #[],_,?_,_,.tup [],_,rfl,hle,hI',.tup [] _ rfl (fun i hi=>by simp at hi),by rw [h5] at hk;exact hk⟩
  rw [hem,hek]
  unfold Builtin.delete_
  simp [run_underlying ht,Go.MapKept.run_getObj_map hheap,hck,run_findKey hkd h1,Go.MapKept.run_setObj_map _ hheap,Result.andThen]
end
end Go.Ab
end

section
set_option linter.all false
namespace Go.Ab
open Go.RowKit (Below)
def Store.delO (σ:Store):Option Nat→Store
 |none=>σ
 |some o=>σ.del o
theorem Store.del_sub (σ:Store) (o:Nat):(σ.del o).Sub σ:=⟨fun i x h=>by
 unfold Store.del at h
 dsimp only at h
 split at h
 ·cases h
 ·exact h,fun _ _ h=>h⟩
theorem Store.delO_sub (σ:Store) (o:Option Nat):(σ.delO o).Sub σ:=by
 cases o with
 |none=>exact .refl σ
 |some o=>exact σ.del_sub o
theorem Store.del_get (σ:Store) (o:Nat):(σ.del o).heap o=none:=by simp [Store.del]
theorem Store.del_ne (σ:Store) {o i:Nat} (h:i≠o):(σ.del o).heap i=σ.heap i:=by simp [Store.del,h]
section
variable {P:Program} {o:Oper} {α:Operand→AVal} {σ:Store} {Kk:AVal→Store→Prop}
theorem d4_ (w:World) (t ty e e':TypeId) (i:TypeInfo) (ht:P.underlying t=some (.slice e)) (hi:P.info? e=some i)
  (g sLen sCap:Nat) (cur:Array Value) (hg:w.heap[g]?=some (.cells cur e' (0,0)))
  (a:Addr) (m c:Nat) (news:List Value) (hl:news.length=m * i.size) (hnews:∀ j u,news[j]?=some u→w.cell? (a.add j)=some u) (h1:∀ u∈news,u.oneCell'=true)
  (hroom:sLen + m≤sCap) (hfit:sLen * i.size + news.length≤cur.size) :
  (Builtin.append_ #[t,t] ty #[.slice (some ⟨g,0,none⟩) sLen sCap,.slice (some a) m c]).run P w =
   .ok (.slice (some ⟨g,0,none⟩) (sLen + m) sCap) (w.setRow g (cur.toList.take (sLen * i.size) ++ news ++ cur.toList.drop (sLen * i.size + news.length)).toArray):=by
 have hf:=run_firstCells_some (P:=P) w i.size m a m c news hl hnews
 have hst:=run_storeCells_at P g (sLen * i.size) e' news 0 cur w hg (by simpa using hfit) h1
 simp only [Nat.add_zero] at hst
 simp [Builtin.append_,run_underlying ht,sizeOf,typeInfo,hi,Builtin.lenOf,hroom,hf,Addr.add_lit,hst]
theorem AOp_appendM {s x:Operand} {t e:TypeId} {sz by_ len:Nat} {l2 base:List AVal} {old:Option Nat}
  (ho:o.op=.call { callee:=.builtin .append,args:=#[s,x],argTypes:=#[t,t] }) (hse:ad_ P t=some e) (hte:al_ P e=some (sz,by_))
  (hs:(∃ so cs,α s=.msl so sz 0 len∧σ.heap so=some (.cells cs)∧old=some so∧base=cs.take (len * sz)∧len * sz≤cs.length)∨(α s=.lit (.slice none 0 0)∧len=0∧base=[]∧old=none))
  (hx:slOf (α x)=some (sz,l2)) (hne:l2≠[]) (hone:∀ y∈l2,∀ c∈y.cells,c.one=true)
  (hlen:(len + l2.length) * by_≤140737488355328)
  (hk:∀ o',σ.heap o'=none→Kk (.msl o' sz 0 (len + l2.length)) ((σ.delO old).set o' (.cells (base ++ flat l2)))):AOp P o α σ Kk:=by
 obtain ⟨dst,op,ty,pos,after,guard⟩:=o
 obtain rfl:op=.call { callee:=.builtin .append,args:=#[s,x],argTypes:=#[t,t] }:=ho
 intro κ ev hI hxx
 obtain ⟨i,z,hi,hz,hisz,hiby,hzs,hsz,hby⟩:=aB_ hte
 subst hisz
 subst hiby
 have hts:P.underlying t=some (.slice e):=by
  unfold ad_ at hse
  split at hse
  ·rename_i e' he';obtain rfl:=Option.some.inj hse;exact he'
  ·cases hse
 have hvs:=hxx s (by simp [Op.operands,Call.operands])
 have hvx:=hxx x (by simp [Op.operands,Call.operands])
 have hm:0 < l2.length:=List.length_pos_iff.2 hne
 have hle47:len + l2.length≤140737488355328:=Nat.le_trans (Nat.le_mul_of_pos_right _ hby) hlen
 obtain ⟨ad,cap2,vs,hevx,hl2sz,hvsr,hcu⟩:∃ ad cap2 vs,ev x=.slice (some ad) l2.length cap2∧(∀ y∈l2,y.cells.length=i.size)∧RvC κ (flat l2) vs∧∀ j u,vs[j]?=some u→κ.w.cell? (ad.add j)=some u:=by
  obtain ⟨a,cap,us2,hev,hsz',hr,hc⟩:=cs_ (cr_ hx hvx)
  rcases hc with ⟨_,h0,_⟩ | ⟨ad,rfl,hcu⟩
  ·exact absurd h0 hne
  ·exact ⟨ad,cap,us2,hev,hsz',hr,hcu⟩
 have hfl2:vs.length=l2.length * i.size:=by rw [← hvsr.1,av_ hl2sz]
 have hones:∀ u∈vs,u.oneCell'=true:=by
  intro u hu
  obtain ⟨j,hj,rfl⟩:=List.getElem_of_mem hu
  have hj':j < (flat l2).length:=by rw [hvsr.1];exact hj
  refine ((hvsr.2 j hj' hj).one ?_).1
  have:(flat l2)[j]∈flat l2:=List.getElem_mem hj'
  unfold flat at this
  obtain ⟨y,hy,hc⟩:=List.mem_flatMap.1 this
  exact hone y hy _ hc
 obtain ⟨o',ho',hfr⟩:=hI.fresh
 have hI0:=hI.sub (Store.delO_sub σ old)
 have fresh:∀ (olds:List Value) (cap':Nat),RvC κ base olds→olds.length=len * i.size→len + l2.length≤cap'→cap'≤maxLen →
   Post κ Kk (.slice (some ⟨κ.w.heap.size,0,none⟩) (len + l2.length) cap') (κ.w.drew.alloc (.cells (olds.toArray ++ vs.toArray ++ Builtin.zeroCells z.cells (cap' - (len + l2.length))) e)):=by
  intro olds cap' hb hol hcap hcml
  have hd:=hI0.drew
  have hnew:=hb.append hvsr
  have hsize:(olds.toArray ++ vs.toArray ++ Builtin.zeroCells z.cells (cap' - (len + l2.length))).size=cap' * i.size:=by
   simp only [Array.size_append,List.size_toArray,size_zeroCells,hzs,hol,hfl2,← Nat.add_mul]
   congr 1;omega
  obtain ⟨κ',hw,hle,hρ,hI'⟩:=hd.2.alloc o' ho' (.cells (base ++ flat l2)) (.cells (olds.toArray ++ vs.toArray ++ Builtin.zeroCells z.cells (cap' - (len + l2.length))) e) fun κ' hle hh _=>by
   refine ⟨_,e,hh,?_,fun j hj=>?_⟩
   ·rw [hsize,hnew.1,List.length_append,hol,hfl2,← Nat.add_mul];exact Nat.mul_le_mul_right _ hcap
   ·have hj':j < (olds ++ vs).length:=by rw [← hnew.1];exact hj
    have e1:(olds.toArray ++ vs.toArray ++ Builtin.zeroCells z.cells (cap' - (len + l2.length))).getD j undef=(olds ++ vs)[j]:=by
     simp only [Array.getD_eq_getD_getElem?]
     rw [Array.getElem?_append_left (by simpa using hj')]
     simp only [List.append_toArray,List.getElem?_toArray]
     rw [List.getElem?_eq_getElem hj'];rfl
    rw [e1]
    exact (hnew.2 j hj hj').mono (hd.1.trans hle)
  have hheap:κ'.w.heap[κ.w.heap.size]?=some (.cells (olds.toArray ++ vs.toArray ++ Builtin.zeroCells z.cells (cap' - (len + l2.length))) e (0,0)):=by
   rw [hw];exact Go.heap_alloc_new κ.w.drew _
  exact ⟨κ',.msl o' i.size 0 (len + l2.length),_,hw,hd.1.trans hle,hI',.msl o' i.size 0 _ κ.w.heap.size cap' _ e hρ hcap (by unfold World.shape?;rw [hheap]) ⟨by rw [hsize];omega,hcml⟩,hk o' hfr⟩
 refine ay_ (s:=Builtin.append_ #[t,t] ty #[ev s,ev x]) (by simp [execOp,resolve,invoke,builtin]) ?_
 rcases hs with ⟨so,cs,hs1,hs2,rfl,rfl,hcsl⟩ | ⟨hs1,rfl,rfl,rfl⟩
 ·rw [hs1] at hvs
  generalize ev s=us at hvs
  cases hvs with
  |msl _ _ _ _ b cap n el hb hlc hsh hn =>
  obtain ⟨b',hb',hbase,hIb,c,el',hheap,hcl,hcv⟩:=hI.heap so _ hs2
  rw [hb] at hb'
  obtain rfl:=Option.some.inj hb'
  have hcn:c.size=n:=by
   unfold World.shape? at hsh
   rw [hheap] at hsh
   simpa using congrArg (Option.map (·.2)) hsh
  have hlc':len * i.size≤c.size:=by omega
  have holds:RvC κ (cs.take (len * i.size)) (c.toList.take (len * i.size)):=by
   refine ⟨by simp;omega,fun j hj hj'=>?_⟩
   simp only [List.length_take] at hj hj'
   have:=hcv j (by omega)
   simp only [List.getElem_take,Array.getElem_toList]
   simpa [show j < c.size by omega] using this
  have holen:(c.toList.take (len * i.size)).length=len * i.size:=by simp;omega
  by_cases hroom:len + l2.length≤cap
  ·have hfit:len * i.size + vs.length≤c.size:=by
    rw [hfl2,← Nat.add_mul]
    have:=Nat.mul_le_mul_right i.size hroom
    omega
   have hr:=d4_ (P:=P) κ.w t ty e el' i hts hi b len cap c hheap ad l2.length cap2 vs hfl2 hcu hones hroom hfit
   rw [hevx]
   refine ⟨_,_,hr,?_⟩
   obtain ⟨cur',hcur'⟩:∃ cur':Array Value,cur'=(c.toList.take (len * i.size) ++ vs ++ c.toList.drop (len * i.size + vs.length)).toArray:=⟨_,rfl⟩
   rw [← hcur']
   have hcs':cur'.size=c.size:=by
    rw [hcur']
    simp only [List.size_toArray,List.length_append,holen,List.length_drop,Array.length_toList];omega
   have hgt:=setRow_heap κ.w b c cur' el' (0,0) hheap
   have hle:κ.Le { κ with w:=κ.w.setRow b cur',ρ:=fun k=>if k=o' then some b else κ.ρ k }:=by
    refine ⟨rfl,⟨rfl,rfl,rfl,by simp [World.setRow],fun k hk=>setRow_other κ.w b k cur' (by omega)⟩,fun b2 s hs=>?_,fun k b2 hk=>?_,fun _ _ h=>h,fun _=>Nat.le_refl _,fun b2 off v ho hv=>?_,Nat.le_refl _,fun _ _=>rfl⟩
    ·by_cases hbb:b2=b
     ·subst hbb
      unfold World.shape? at hs ⊢
      rw [hheap] at hs
      dsimp only
      rw [hgt]
      simpa [hcs'] using hs
     ·unfold World.shape? at hs ⊢
      dsimp only
      rw [setRow_other κ.w b b2 cur' hbb]
      exact hs
    ·show (if k=o' then _ else _)=_
     rw [if_neg (fun hh=>by rw [hh,ho'] at hk;cases hk)];exact hk
    ·have hbb:b2≠b:=fun hh=>by rw [hh,hIb] at ho;omega
     simp only [World.cell?] at hv ⊢
     rw [setRow_other κ.w b b2 cur' hbb]
     exact hv
   have hnew:=holds.append hvsr
   refine ⟨{ κ with w:=κ.w.setRow b cur',ρ:=fun k=>if k=o' then some b else κ.ρ k },.msl o' i.size 0 (len + l2.length),_,rfl,hle,?_,?_,hk o' hfr⟩
   ·refine hI0.step hle rfl rfl ?_ b hbase hIb (fun b2 hne _=>setRow_other κ.w b b2 cur' hne) o' _ (fun k hk=>by simp [hk]) (by simp) ⟨cur',el',hgt,?_,fun j hj=>?_⟩ ?_ ?_
    ·obtain ⟨N,hN⟩:=hI.frO
     refine ⟨N + o' + 1,fun k hk=>?_⟩
     show (if k=o' then _ else _)=_
     rw [if_neg (by omega)]
     exact hN k (by omega)
    ·rw [hnew.1,hcs',List.length_append,holen];exact hfit
    ·have hj':j < (c.toList.take (len * i.size) ++ vs).length:=by rw [← hnew.1];exact hj
     have e1:cur'.getD j undef=(c.toList.take (len * i.size) ++ vs)[j]:=by
      rw [hcur']
      simp only [Array.getD_eq_getD_getElem?,List.getElem?_toArray]
      rw [List.getElem?_append_left hj',List.getElem?_eq_getElem hj']
      rfl
     rw [e1]
     exact (hnew.2 j hj hj').mono hle
    ·intro k y hy hne hh
     have hkne:k≠so:=fun hh'=>by
      simp only [Store.delO] at hy
      rw [hh',Store.del_get] at hy;cases hy
     simp only [Store.delO] at hy
     rw [Store.del_ne _ hkne] at hy
     exact hkne (hI.inj k so _ _ b hy hs2 hh hb)
    ·intro tt q v ht hv hh
     exact hI.tokobj tt q v b so _ ht hv hh hs2 hb
   ·exact .msl o' i.size 0 _ b cap n el (by simp) hroom (hle.shape b _ hsh) hn
  ·have hcells:∀ j u,(c.toList.take (len * i.size))[j]?=some u→κ.w.cell? ((⟨b,0,none⟩:Addr).add j)=some u:=by
    intro j u hu
    rw [a6_,Nat.zero_add,cell_of_row _ _ _ _ _ _ hheap]
    rw [List.getElem?_take] at hu
    split at hu
    ·simpa using hu
    ·cases hu
   have hr:=run_append_grow (P:=P) κ.w t ty e i z hts hi hz ⟨b,0,none⟩ len cap _ holen hcells ad l2.length cap2 vs hfl2 hcu (by omega) (by omega) (growslice_fits (by omega) hlen)
   rw [hevx]
   exact ⟨_,_,hr,fresh _ _ holds holen (grownCap_ge _ _ _ _) (grownCap_le_maxLen _ _ _ _ (by simp only [maxLen];omega))⟩
 ·rw [hs1] at hvs
  rw [hvs.litInv,hevx]
  have hr:=run_append_nil (P:=P) κ.w t ty e i z hts hi hz ad l2.length cap2 vs hfl2 hcu hm (by omega) (by have:=hlen;simp only [Nat.zero_add] at this;omega)
  refine ⟨_,_,hr,?_⟩
  have:=fresh [] (grownCap κ.w l2.length 0 e) .nil (by simp) (by have:=grownCap_ge κ.w l2.length 0 e;omega) (grownCap_le_maxLen _ _ _ _ (by simp only [maxLen];omega))
  simpa using this
end
end Go.Ab
end

section
set_option linter.all false
namespace Go.Ab
section
variable {P:Program} {ops:Array Oper}
theorem iC_ {listed:Array Bool} {i:Nat} (h:listed.getD i true=false):listed.getD i false=false:=by
 simp only [Array.getD_eq_getD_getElem?] at *
 cases hl:listed[i]? with
 |none=>simp
 |some b=>rw [hl] at h;simpa using h
theorem eP_ (m j:Nat):(Array.replicate m false).getD j false=false:=by
 simp only [Array.getD_eq_getD_getElem?,Array.getElem?_replicate]
 split <;> rfl
theorem cx_ {o:Oper} {α α':Operand→AVal} {σ:Store} {Kk:AVal→Store→Prop} (h:∀ x∈o.op.operands,α x=α' x) (ha:AOp P o α σ Kk):AOp P o α' σ Kk :=
 fun κ ev hI hx=>ha κ ev hI fun x hx'=>by rw [h x hx'];exact hx x hx'
theorem iP_ {op:Op} {α α':Operand→AVal} {σ:Store} (h:∀ x∈op.operands,α x=α' x):aval P op α σ=aval P op α' σ:=by
 cases op <;> simp only [Op.operands] at h <;> simp only [aval]
 case build t ps =>
  congr 1
  apply List.map_congr_left
  intro p hp
  rw [h p.2 (by simp;exact ⟨p.1,by simpa using hp⟩)]
 case makeFunc fn first captured =>
  rw [List.map_congr_left (fun x hx=>h x (by simp;exact .inl (by simpa using hx))),List.map_congr_left (fun x hx=>h x (by simp;exact .inr (by simpa using hx)))]
 case call c =>
  have hargs:c.args.toList.map α=c.args.toList.map α':=List.map_congr_left fun x hx=>h x (by simp [Call.operands];exact .inr (by simpa using hx))
  unfold jf_
  split
  ·split
   ·rename_i x t hx ht
    rw [h x (by simp only [Call.operands,Array.mem_append];right;rw [← Array.mem_toList_iff,hx];simp)]
   ·rfl
  ·rw [hargs]
  ·rw [hargs]
  ·rfl
 case slice t x lo hi mx=>cases lo <;> cases hi <;> cases mx <;> simp_all
 all_goals (first | rfl | (simp_all;done))
theorem lr_ {e:Env} {d:Option Tmp} {a:AVal} {x:Operand} (h:∀ t,d=some t→x≠.tmp t):aev (updo e d a) x=aev e x:=by
 cases d with
 |none=>rfl
 |some t =>
  cases x with
  |tmp u =>
   have:u≠t:=fun hh=>h t rfl (by rw [hh])
   simp [aev,updo,upd,this]
  |_=>rfl
theorem bE_ (e:Env) {x y:Option Tmp} (a b:AVal) (h:∀ d,x=some d→y≠some d):updo (updo e x a) y b=updo (updo e y b) x a:=by
 cases x with
 |none=>rfl
 |some d =>
  cases y with
  |none=>rfl
  |some d' =>
   have hne:d≠d':=fun hh=>h d rfl (by rw [hh])
   funext k
   simp only [updo,upd]
   by_cases h1:k=d
   ·subst h1;simp [hne]
   ·simp [h1]
theorem bB_ {e:Env} {d:Option Tmp} {a:AVal} {o:Oper} (h:∀ t,d=some t→t ∉ o.looksAt ops):∀ x∈o.op.operands,aev (updo e d a) x=aev e x :=
 fun x hx=>lr_ fun t ht hxt=>h t ht (by
  subst hxt
  exact List.mem_append_left _ (List.mem_filterMap.2 ⟨.tmp t,by simpa using hx,rfl⟩))
theorem bF_ {e:Env} {d:Option Tmp} {a:AVal} {o:Oper} (h:∀ t,d=some t→t ∉ o.looksAt ops):aC_ ops o (updo e d a)=aC_ ops o e:=by
 cases d with
 |none=>rfl
 |some t =>
  unfold aC_
  cases hg:o.guard with
  |none=>rfl
  |some gw =>
   obtain ⟨g,want⟩:=gw
   dsimp only
   cases ht:(ops[g]?).bind (·.dst) with
   |none=>rfl
   |some u =>
    have hne:u≠t:=fun hh=>h t rfl (by subst hh;simp [Oper.looksAt,hg,ht])
    simp [updo,upd,hne]
def aV_ (P:Program) (ops:Array Oper) (i:Nat) (Kk:Env→Store→Prop) (e:Env) (σ:Store):Prop :=
 match ops[i]? with
 |none=>Kk e σ
 |some o=>aT_ P ops o Kk e σ
theorem aw_ {o:Oper} {Kk Kk':Env→Store→Prop} {e:Env} {σ:Store} (h:∀ e σ,Kk e σ→Kk' e σ) (ha:aT_ P ops o Kk e σ):aT_ P ops o Kk' e σ:=by
 unfold aT_ at *
 split at ha
 ·exact ha.mono fun v σ'=>h _ _
 ·exact h _ _ ha
 ·exact ha.elim
theorem dH_ {i:Nat} {Kk Kk':Env→Store→Prop} {e:Env} {σ:Store} (h:∀ e σ,Kk e σ→Kk' e σ) (ha:aV_ P ops i Kk e σ):aV_ P ops i Kk' e σ:=by
 unfold aV_ at *
 split
 ·exact h _ _ (by simpa [*] using ha)
 ·rename_i o ho
  simp only [ho] at ha
  exact aw_ h ha
def aAny (P:Program) (ops:Array Oper) (hd:Nat→Bool) (s0:Store) (Kk:Env→Store→Prop):Nat→Array Bool→Env→Store→Prop
 |0,listed,e,σ=>Region.ready .any ops listed=[]∧Kk e σ
 |fuel + 1,listed,e,σ=>(Region.ready .any ops listed=[]→Kk e σ) ∧
  ∀ i∈Region.ready .any ops listed,aV_ P ops i (fun e' σ'=>(hd i=true→s0.Sub σ→s0.Sub σ')∧aAny P ops hd s0 Kk fuel (listed.setIfInBounds i true) e' σ') e σ
theorem aN_ {hd:Nat→Bool} {s0:Store} {Kk:Env→Store→Prop} {n:Nat} {κ0:K} {Q:Exit→Act→World→Prop} (hok:∀ (i:Nat) o,ops[i]?=some o→cQ_ n ops o=true)
  (hQ:∀ κ e σ a,κ0.Le κ→ASat κ n e σ a→Kk e σ→Q .normal a κ.w) :
  ∀ (fuel:Nat) (listed:Array Bool) (e:Env) (σ:Store) κ a,κ0.Le κ→ASat κ n e σ a→aAny P ops hd s0 Kk fuel listed e σ→wpAny P .any ops Q fuel listed a κ.w
 |0,listed,e,σ,κ,a,hle,hs,h=>⟨h.1,hQ κ e σ a hle hs h.2⟩
 |fuel + 1,listed,e,σ,κ,a,hle,hs,h=>by
  refine ⟨fun h0=>hQ κ e σ a hle hs (h.1 h0),fun i hi=>?_⟩
  have h1:=h.2 i hi
  unfold aV_ at h1
  unfold wpOp
  split
  ·rename_i ho
   simp only [ho] at h1
   exact aN_ hok hQ fuel _ e σ κ a hle hs h1.2
  ·rename_i o ho
   simp only [ho] at h1
   have hdo:=hok i o ho
   unfold aT_ at h1
   split at h1
   ·rename_i hw
    rw [if_pos (aH_ hs hw (aW_ hdo))]
    left
    refine Oper.wp_of_aop hs h1 fun cv w' ⟨κ',x,σ',q1,q2,q3,q4,q5⟩=>?_
    subst q1
    exact aN_ hok hQ fuel _ _ σ' κ' _ (hle.trans q2) (hs.put q2 q3 (bc_ hdo) q4) q5.2
   ·rename_i hw
    rw [if_neg (by rw [aH_ hs hw (aW_ hdo)];simp)]
    exact aN_ hok hQ fuel _ _ σ κ _ hle (hs.put (.refl κ) hs.inv (bc_ hdo) (.lit _)) h1.2
   ·exact h1.elim
def AYields (P:Program) (ops:Array Oper) (s0:Store) (o:Oper) (a:AVal) (e:Env):Prop :=
 (aC_ ops o e=some true∧aval P o.op (aev e) s0=some a)∨(aC_ ops o e=some false∧a=.lit undef)
def cI_:Op→Bool
 |.move _ | .assign _ | .pick _ _ _ | .nilCheck _ | .unOp _ _ _ | .convert _ _ _ | .fieldAddr _ _ _ | .field _ _ _ | .indexAddr _ _ _ | .index _ _ _ | .extract _ _ | .slice _ _ _ _ _ | .makeInterface _ _ | .makeFunc _ _ _ | .build _ _ | .typeAssert _ _ _ _=>true
 |_=>false
theorem cU_ {op:Op} (h:cI_ op=true) (α:Operand→AVal) (σ σ':Store):aval P op α σ=aval P op α σ':=by
 cases op <;> first | rfl | (simp [cI_] at h)
theorem AYields.opAt {s0:Store} {i:Nat} {o:Oper} {a:AVal} {e:Env} {σ:Store} (hi:ops[i]?=some o) (hy:AYields P ops s0 o a e) (hs:s0.Sub σ) {Kk:Env→Store→Prop} (h:Kk (updo e o.dst a) σ):aV_ P ops i Kk e σ:=by
 unfold aV_ aT_
 simp only [hi]
 rcases hy with ⟨hw,ha⟩ | ⟨hw,rfl⟩
 ·simp only [hw];exact d5_ ha hs h
 ·simp only [hw];exact h
theorem AYields.less {s0 s:Store} {o:Oper} {a:AVal} {e:Env} (h:cI_ o.op=true) (hy:AYields P ops s0 o a e):AYields P ops s o a e:=by
 unfold AYields at *
 rw [cU_ h _ s s0];exact hy
theorem AYields.other {s0:Store} {o:Oper} {a b:AVal} {d:Option Tmp} {e:Env} (h:∀ t,d=some t→t ∉ o.looksAt ops) (hy:AYields P ops s0 o a e):AYields P ops s0 o a (updo e d b):=by
 unfold AYields at *
 rw [bF_ h,iP_ (bB_ h)]
 exact hy
theorem dI_ {Y:Env→Prop} {j:Nat} {oi oj:Oper} {a:AVal} {e:Env} {σ:Store} {Kk:Env→Store→Prop} (hj:ops[j]?=some oj) (hap:oi.apart ops oj=true)
  (hY:∀ (d:Option Tmp) (b:AVal) (e':Env),(∀ t,d=some t→t ∉ oi.looksAt ops)→Y e'→Y (updo e' d b)) (hy:Y e) (h:aV_ P ops j Kk (updo e oi.dst a) σ) :
  aV_ P ops j (fun e' σ'=>Y e'∧Kk (updo e' oi.dst a) σ') e σ:=by
 obtain ⟨h1,h2,h3⟩:=Oper.apart_spec hap
 unfold aV_ aT_ at *
 simp only [hj] at *
 rw [bF_ h1] at h
 split
 ·rename_i hw
  simp only [hw] at h
  refine cx_ (bB_ (ops:=ops) h1) (h.mono fun v σ' hk=>⟨hY _ _ _ h3 hy,?_⟩)
  rw [← bE_ e a v h2];exact hk
 ·rename_i hw
  simp only [hw] at h
  refine ⟨hY _ _ _ h3 hy,?_⟩
  rw [← bE_ e a (.lit undef) h2];exact h
 ·rename_i hw
  simp only [hw] at h
def fG_ (ops:Array Oper):Nat→Nat→Nat→Bool
 |0,_,_=>false
 |f + 1,t,i=>match ops[t]? with
  |some o=>o.after.any fun ed=>Region.binds .any ed && (ed.on == i || fG_ ops f ed.on i)
  |none=>false
def dR_ (ops:Array Oper) (listed:Array Bool):Prop :=
 listed.size=ops.size∧∀ j oj,ops[j]?=some oj→listed.getD j false=true→∀ ed∈oj.after,Region.binds .any ed=true→listed.getD ed.on false=true
theorem dR_.set {listed:Array Bool} {i:Nat} (h:dR_ ops listed) (hi:i∈Region.ready .any ops listed):dR_ ops (listed.setIfInBounds i true):=by
 obtain ⟨_,oi,hoi,hall⟩:=mem_ready.1 hi
 refine ⟨by simp [h.1],fun j oj hj hl ed he hb=>?_⟩
 by_cases hij:i=j
 ·subst hij
  obtain rfl:oj=oi:=Option.some.inj (hj.symm.trans hoi)
  exact getD_set_true (hall ed he hb)
 ·rw [getD_set_ne false hij] at hl
  exact getD_set_true (h.2 j oj hj hl ed he hb)
theorem cH_ {listed:Array Bool} (h:dR_ ops listed):∀ (f t i:Nat) ot,ops[t]?=some ot→(∀ ed∈ot.after,Region.binds .any ed=true→listed.getD ed.on false=true)→fG_ ops f t i=true→listed.getD i false=true
 |0,_,_,_,_,_,hr=>by cases hr
 |f + 1,t,i,ot,ht,hall,hr=>by
  unfold fG_ at hr
  simp only [ht] at hr
  obtain ⟨ed,he,hb⟩:=Array.any_eq_true'.1 hr
  simp only [Bool.and_eq_true,Bool.or_eq_true,beq_iff_eq] at hb
  have hl:=hall ed he hb.1
  rcases hb.2 with hb2 | hb2
  ·rw [← hb2];exact hl
  ·cases ho:ops[ed.on]? with
   |none =>
    have h1:ops.size≤ed.on:=by
     rcases Nat.lt_or_ge ed.on ops.size with hh | hh
     ·rw [Array.getElem?_eq_getElem hh] at ho;cases ho
     ·exact hh
    rw [show listed.getD ed.on false=false by simp [Array.getElem?_eq_none (show listed.size≤ed.on by rw [h.1];exact h1)]] at hl
    cases hl
   |some o'=>exact cH_ h f ed.on i o' ho (fun ed' he' hb'=>h.2 ed.on o' ho hl ed' he' hb') hb2
theorem bu_ {hd:Nat→Bool} {s0:Store} {Kk:Env→Store→Prop} {i:Nat} {oi:Oper} {a:AVal} {Y:Env→Prop} {G:Store→Prop} (hi:ops[i]?=some oi)
  (hY:∀ (d:Option Tmp) (b:AVal) (e':Env),(∀ t,d=some t→t ∉ oi.looksAt ops)→Y e'→Y (updo e' d b)) (hat:∀ e σ,Y e→G σ→∃ s:Store,s.Sub σ∧AYields P ops s oi a e)
  (htail:(∀ σ,G σ)∨((∀ σ,G σ ↔ s0.Sub σ)∧∀ t,t < ops.size→hd t=false→fG_ ops ops.size t i=true)) :
  ∀ (fuel:Nat) (listed:Array Bool) (e:Env) (σ:Store),dR_ ops listed→G σ →
   (∀ j oj,ops[j]?=some oj→j≠i→listed.getD j true=false→(∀ ed∈oj.after,Region.binds .any ed=true→ed.on≠i)→oi.apart ops oj=true) →
   i∈Region.ready .any ops listed→Y e →
   aAny P ops hd s0 Kk fuel (listed.setIfInBounds i true) (updo e oi.dst a) σ→aAny P ops hd s0 Kk (fuel + 1) listed e σ:=by
 intro fuel
 induction fuel with
 |zero =>
  intro listed e σ hcl hs _ hr hy H
  refine ⟨fun h=>(by rw [h] at hr;cases hr),fun j hj=>?_⟩
  by_cases hji:j=i
  ·subst hji
   obtain ⟨s,hs1,hs2⟩:=hat e σ hy hs
   exact hs2.opAt hi hs1 ⟨fun _ h=>h,H⟩
  ·have:=ready_mono hj hji
   rw [H.1] at this
   cases this
 |succ fuel ih =>
  intro listed e σ hcl hs hfree hr hy H
  refine ⟨fun h=>(by rw [h] at hr;cases hr),fun j hj=>?_⟩
  by_cases hji:j=i
  ·subst hji
   obtain ⟨s,hs1,hs2⟩:=hat e σ hy hs
   exact hs2.opAt hi hs1 ⟨fun _ h=>h,H⟩
  ·have h1:=H.2 j (ready_mono hj hji)
   obtain ⟨hjun,oj,hoj,hall⟩:=mem_ready.1 hj
   have hiun:listed.getD i false=false:=iC_ (mem_ready.1 hr).1
   have hnot:∀ ed∈oj.after,Region.binds .any ed=true→ed.on≠i:=fun ed he hb heq=>by
    have h1:=hall ed he hb
    rw [heq,hiun] at h1
    cases h1
   have hG:∀ σ',(hd j=true→s0.Sub σ→s0.Sub σ')→G σ':=by
    intro σ' hk
    rcases htail with h0 | ⟨h0,htail⟩
    ·exact h0 σ'
    ·refine (h0 σ').2 (hk ?_ ((h0 σ).1 hs))
     cases hh:hd j with
     |true=>rfl
     |false =>
      have hjlt:j < ops.size:=(Array.getElem?_eq_some_iff.1 hoj).1
      have:=cH_ hcl ops.size j i oj hoj hall (htail j hjlt hh)
      rw [hiun] at this
      cases this
   have h2:=dI_ hoj (hfree j oj hoj hji hjun hnot) hY hy h1
   have hfree':∀ k ok,ops[k]?=some ok→k≠i→(listed.setIfInBounds j true).getD k true=false →
     (∀ ed∈ok.after,Region.binds .any ed=true→ed.on≠i)→oi.apart ops ok=true:=fun k ok hk hki hun hno=>by
    refine hfree k ok hk hki ?_ hno
    by_cases hjk:j=k
    ·subst hjk;exact hjun
    ·rw [getD_set_ne true hjk] at hun;exact hun
   refine dH_ (fun e' σ' h3=>⟨h3.2.1,ih (listed.setIfInBounds j true) e' σ' (hcl.set hj) (hG σ' h3.2.1) hfree' (ready_mono hr (Ne.symm hji)) h3.1 ?_⟩) h2
   rw [Array.setIfInBounds_comm _ _ hji]
   exact h3.2.2
inductive DT where
 |nil
 |op (i k:Nat) (r:DT)
 |any (i:Nat) (r:DT)
 |alt (i k:Nat) (r t:DT)
def DT.alts:DT→List Nat
 |.nil=>[]
 |.op i _ _=>[i]
 |.any i _=>[i]
 |.alt i _ _ t=>i :: t.alts
def DT.depth:DT→Nat
 |.nil=>0
 |.op _ _ r=>r.depth + 1
 |.any _ r=>r.depth + 1
 |.alt _ _ r t=>max (r.depth + 1) t.depth
def DT.tails:DT→List Nat
 |.nil=>[]
 |.op i k r=>if k≤1 then r.tails else i :: r.tails
 |.any _ r=>r.tails
 |.alt i k r t=>(if k≤1 then r.tails else i :: r.tails) ++ t.tails
def dRun (P:Program) (ops:Array Oper) (s0:Store) (Kk:Env→Store→Prop):DT→Env→Store→Prop
 |.nil,e,σ=>Kk e σ
 |.op i 0 r,e,σ=>∃ o a,ops[i]?=some o∧AYields P ops s0 o a e∧dRun P ops s0 Kk r (updo e o.dst a) σ
 |.op i 1 r,e,σ=>∃ o,ops[i]?=some o∧aT_ P ops o (fun e' σ'=>s0.Sub σ'∧dRun P ops s0 Kk r e' σ') e σ
 |.op i (_ + 2) r,e,σ=>∃ o,ops[i]?=some o∧aT_ P ops o (dRun P ops s0 Kk r) e σ
 |.any i r,e,σ=>∃ o a,ops[i]?=some o∧(∀ s,AYields P ops s o a e)∧dRun P ops s0 Kk r (updo e o.dst a) σ
 |.alt i 1 r t,e,σ=>(∃ o,ops[i]?=some o∧aT_ P ops o (fun e' σ'=>s0.Sub σ'∧dRun P ops s0 Kk r e' σ') e σ)∧dRun P ops s0 Kk t e σ
 |.alt i _ r t,e,σ=>(∃ o,ops[i]?=some o∧aT_ P ops o (dRun P ops s0 Kk r) e σ)∧dRun P ops s0 Kk t e σ
def okT (ops:Array Oper) (hd:Nat→Bool):DT→Bool→Bool→Array Bool→Bool
 |.nil,b,_,listed=>!b && (Region.ready .any ops listed).isEmpty
 |.op i 0 r,b,tl,listed=>!b && (Region.ready .any ops listed).contains i && Region.free .any ops listed i && (((ops[i]?).map fun o=>cI_ o.op) == some true || (!tl && (List.range ops.size).all fun t=>hd t || fG_ ops ops.size t i)) && okT ops hd r false tl (listed.setIfInBounds i true)
 |.op i (k + 1) r,b,tl,listed=>(b || decide (Region.ready .any ops listed=[i])) && (hd i == decide (k=0)) && (!tl || decide (k≠0)) && okT ops hd r false (decide (k≠0)) (listed.setIfInBounds i true)
 |.any i r,b,tl,listed=>!b && (Region.ready .any ops listed).contains i && Region.free .any ops listed i && okT ops hd r false tl (listed.setIfInBounds i true)
 |.alt _ 0 _ _,_,_,_=>false
 |.alt i (k + 1) r t,b,tl,listed=>(b || decide (Region.ready .any ops listed=i :: t.alts)) && (hd i == decide (k=0)) && (!tl || decide (k≠0)) && okT ops hd r false (decide (k≠0)) (listed.setIfInBounds i true) && okT ops hd t true tl listed
theorem fP_ {hd:Nat→Bool} {s0:Store} {Kk:Env→Store→Prop} (fuel:Nat) {listed:Array Bool} {e:Env} {σ:Store} (h0:Region.ready .any ops listed=[]) (h:Kk e σ):aAny P ops hd s0 Kk fuel listed e σ:=by
 cases fuel with
 |zero=>exact ⟨h0,h⟩
 |succ f=>exact ⟨fun _=>h,fun i hi=>by rw [h0] at hi;cases hi⟩
theorem bp_ {hd:Nat→Bool} {s0:Store} {Kk:Env→Store→Prop} {fuel:Nat} {listed:Array Bool} {e:Env} {σ:Store} {l:List Nat} (hr:Region.ready .any ops listed=l) (hne:l≠[])
  (h:∀ i∈l,i∈Region.ready .any ops listed→aV_ P ops i (fun e' σ'=>(hd i=true→s0.Sub σ→s0.Sub σ')∧aAny P ops hd s0 Kk fuel (listed.setIfInBounds i true) e' σ') e σ):aAny P ops hd s0 Kk (fuel + 1) listed e σ :=
 ⟨fun h0=>absurd (hr.symm.trans h0) hne,fun i hi=>h i (hr ▸ hi) hi⟩
theorem as_ {hd:Nat→Bool} {s0:Store} {Kk:Env→Store→Prop}:∀ (t:DT) (tl:Bool) (listed:Array Bool) (e:Env) (σ:Store),dR_ ops listed→(tl=true∨s0.Sub σ)→dRun P ops s0 Kk t e σ →
  (okT ops hd t false tl listed=true→∀ fuel,t.depth≤fuel→aAny P ops hd s0 Kk fuel listed e σ) ∧
  (∀ b,okT ops hd t b tl listed=true→∀ fuel,t.depth≤fuel + 1→(∀ i r,t≠.op i 0 r)→(∀ i r,t≠.any i r)→∀ i∈t.alts,i∈Region.ready .any ops listed→aV_ P ops i (fun e' σ'=>(hd i=true→s0.Sub σ→s0.Sub σ')∧aAny P ops hd s0 Kk fuel (listed.setIfInBounds i true) e' σ') e σ)
 |.nil,tl,listed,e,σ,hcl,hs,h=>⟨fun hB fuel _=>fP_ fuel (by simpa [okT] using hB) h,fun _ _ _ _ _ _ i hi=>by cases hi⟩
 |.op i 0 r,tl,listed,e,σ,hcl,hs,h=>by
  refine ⟨fun hB fuel hf=>?_,fun _ _ _ _ hne _=>absurd rfl (hne i r)⟩
  obtain ⟨o,a,ho,hy,hrest⟩:=h
  simp only [okT,Bool.and_eq_true,Bool.or_eq_true,Bool.not_eq_true',beq_iff_eq,ho,Option.map_some,Option.some.injEq] at hB
  obtain ⟨⟨⟨⟨_,hr⟩,hfr⟩,htail⟩,hB'⟩:=hB
  have hr':i∈Region.ready .any ops listed:=by simpa using hr
  cases fuel with
  |zero=>simp [DT.depth] at hf
  |succ fuel =>
   have hnext:=(as_ r tl _ _ σ (hcl.set hr') hs hrest).1 hB' fuel (by simpa [DT.depth] using hf)
   rcases htail with hsl | ⟨htl,htail⟩
   ·exact bu_ (Y:=fun e=>AYields P ops s0 o a e) (G:=fun _=>True) ho (fun d b e' hd' hy'=>hy'.other hd') (fun e σ hy' _=>⟨σ,.refl σ,hy'.less hsl⟩) (.inl fun _=>trivial) fuel listed e σ hcl trivial (Region.free_spec ho hfr) hr' hy hnext
   ·have hs':s0.Sub σ:=hs.resolve_left (by rw [htl];decide)
    exact bu_ (Y:=fun e=>AYields P ops s0 o a e) (G:=fun σ=>s0.Sub σ) ho (fun d b e' hd' hy'=>hy'.other hd') (fun e σ hy' hs=>⟨s0,hs,hy'⟩) (.inr ⟨fun _=>Iff.rfl,fun t htlt hht=>by
     have:=List.all_eq_true.1 htail t (List.mem_range.2 htlt)
     simpa [hht] using this⟩) fuel listed e σ hcl hs' (Region.free_spec ho hfr) hr' hy hnext
 |.any i r,tl,listed,e,σ,hcl,hs,h=>by
  refine ⟨fun hB fuel hf=>?_,fun _ _ _ _ _ hne=>absurd rfl (hne i r)⟩
  obtain ⟨o,a,ho,hy,hrest⟩:=h
  simp only [okT,Bool.and_eq_true,Bool.not_eq_true'] at hB
  obtain ⟨⟨⟨_,hr⟩,hfr⟩,hB'⟩:=hB
  have hr':i∈Region.ready .any ops listed:=by simpa using hr
  cases fuel with
  |zero=>simp [DT.depth] at hf
  |succ fuel =>
   have hnext:=(as_ r tl _ _ σ (hcl.set hr') hs hrest).1 hB' fuel (by simpa [DT.depth] using hf)
   exact bu_ (Y:=fun e=>∀ s,AYields P ops s o a e) (G:=fun _=>True) ho (fun d b e' hd' hy' s=>(hy' s).other hd') (fun e σ hy' _=>⟨σ,.refl σ,hy' σ⟩) (.inl fun _=>trivial) fuel listed e σ hcl trivial (Region.free_spec ho hfr) hr' hy hnext
 |.op i 1 r,tl,listed,e,σ,hcl,hs,h=>by
  have key:∀ b,okT ops hd (.op i 1 r) b tl listed=true→∀ fuel,(DT.op i 1 r).depth≤fuel + 1→i∈Region.ready .any ops listed→aV_ P ops i (fun e' σ'=>(hd i=true→s0.Sub σ→s0.Sub σ')∧aAny P ops hd s0 Kk fuel (listed.setIfInBounds i true) e' σ') e σ:=by
   intro b hB fuel hf hi
   obtain ⟨o,ho,hst⟩:=h
   simp only [okT,Bool.and_eq_true] at hB
   unfold aV_
   simp only [ho]
   exact aw_ (fun e' σ' hk=>⟨fun _ _=>hk.1,(as_ r _ _ _ σ' (hcl.set hi) (.inr hk.1) hk.2).1 hB.2 fuel (by simpa [DT.depth] using hf)⟩) hst
  refine ⟨fun hB fuel hf=>?_,fun b hB fuel hf _ _ j hj hr=>by
   have hji:j=i:=by simpa [DT.alts] using hj
   rw [hji] at hr ⊢;exact key b hB fuel hf hr⟩
  cases fuel with
  |zero=>simp [DT.depth] at hf
  |succ fuel =>
   have hr:Region.ready .any ops listed=[i]:=by simp only [okT,Bool.and_eq_true,Bool.or_eq_true,decide_eq_true_eq] at hB;exact hB.1.1.1.resolve_left (by decide)
   exact bp_ hr (by simp) fun j hj hjr=>by
    have hji:j=i:=by simpa using hj
    rw [hji] at hjr ⊢;exact key false hB fuel hf hjr
 |.op i (q + 2) r,tl,listed,e,σ,hcl,hs,h=>by
  have key:∀ b,okT ops hd (.op i (q + 2) r) b tl listed=true→∀ fuel,(DT.op i (q + 2) r).depth≤fuel + 1→i∈Region.ready .any ops listed→aV_ P ops i (fun e' σ'=>(hd i=true→s0.Sub σ→s0.Sub σ')∧aAny P ops hd s0 Kk fuel (listed.setIfInBounds i true) e' σ') e σ:=by
   intro b hB fuel hf hi
   obtain ⟨o,ho,hst⟩:=h
   simp only [okT,Bool.and_eq_true,beq_iff_eq] at hB
   unfold aV_
   simp only [ho]
   exact aw_ (fun e' σ' hk=>⟨fun h1 _=>by rw [hB.1.1.2] at h1;simp at h1,(as_ r _ _ _ σ' (hcl.set hi) (.inl (by simp)) hk).1 hB.2 fuel (by simpa [DT.depth] using hf)⟩) hst
  refine ⟨fun hB fuel hf=>?_,fun b hB fuel hf _ _ j hj hr=>by
   have hji:j=i:=by simpa [DT.alts] using hj
   rw [hji] at hr ⊢;exact key b hB fuel hf hr⟩
  cases fuel with
  |zero=>simp [DT.depth] at hf
  |succ fuel =>
   have hr:Region.ready .any ops listed=[i]:=by simp only [okT,Bool.and_eq_true,Bool.or_eq_true,decide_eq_true_eq] at hB;exact hB.1.1.1.resolve_left (by decide)
   exact bp_ hr (by simp) fun j hj hjr=>by
    have hji:j=i:=by simpa using hj
    rw [hji] at hjr ⊢;exact key false hB fuel hf hjr
 |.alt i 0 r t,tl,listed,e,σ,hcl,hs,h=>⟨fun hB=>by simp [okT] at hB,fun b hB=>by simp [okT] at hB⟩
 |.alt i 1 r t,tl,listed,e,σ,hcl,hs,h=>by
  have key:∀ b,okT ops hd (.alt i 1 r t) b tl listed=true→∀ fuel,(DT.alt i 1 r t).depth≤fuel + 1→∀ j∈(DT.alt i 1 r t).alts,j∈Region.ready .any ops listed→aV_ P ops j (fun e' σ'=>(hd j=true→s0.Sub σ→s0.Sub σ')∧aAny P ops hd s0 Kk fuel (listed.setIfInBounds j true) e' σ') e σ:=by
   intro b hB fuel hf j hj hjr
   obtain ⟨⟨o,ho,hst⟩,ht⟩:=h
   simp only [okT,Bool.and_eq_true] at hB
   simp only [DT.depth] at hf
   have ih:=as_ (hd:=hd) t tl listed e σ hcl hs ht
   rcases List.mem_cons.1 hj with rfl | hj
   ·unfold aV_
    simp only [ho]
    exact aw_ (fun e' σ' hk=>⟨fun _ _=>hk.1,(as_ r _ _ _ σ' (hcl.set hjr) (.inr hk.1) hk.2).1 hB.1.2 fuel (by omega)⟩) hst
   ·refine ih.2 true hB.2 fuel (by omega) (fun i' r' hh=>?_) (fun i' r' hh=>?_) j hj hjr
    all_goals (have:=hB.2;rw [hh] at this;simp [okT] at this)
  refine ⟨fun hB fuel hf=>?_,fun b hB fuel hf _ _ j hj hr=>key b hB fuel hf j hj hr⟩
  cases fuel with
  |zero=>simp only [DT.depth] at hf;omega
  |succ fuel =>
   have hr:Region.ready .any ops listed=i :: t.alts:=by simp only [okT,Bool.and_eq_true,Bool.or_eq_true,decide_eq_true_eq] at hB;exact hB.1.1.1.1.resolve_left (by decide)
   exact bp_ hr (by simp) fun j hj hjr=>key false hB fuel hf j hj hjr
 |.alt i (q + 2) r t,tl,listed,e,σ,hcl,hs,h=>by
  have key:∀ b,okT ops hd (.alt i (q + 2) r t) b tl listed=true→∀ fuel,(DT.alt i (q + 2) r t).depth≤fuel + 1→∀ j∈(DT.alt i (q + 2) r t).alts,j∈Region.ready .any ops listed→aV_ P ops j (fun e' σ'=>(hd j=true→s0.Sub σ→s0.Sub σ')∧aAny P ops hd s0 Kk fuel (listed.setIfInBounds j true) e' σ') e σ:=by
   intro b hB fuel hf j hj hjr
   obtain ⟨⟨o,ho,hst⟩,ht⟩:=h
   simp only [okT,Bool.and_eq_true,beq_iff_eq] at hB
   simp only [DT.depth] at hf
   have ih:=as_ (hd:=hd) t tl listed e σ hcl hs ht
   rcases List.mem_cons.1 hj with rfl | hj
   ·unfold aV_
    simp only [ho]
    exact aw_ (fun e' σ' hk=>⟨fun h1 _=>by rw [hB.1.1.1.2] at h1;simp at h1,(as_ r _ _ _ σ' (hcl.set hjr) (.inl (by simp)) hk).1 hB.1.2 fuel (by omega)⟩) hst
   ·refine ih.2 true hB.2 fuel (by omega) (fun i' r' hh=>?_) (fun i' r' hh=>?_) j hj hjr
    all_goals (have:=hB.2;rw [hh] at this;simp [okT] at this)
  refine ⟨fun hB fuel hf=>?_,fun b hB fuel hf _ _ j hj hr=>key b hB fuel hf j hj hr⟩
  cases fuel with
  |zero=>simp only [DT.depth] at hf;omega
  |succ fuel =>
   have hr:Region.ready .any ops listed=i :: t.alts:=by simp only [okT,Bool.and_eq_true,Bool.or_eq_true,decide_eq_true_eq] at hB;exact hB.1.1.1.1.resolve_left (by decide)
   exact bp_ hr (by simp) fun j hj hjr=>key false hB fuel hf j hj hjr
def gW_ (n:Nat) (ops:Array Oper) (t:DT):Bool :=
 decide (t.depth≤ops.size) && ops.all (cQ_ n ops) && okT ops (fun i=>!t.tails.contains i) t false false (Array.replicate ops.size false)
theorem b1_ {n id:Nat} {l:List Oper} {Q:Exit→Env→Store→Prop} {e:Env} {σ:Store} (t:DT) (hm:P.follows .mixedOrders=true) (hB:gW_ n l.toArray t=true)
  (h:dRun P l.toArray σ (Q .normal) t e σ):awp P n (.region id l.toArray true) Q e σ:=by
 intro κ a hs
 simp only [gW_,Bool.and_eq_true,decide_eq_true_eq] at hB
 obtain ⟨⟨hlen,hdst⟩,hok⟩:=hB
 have hI:=hs.inv.drew
 have hs':ASat { κ with w:=κ.w.drew } n e σ a:=⟨hs.defers,hs.size,fun k=>(hs.env k).mono hI.1,hI.2⟩
 refine wp_region_any hm ?_
 have key:=(as_ (P:=P) (ops:=l.toArray) (hd:=fun i=>!t.tails.contains i) (s0:=σ) (Kk:=Q .normal) t false (Array.replicate l.toArray.size false) e σ ⟨by simp,fun j oj _ hl=>(by rw [eP_] at hl;cases hl)⟩ (.inr (.refl σ)) h).1 hok _ hlen
 exact aN_ (κ0:=κ) (fun i o ho=>Array.all_eq_true_iff_forall_mem.1 hdst o (Array.mem_of_getElem? ho)) (fun κ' e' σ' a' hle hs'' hk=>⟨κ',e',σ',rfl,hle,hs'',hk⟩) _ _ e σ { κ with w:=κ.w.drew } a hI.1 hs' key
end
end Go.Ab
end
