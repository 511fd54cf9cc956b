/-
  The layer once more,with names of one's choice for what is new: stores with names that nobody bears; Operations and calls with names of one's choice; CODE over stores with names of one's choice (printed by gen_nb.py from the layer's own text); Rows that are not written any more; Operations that make something new,or write,with names of one's choice. Own work (an AI agent).
-/
import Derived.Test.YtcdidkliidjoeaaGreatDoorGB
import Derived.OrdersIn
import Derived.TacticsIn
import Derived.Scope
import Derived.Test.YtcdidkliidjoeaaGreatDoorGC
import Derived.Test.YtcdidkliidjoeaaGreatDoorGD

section
set_option linter.all false
namespace Go.Nb
open Go.Ab Go.RowKit
structure NSt where
 st:Store
 fr:Nat→Prop
def NSt.Sub (a b:NSt):Prop:=a.st.Sub b.st
theorem NSt.Sub.refl (a:NSt):a.Sub a:=Store.Sub.refl a.st
theorem NSt.Sub.trans {a b c:NSt} (h:a.Sub b) (k:b.Sub c):a.Sub c:=Store.Sub.trans h k
def NInv (κ:K) (s:NSt):Prop:=Inv κ s.st∧∀ o,s.fr o→κ.ρ o=none∧κ.τ o=none
theorem NInv.drew {κ:K} {s:NSt} (h:NInv κ s):κ.Le { κ with w:=κ.w.drew }∧NInv { κ with w:=κ.w.drew } s:=⟨h.1.drew.1,h.1.drew.2,h.2⟩
structure Re (κ κ' κ'':K):Prop where
 w:κ''.w=κ'.w
 base:κ''.base=κ'.base
 I:κ''.I=κ'.I
 X:κ''.X=κ'.X
 rho:∀ o b,κ.ρ o=some b→κ''.ρ o=some b
 tau:∀ t v,κ.τ t=some v→κ''.τ t=some v
theorem Rv.re {κ κ' κ'':K} (hle:κ.Le κ') (hr:Re κ κ' κ'') {a:AVal} {v:Value} (h:Rv κ' a v):∀ {u:Value},Rv κ a u→Rv κ'' a v:=by
 have ro:∀ {o b c},κ.ρ o=some c→κ'.ρ o=some b→κ''.ρ o=some b:=fun {o b c} h1 h2=>by
  rw [hle.rho _ _ h1] at h2;rw [← h2];exact hr.rho _ _ h1
 have ta:∀ {t v u},κ.τ t=some u→κ'.τ t=some v→κ''.τ t=some v:=fun {t v u} h1 h2=>by
  rw [hle.tau _ _ h1] at h2;rw [← h2];exact hr.tau _ _ h1
 induction h with
 |any v=>intro u _;exact .any v
 |lit v=>intro u _;exact .lit v
 |agg cs vs hn _ ih=>intro u hu;cases hu with | agg _ ws hm h'=>exact .agg cs vs hn fun i hi=>ih i hi (h' i hi)
 |tup cs vs hn _ ih=>intro u hu;cases hu with | tup _ ws hm h'=>exact .tup cs vs hn fun i hi=>ih i hi (h' i hi)
 |slNil sz t=>intro u _;exact .slNil sz t
 |slE sz t a=>intro u _;exact .slE sz t a
 |sl sz l t b off cap vals hcap ht hsz hc hv ih =>
  intro u hu
  refine .sl sz l t b off cap vals hcap ht hsz (fun k hk=>by rw [hr.w,hr.I];exact hc k hk) fun k hk=>?_
  cases hu with
  |slNil=>simp [flat] at hk
  |slE=>simp [flat] at hk
  |sl _ _ _ _ _ _ ws _ _ _ _ hv'=>exact ih k hk (hv' k hk)
 |own t sz l v h0 hτ ih=>intro u hu;cases hu with | own _ _ _ _ h0' hτ'=>exact .own t sz l v (ih h0') (ta hτ' hτ)
 |msl o sz off len b cap n e hb hlen hs hn=>intro u hu;cases hu with | msl _ _ _ _ b' _ _ _ hb'=>exact .msl o sz off len b cap n e (ro hb' hb) hlen (by rw [hr.w];exact hs) hn
 |ref o off b hb=>intro u hu;cases hu with | ref _ _ b' hb'=>exact .ref o off b (ro hb' hb)
 |ro a b off vals hc hv ih =>
  intro u hu
  cases hu with
  |ro _ _ _ ws _ hv'=>exact .ro a b off vals (fun k hk=>by rw [hr.w,hr.I];exact hc k hk) fun k hk=>ih k hk (hv' k hk)
 |map o b hb=>intro u hu;cases hu with | map _ b' hb'=>exact .map o b (ro hb' hb)
 |fn f first captured vs ws hn _ hm _ ih ih'=>intro u hu;cases hu with | fn _ _ _ us qs _ h _ h'=>exact .fn f first captured vs ws hn (fun i hi=>ih i hi (h i hi)) hm fun i hi=>ih' i hi (h' i hi)
 |iface t a v _ ih=>intro u hu;cases hu with | iface _ _ u' h'=>exact .iface t a v (ih h')
 |nilp o e n b hb hs=>intro u hu;cases hu with | nilp _ _ _ b' hb'=>exact .nilp o e n b (ro hb' hb) (by rw [hr.w];exact hs)
 |sdp0 k a=>intro u _;exact .sdp0 k a
 |sdp k l b c h0 hτ ih =>
  intro u hu
  cases hu with
  |sdp0=>exact .sdp0 k _
  |sdp _ _ b' c' h0' hτ'=>exact .sdp k l b c (ih h0') (ta hτ' hτ)
 |mslc o sz off len cap e b n hb hlen hs hn=>intro u hu;cases hu with | mslc _ _ _ _ _ _ b' _ hb'=>exact .mslc o sz off len cap e b n (ro hb' hb) hlen (by rw [hr.w];exact hs) hn
def Kn (κ:K) (a:AVal):Prop:=∃ u,Rv κ a u
def KnO (κ:K):AObj→Prop
 |.cells cs=>∀ a∈cs,Kn κ a
 |.map kvs=>∀ p∈kvs,Kn κ p.2
 |.raw _=>True
 |.mapIter m _ _ _=>∀ o,m=some o→∃ c,κ.ρ o=some c
theorem KnO.of {κ:K} {x:AObj} {b:Nat} (h:ORel κ x b):KnO κ x:=by
 cases x with
 |cells cs=>obtain ⟨c,e,_,_,h3⟩:=h;exact fun a ha=>by obtain ⟨i,hi,rfl⟩:=List.getElem_of_mem ha;exact ⟨_,h3 i hi⟩
 |map kvs=>obtain ⟨es,cl,_,h2,_,_,h5⟩:=h;exact fun p hp=>by obtain ⟨i,hi,rfl⟩:=List.getElem_of_mem hp;exact ⟨_,(h5 i hi (by omega)).2⟩
 |raw o=>trivial
 |mapIter m s se st=>obtain ⟨mb,h1,_⟩:=h;exact fun o ho=>by subst ho;obtain ⟨c,h1,_⟩:=h1;exact ⟨c,h1⟩
theorem ORel.re {κ κ' κ'':K} (hle:κ.Le κ') (hr:Re κ κ' κ'') {x:AObj} {b:Nat} (hk:KnO κ x) (h:ORel κ' x b):ORel κ'' x b:=by
 cases x with
 |cells cs =>
  obtain ⟨c,e,h1,h2,h3⟩:=h
  exact ⟨c,e,by rw [hr.w];exact h1,h2,fun i hi=>by obtain ⟨u,hu⟩:=hk _ (List.getElem_mem hi);exact Rv.re hle hr (h3 i hi) hu⟩
 |map kvs =>
  obtain ⟨es,cl,h1,h2,h3,h4,h5⟩:=h
  exact ⟨es,cl,by rw [hr.w];exact h1,h2,h3,h4,fun i hi hj=>⟨(h5 i hi hj).1,by obtain ⟨u,hu⟩:=hk _ (List.getElem_mem hi);exact Rv.re hle hr (h5 i hi hj).2 hu⟩⟩
 |raw o=>exact ⟨by rw [hr.w,hr.X];exact h.1,h.2⟩
 |mapIter m s se st =>
  obtain ⟨mb,h1,h2⟩:=h
  refine ⟨mb,?_,by rw [hr.w];exact h2⟩
  cases m with
  |none=>exact h1
  |some o =>
   obtain ⟨c,h1,h3⟩:=h1
   obtain ⟨d,hd⟩:=hk o rfl
   exact ⟨c,by rw [hle.rho _ _ hd] at h1;rw [← h1];exact hr.rho _ _ hd,h3⟩
theorem Inv.re {κ κ' κ'':K} {σ' σ'':Store} (hr:Re κ κ' κ'') (h:Inv κ' σ') (π θ:Nat→Nat) (ho:∀ o x,σ''.heap o=some x→κ''.ρ o=κ'.ρ (π o)∧∃ x',σ'.heap (π o)=some x'∧∀ b,ORel κ' x' b→ORel κ'' x b)
  (ht:∀ t p,σ''.tok t=some p→κ''.τ t=κ'.τ (θ t)∧σ'.tok (θ t)=some p) (hπ:∀ o o' x x',σ''.heap o=some x→σ''.heap o'=some x'→π o=π o'→o=o')
  (hθ:∀ t t' x x',σ''.tok t=some x→σ''.tok t'=some x'→θ t=θ t'→t=t') (fO:∃ N,∀ o,N≤o→κ''.ρ o=none) (fT:∃ N,∀ o,N≤o→κ''.τ o=none):Inv κ'' σ'' where
 glob:=by rw [hr.w,hr.base];exact h.glob
 base:=by rw [hr.w,hr.base];exact h.base
 heap o x e:=by
  obtain ⟨h1,x',h2,h3⟩:=ho o x e
  obtain ⟨b,q1,q2,q3,q4⟩:=h.heap _ _ h2
  exact ⟨b,by rw [h1];exact q1,by rw [hr.base];exact q2,by rw [hr.I];exact q3,h3 b q4⟩
 inj o o' x x' b e e' hb hb':=by
  obtain ⟨h1,y,h2,_⟩:=ho o x e
  obtain ⟨h1',y',h2',_⟩:=ho o' x' e'
  exact hπ o o' x x' e e' (h.inj _ _ y y' b h2 h2' (by rw [← h1];exact hb) (by rw [← h1'];exact hb'))
 tok t sz e:=by
  obtain ⟨h1,h2⟩:=ht t sz e
  obtain ⟨v,hv,n,xs,q1,q2⟩:=h.tok _ _ h2
  exact ⟨v,by rw [h1];exact hv,n,xs,by rw [hr.w,hr.base];exact q1,fun b hb=>by rw [hr.I];exact q2 b hb⟩
 tokinj t t' sz sz' v v' b e e' hv hv' hb hb':=by
  obtain ⟨h1,h2⟩:=ht t sz e
  obtain ⟨h1',h2'⟩:=ht t' sz' e'
  exact hθ t t' sz sz' e e' (h.tokinj _ _ sz sz' v v' b h2 h2' (by rw [← h1];exact hv) (by rw [← h1'];exact hv') hb hb')
 tokobj t sz v b o x e hv hb ho':=by
  obtain ⟨h1,h2⟩:=ht t sz e
  obtain ⟨h3,y,h4,_⟩:=ho o x ho'
  rw [h3]
  exact h.tokobj _ sz v b _ y h2 (by rw [← h1];exact hv) hb h4
 frO:=fO
 frT:=fT
 frI b hb:=by rw [hr.I];exact h.frI b (by rw [hr.w] at hb;exact hb)
theorem Re.le {κ κ' κ'':K} (hle:κ.Le κ') (hr:Re κ κ' κ''):κ.Le κ'' where
 bx:=Prod.ext (hr.base.trans hle.base) (hr.X.trans hle.X)
 below:=by rw [hr.w];exact hle.below
 shape b s e:=by rw [hr.w];exact hle.shape b s e
 rho:=hr.rho
 tau:=hr.tau
 imm b:=by rw [hr.I];exact hle.imm b
 cell b off v h1 h2:=by rw [hr.w];exact hle.cell b off v h1 h2
 drawn:=by rw [hr.w];exact hle.drawn
 old b hb:=by rw [hr.I];exact hle.old b hb
theorem re0 {κ κ':K} {s:NSt} {σ':Store} (hN:NInv κ s) (hle:κ.Le κ') (hI:Inv κ' σ') (ho:∀ o x,σ'.heap o=some x→(∃ b,κ.ρ o=some b)∧KnO κ x) (ht:∀ t p,σ'.tok t=some p→∃ v,κ.τ t=some v) :
  ∃ κ'',κ''.w=κ'.w∧κ.Le κ''∧NInv κ'' ⟨σ',s.fr⟩∧Re κ κ' κ'':=by
 have hr:Re κ κ' { κ' with ρ:=κ.ρ,τ:=κ.τ }:=⟨rfl,rfl,rfl,rfl,fun _ _ h=>h,fun _ _ h=>h⟩
 refine ⟨{ κ' with ρ:=κ.ρ,τ:=κ.τ },rfl,hr.le hle,⟨Inv.re hr hI id id (fun o x e=>?_) (fun t p e=>?_) (fun _ _ _ _ _ _ h=>h) (fun _ _ _ _ _ _ h=>h) hN.1.frO hN.1.frT,hN.2⟩,hr⟩
 ·obtain ⟨⟨b,hb⟩,hk⟩:=ho o x e
  exact ⟨by show κ.ρ o=κ'.ρ o;rw [hb,hle.rho _ _ hb],x,e,fun b=>ORel.re hle hr hk⟩
 ·obtain ⟨v,hv⟩:=ht t p e
  exact ⟨by show κ.τ t=κ'.τ t;rw [hv,hle.tau _ _ hv],e⟩
theorem reO2 {κ κ':K} {s:NSt} {σ:Store} {j m:Nat} {x x0:AObj} (hN:NInv κ s) (hm:s.fr m) (hle:κ.Le κ') (hI:Inv κ' (σ.set j x0)) (hj:σ.heap j=none) (ho:∀ o x,σ.heap o=some x→(∃ b,κ.ρ o=some b)∧KnO κ x) (hx:∀ κ'',Re κ κ' κ''→κ''.ρ m=κ'.ρ j→∀ b,ORel κ' x0 b→ORel κ'' x b) (ht:∀ t p,σ.tok t=some p→∃ v,κ.τ t=some v) :
  ∃ κ'',κ''.w=κ'.w∧κ.Le κ''∧NInv κ'' ⟨σ.set m x,fun o=>s.fr o∧o≠m⟩∧Re κ κ' κ''∧κ''.ρ m=κ'.ρ j:=by
 have hfm:=hN.2 m hm
 have hr:Re κ κ' { κ' with ρ:=fun i=>if i=m then κ'.ρ j else κ.ρ i,τ:=κ.τ }:=⟨rfl,rfl,rfl,rfl,fun o b h=>by
  have:o≠m:=fun hh=>by rw [hh,hfm.1] at h;cases h
  show (if o=m then _ else _)=_
  rw [if_neg this];exact h,fun _ _ h=>h⟩
 have hne:∀ o y,o≠m→(σ.set m x).heap o=some y→σ.heap o=some y:=fun o y hh e=>by rw [Store.set_ne _ _ hh] at e;exact e
 refine ⟨{ κ' with ρ:=fun i=>if i=m then κ'.ρ j else κ.ρ i,τ:=κ.τ },rfl,hr.le hle,⟨Inv.re hr hI (fun i=>if i=m then j else i) id (fun o y e=>?_) (fun t p e=>?_) (fun o o' y y' e e' h=>?_) (fun _ _ _ _ _ _ h=>h) ?_ hN.1.frT,fun o h=>⟨?_,(hN.2 o h.1).2⟩⟩,hr,?_⟩
 ·by_cases hom:o=m
  ·subst hom
   rw [Store.set_get] at e
   obtain rfl:=Option.some.inj e
   exact ⟨by simp,x0,by simp [Store.set_get],hx _ hr (by show (if o=o then _ else _)=_;rw [if_pos rfl])⟩
  ·have e1:=hne o y hom e
   obtain ⟨⟨b,hb⟩,hk⟩:=ho o y e1
   have hoj:o≠j:=fun hh=>by rw [hh,hj] at e1;cases e1
   refine ⟨?_,y,by rw [if_neg hom,Store.set_ne _ _ hoj];exact e1,fun b=>ORel.re hle hr hk⟩
   show (if o=m then _ else _)=κ'.ρ (if o=m then j else o)
   rw [if_neg hom,if_neg hom,hb,hle.rho _ _ hb]
 ·obtain ⟨v,hv⟩:=ht t p e
  exact ⟨by show κ.τ t=κ'.τ t;rw [hv,hle.tau _ _ hv],e⟩
 ·by_cases h1:o=m <;> by_cases h2:o'=m
  ·rw [h1,h2]
  ·rw [if_pos h1,if_neg h2] at h
   have:=hne o' y' h2 e'
   rw [← h,hj] at this;cases this
  ·rw [if_neg h1,if_pos h2] at h
   have:=hne o y h1 e
   rw [h,hj] at this;cases this
  ·rwa [if_neg h1,if_neg h2] at h
 ·obtain ⟨N,hN'⟩:=hN.1.frO
  exact ⟨N + m + 1,fun o ho=>by show (if o=m then _ else _)=_;rw [if_neg (by omega)];exact hN' o (by omega)⟩
 ·show (if o=m then _ else _)=_
  rw [if_neg h.2];exact (hN.2 o h.1).1
 ·show (if m=m then _ else _)=_
  rw [if_pos rfl]
theorem reO {κ κ':K} {s:NSt} {σ:Store} {j m:Nat} {x:AObj} (hN:NInv κ s) (hm:s.fr m) (hle:κ.Le κ') (hI:Inv κ' (σ.set j x)) (hj:σ.heap j=none) (ho:∀ o x,σ.heap o=some x→(∃ b,κ.ρ o=some b)∧KnO κ x) (hx:KnO κ x) (ht:∀ t p,σ.tok t=some p→∃ v,κ.τ t=some v) :
  ∃ κ'',κ''.w=κ'.w∧κ.Le κ''∧NInv κ'' ⟨σ.set m x,fun o=>s.fr o∧o≠m⟩∧Re κ κ' κ''∧κ''.ρ m=κ'.ρ j :=
 reO2 hN hm hle hI hj ho (fun _ hr _ _=>ORel.re hle hr hx) ht
theorem reT {κ κ':K} {s:NSt} {σ:Store} {old:Option Nat} {j m:Nat} {p:TypeId × Nat} (hN:NInv κ s) (hm:s.fr m) (hle:κ.Le κ') (hI:Inv κ' (σ.newTok old j p)) (hj:σ.tok j=none) (ho:∀ o x,σ.heap o=some x→(∃ b,κ.ρ o=some b)∧KnO κ x) (ht:∀ t p,σ.tok t=some p→∃ v,κ.τ t=some v) :
  ∃ κ'',κ''.w=κ'.w∧κ.Le κ''∧NInv κ'' ⟨σ.newTok old m p,fun o=>s.fr o∧o≠m⟩∧Re κ κ' κ''∧κ''.τ m=κ'.τ j:=by
 have hfm:=hN.2 m hm
 have hr:Re κ κ' { κ' with ρ:=κ.ρ,τ:=fun i=>if i=m then κ'.τ j else κ.τ i }:=⟨rfl,rfl,rfl,rfl,fun _ _ h=>h,fun o b h=>by
  have:o≠m:=fun hh=>by rw [hh,hfm.2] at h;cases h
  show (if o=m then _ else _)=_
  rw [if_neg this];exact h⟩
 have hne:∀ o y,o≠m→(σ.newTok old m p).tok o=some y→σ.tok o=some y∧some o≠old:=fun o y hh e=>by
  simp only [Store.newTok,if_neg hh] at e
  split at e
  ·cases e
  ·rename_i h;exact ⟨e,h⟩
 refine ⟨{ κ' with ρ:=κ.ρ,τ:=fun i=>if i=m then κ'.τ j else κ.τ i },rfl,hr.le hle,⟨Inv.re hr hI id (fun i=>if i=m then j else i) (fun o y e=>?_) (fun o y e=>?_) (fun _ _ _ _ _ _ h=>h) (fun o o' y y' e e' h=>?_) hN.1.frO ?_,fun o h=>⟨(hN.2 o h.1).1,?_⟩⟩,hr,?_⟩
 ·obtain ⟨⟨b,hb⟩,hk⟩:=ho o y e
  exact ⟨by show κ.ρ o=κ'.ρ o;rw [hb,hle.rho _ _ hb],y,e,fun b=>ORel.re hle hr hk⟩
 ·by_cases hom:o=m
  ·subst hom
   have:y=p:=by simpa [Store.newTok] using e.symm
   subst this
   exact ⟨by simp,by simp [Store.newTok]⟩
  ·obtain ⟨e1,e2⟩:=hne o y hom e
   obtain ⟨v,hv⟩:=ht o y e1
   have hoj:o≠j:=fun hh=>by rw [hh,hj] at e1;cases e1
   refine ⟨?_,?_⟩
   ·show (if o=m then _ else _)=κ'.τ (if o=m then j else o)
    rw [if_neg hom,if_neg hom,hv,hle.tau _ _ hv]
   ·simp only [if_neg hom,Store.newTok,if_neg hoj,if_neg e2];exact e1
 ·by_cases h1:o=m <;> by_cases h2:o'=m
  ·rw [h1,h2]
  ·rw [if_pos h1,if_neg h2] at h
   have:=(hne o' y' h2 e').1
   rw [← h,hj] at this;cases this
  ·rw [if_neg h1,if_pos h2] at h
   have:=(hne o y h1 e).1
   rw [h,hj] at this;cases this
  ·rwa [if_neg h1,if_neg h2] at h
 ·obtain ⟨N,hN'⟩:=hN.1.frT
  exact ⟨N + m + 1,fun o ho=>by show (if o=m then _ else _)=_;rw [if_neg (by omega)];exact hN' o (by omega)⟩
 ·show (if o=m then _ else _)=_
  rw [if_neg h.2];exact (hN.2 o h.1).2
 ·show (if m=m then _ else _)=_
  rw [if_pos rfl]
end Go.Nb
end

section
set_option linter.all false
namespace Go.Nb
open Go.Ab Go.RowKit
def Post (κ:K) (Kk:AVal→NSt→Prop) (cv:Value) (w':World):Prop:=∃ κ' a s',κ'.w=w'∧κ.Le κ'∧NInv κ' s'∧Rv κ' a cv∧Kk a s'
def AOp (P:Program) (o:Oper) (α:Operand→AVal) (s:NSt) (Kk:AVal→NSt→Prop):Prop :=
 ∀ (κ:K) (ev:Operand→Value),NInv κ s→(∀ x∈o.op.operands,Rv κ (α x) (ev x))→Upon P (Post κ Kk) ((execOp ev o).run P κ.w)
def ACalls (P:Program) (f:FuncId) (args:List AVal) (s:NSt) (Q:AVal→NSt→Prop):Prop :=
 ∀ (κ:K) (vs:Array Value),NInv κ s→vs.size=args.length→(∀ i (hi:i < args.length),Rv κ args[i] (vs.getD i undef)) →
  Calls P f vs κ.w (fun e w'=>∃ cv,e=.returned cv∧Post κ Q cv w')
theorem Post.mono {κ:K} {Kk Kk':AVal→NSt→Prop} (h:∀ a σ,Kk a σ→Kk' a σ) {cv:Value} {w:World} (hp:Post κ Kk cv w):Post κ Kk' cv w :=
 let ⟨κ',a,σ',h1,h2,h3,h4,h5⟩:=hp
 ⟨κ',a,σ',h1,h2,h3,h4,h _ _ h5⟩
theorem AOp.mono {P:Program} {o:Oper} {α:Operand→AVal} {σ:NSt} {Kk Kk':AVal→NSt→Prop} (h:∀ a σ,Kk a σ→Kk' a σ) (ho:AOp P o α σ Kk):AOp P o α σ Kk' :=
 fun κ ev hI hx=>(ho κ ev hI hx).mono fun _ _=>Post.mono h
theorem ACalls.mono {P:Program} {f:FuncId} {args:List AVal} {σ:NSt} {Q Q':AVal→NSt→Prop} (h:ACalls P f args σ Q) (hq:∀ a σ',Q a σ'→Q' a σ'):ACalls P f args σ Q' :=
 fun κ vs hI hn hv=>(h κ vs hI hn hv).mono fun _ _ ⟨cv,he,hp⟩=>⟨cv,he,hp.mono hq⟩
theorem d5_ {P:Program} {o:Oper} {α:Operand→AVal} {σ σ':NSt} {Kk:AVal→NSt→Prop} {a:AVal} (h:aval P o.op α σ'.st=some a) (hs:σ'.Sub σ) (hk:Kk a σ):AOp P o α σ Kk:=by
 intro κ ev hI hx
 obtain ⟨cv,h1,h2⟩:=cb_ (o:=o) h hs hI.1 hx
 rw [h1]
 exact ⟨κ,a,σ,rfl,.refl κ,hI,h2,hk⟩
theorem b5_ {P:Program} {o:Oper} {α:Operand→AVal} {σ:NSt} {Kk:AVal→NSt→Prop} {a:AVal} (h:aval P o.op α σ.st=some a) (hk:Kk a σ):AOp P o α σ Kk:=d5_ h (.refl σ) hk
mutual
def nf:AVal→Bool
 |.agg cs=>nfL cs
 |.tup cs=>nfL cs
 |.sl _ l _=>nfL l
 |.ro a=>nf a
 |.iface _ a=>nf a
 |.fn _ a b=>nfL a && nfL b
 |.lit _=>true
 |.any=>true
 |_=>false
def nfL:List AVal→Bool
 |[]=>true
 |a :: l=>nf a && nfL l
end
theorem co_:∀ {l:List AVal},nfL l=true→∀ a∈l,nf a=true
 |b :: l,h,a,ha=>by
  simp only [nfL,Bool.and_eq_true] at h
  rcases List.mem_cons.1 ha with rfl | ha
  ·exact h.1
  ·exact co_ h.2 a ha
theorem il_ {a:AVal} (h:nf a=true):∀ c∈a.cells,nf c=true:=by
 cases a with
 |agg cs=>exact co_ h
 |_=>intro c hc;simp only [AVal.cells,List.mem_singleton] at hc;subst hc;exact h
theorem n7_ {l:List AVal} (h:nfL l=true):∀ c∈flat l,nf c=true:=fun c hc=>by
 unfold flat at hc
 obtain ⟨y,hy,hc⟩:=List.mem_flatMap.1 hc
 exact il_ (co_ h y hy) c hc
theorem Rv.nf {κ κ':K} (hw:κ'.w=κ.w) (hI:κ'.I=κ.I) {a:AVal} {v:Value} (h:Rv κ a v):nf a=true→Rv κ' a v:=by
 induction h with
 |any v=>intro _;exact .any v
 |lit v=>intro _;exact .lit v
 |agg cs vs hn _ ih=>intro hf;exact .agg cs vs hn fun i hi=>ih i hi (co_ hf _ (List.getElem_mem hi))
 |tup cs vs hn _ ih=>intro hf;exact .tup cs vs hn fun i hi=>ih i hi (co_ hf _ (List.getElem_mem hi))
 |slNil sz t=>intro _;exact .slNil sz t
 |slE sz t a=>intro _;exact .slE sz t a
 |sl sz l t b off cap vals hcap ht hsz hc hv ih=>intro hf;exact .sl sz l t b off cap vals hcap ht hsz (fun k hk=>by rw [hw,hI];exact hc k hk) fun k hk=>ih k hk (n7_ hf _ (List.getElem_mem hk))
 |ro a b off vals hc hv ih=>intro hf;exact .ro a b off vals (fun k hk=>by rw [hw,hI];exact hc k hk) fun k hk=>ih k hk (il_ (a:=a) hf _ (List.getElem_mem hk))
 |fn f first captured vs ws hn _ hm _ ih ih' =>
  intro hf
  simp only [Nb.nf,Bool.and_eq_true] at hf
  exact .fn f first captured vs ws hn (fun i hi=>ih i hi (co_ hf.1 _ (List.getElem_mem hi))) hm fun i hi=>ih' i hi (co_ hf.2 _ (List.getElem_mem hi))
 |iface t a v _ ih=>intro hf;exact .iface t a v (ih hf)
 |_=>intro hf;cases hf
theorem Re.keep {κ κ' κ'':K} (hr:Re κ κ' κ'') {a:AVal} {v:Value} (h:Rv κ' a v) (hf:Nb.nf a=true):Rv κ'' a v:=Rv.nf hr.w hr.I h hf
theorem Rv.re_sl {κ κ' κ'':K} (hle:κ.Le κ') (hr:Re κ κ' κ'') {sz:Nat} {l:List AVal} {t:Bool} {v:Value} (h:Rv κ' (.sl sz l t) v) (hk:∀ c∈flat l,Kn κ c):Rv κ'' (.sl sz l t) v:=by
 cases h with
 |slNil=>exact .slNil _ _
 |slE=>exact .slE _ _ _
 |sl _ _ _ b off cap vals hcap ht hsz hc hv=>exact .sl sz l t b off cap vals hcap ht hsz (fun k hk'=>by rw [hr.w,hr.I];exact hc k hk') fun k hk'=>by obtain ⟨u,hu⟩:=hk _ (List.getElem_mem hk');exact Rv.re hle hr (hv k hk') hu
theorem aG_ {κ:K} {σ:Store} (h:Inv κ σ):∀ o x,σ.heap o=some x→(∃ b,κ.ρ o=some b)∧KnO κ x:=fun o x e=>by
 obtain ⟨b,h1,_,_,h4⟩:=h.heap o x e
 exact ⟨⟨b,h1⟩,KnO.of h4⟩
theorem a2_ {κ:K} {σ:Store} (h:Inv κ σ):∀ t p,σ.tok t=some p→∃ v,κ.τ t=some v:=fun t p e=>by
 obtain ⟨v,h1,_⟩:=h.tok t p e
 exact ⟨v,h1⟩
theorem ed_ {κ:K} {a:AVal} (hs:a.solid=true) (h:Kn κ a):∀ c∈a.cells,Kn κ c:=fun c hc=>by
 obtain ⟨u,hu⟩:=h
 obtain ⟨hn,hv⟩:=hu.cells hs
 obtain ⟨i,hi,rfl⟩:=List.getElem_of_mem hc
 exact ⟨_,hv i hi⟩
def KnV (κ:K) (v:AVal):Prop:=Kn κ v∨nf v=true∨∃ sz l t,v=.sl sz l t∧∀ c∈flat l,Kn κ c
theorem Re.val {κ κ' κ'':K} (hle:κ.Le κ') (hr:Re κ κ' κ'') {v:AVal} {cv:Value} (hk:KnV κ v) (h:Rv κ' v cv):Rv κ'' v cv:=by
 rcases hk with ⟨u,hu⟩ | hk | ⟨sz,l,t,rfl,hk⟩
 ·exact Rv.re hle hr h hu
 ·exact hr.keep h hk
 ·exact Rv.re_sl hle hr h hk
section
variable {P:Program} {o:Oper} {α:Operand→AVal} {s:NSt} {Kk:AVal→NSt→Prop}
theorem AOp.of0 {v:AVal} {σ1:Store} (h:Ab.AOp P o α s.st fun a σ'=>a=v∧σ'=σ1)
  (hk:∀ κ,Inv κ s.st→(∀ x∈o.op.operands,Kn κ (α x))→KnV κ v∧(∀ o x,σ1.heap o=some x→(∃ b,κ.ρ o=some b)∧KnO κ x)∧∀ t p,σ1.tok t=some p→∃ v,κ.τ t=some v) (hK:Kk v ⟨σ1,s.fr⟩):AOp P o α s Kk:=by
 intro κ ev hN hx
 refine (h κ ev hN.1 hx).mono fun cv w' ⟨κ',a,σ',h1,h2,h3,h4,h5,h6⟩=>?_
 subst h5;subst h6
 obtain ⟨k1,k2,k3⟩:=hk κ hN.1 fun x hx'=>⟨_,hx x hx'⟩
 obtain ⟨κ'',q1,q2,q3,q4⟩:=re0 hN h2 h3 k2 k3
 exact ⟨κ'',a,_,q1.trans h1,q2,q3,q4.val h2 k1 h4,hK⟩
theorem AOp.ofO {x:AObj} {mk:Nat→AVal} {m:Nat} (h:Ab.AOp P o α s.st fun a σ'=>∃ i,s.st.heap i=none∧a=mk i∧σ'=s.st.set i x) (hm:s.fr m)
  (hmk:∀ κ' κ'' v i,κ''.w=κ'.w→κ''.ρ m=κ'.ρ i→Rv κ' (mk i) v→Rv κ'' (mk m) v) (hk:∀ κ,Inv κ s.st→(∀ x∈o.op.operands,Kn κ (α x))→KnO κ x) (hK:Kk (mk m) ⟨s.st.set m x,fun o=>s.fr o∧o≠m⟩):AOp P o α s Kk:=by
 intro κ ev hN hx
 refine (h κ ev hN.1 hx).mono fun cv w' ⟨κ',a,σ',h1,h2,h3,h4,i,hi,h5,h6⟩=>?_
 subst h5;subst h6
 obtain ⟨κ'',q1,q2,q3,q4,q5⟩:=reO hN hm h2 h3 hi (aG_ hN.1) (hk κ hN.1 fun x hx'=>⟨_,hx x hx'⟩) (a2_ hN.1)
 exact ⟨κ'',_,_,q1.trans h1,q2,q3,hmk κ' κ'' cv i q1 q5 h4,hK⟩
theorem AOp.ofO1 {x:AObj} {mk:Nat→AVal} {σ1:Store} {m:Nat} (h:Ab.AOp P o α s.st fun a σ'=>∃ i,s.st.heap i=none∧a=mk i∧σ'=σ1.set i x) (hs:σ1.Sub s.st) (hm:s.fr m)
  (hmk:∀ κ' κ'' v i,κ''.w=κ'.w→κ''.ρ m=κ'.ρ i→Rv κ' (mk i) v→Rv κ'' (mk m) v) (hk:∀ κ,Inv κ s.st→(∀ x∈o.op.operands,Kn κ (α x))→KnO κ x) (hK:Kk (mk m) ⟨σ1.set m x,fun o=>s.fr o∧o≠m⟩):AOp P o α s Kk:=by
 intro κ ev hN hx
 refine (h κ ev hN.1 hx).mono fun cv w' ⟨κ',a,σ',h1,h2,h3,h4,i,hi,h5,h6⟩=>?_
 subst h5;subst h6
 have hi1:σ1.heap i=none:=by
  cases hh:σ1.heap i with
  |none=>rfl
  |some y=>have:=hs.heap i y hh;rw [hi] at this;cases this
 obtain ⟨κ'',q1,q2,q3,q4,q5⟩:=reO hN hm h2 h3 hi1 (fun o y e=>aG_ hN.1 o y (hs.heap o y e)) (hk κ hN.1 fun x hx'=>⟨_,hx x hx'⟩) (fun t p e=>a2_ hN.1 t p (hs.tok t p e))
 exact ⟨κ'',_,_,q1.trans h1,q2,q3,hmk κ' κ'' cv i q1 q5 h4,hK⟩
theorem AOp.ofP {r:List AVal} {e:TypeId} {k m:Nat} (h:Ab.AOp P o α s.st fun a σ'=>∃ i,s.st.heap i=none∧a=.ref i 0∧σ'=s.st.set i (.cells (.nilp i e k :: r))) (hm:s.fr m)
  (hk:∀ κ,Inv κ s.st→(∀ x∈o.op.operands,Kn κ (α x))→∀ c∈r,Kn κ c) (hK:Kk (.ref m 0) ⟨s.st.set m (.cells (.nilp m e k :: r)),fun o=>s.fr o∧o≠m⟩):AOp P o α s Kk:=by
 intro κ ev hN hx
 refine (h κ ev hN.1 hx).mono fun cv w' ⟨κ',a,σ',h1,h2,h3,h4,i,hi,h5,h6⟩=>?_
 subst h5;subst h6
 have hkn:=hk κ hN.1 fun x hx'=>⟨_,hx x hx'⟩
 obtain ⟨κ'',q1,q2,q3,q4,q5⟩:=reO2 (x:=.cells (.nilp m e k :: r)) hN hm h2 h3 hi (aG_ hN.1) (fun κ'' hr hρ b ⟨c,e',g1,g2,g3⟩=>⟨c,e',by rw [hr.w];exact g1,g2,fun j hj=>by
  have:=g3 j hj
  cases j with
  |zero =>
   simp only [List.getElem_cons_zero] at this ⊢
   generalize c.getD 0 undef=u at this
   cases this with
   |nilp _ _ _ b2 hb hs=>exact .nilp m e k b2 (hρ.trans hb) (by rw [hr.w];exact hs)
  |succ j =>
   simp only [List.getElem_cons_succ] at this ⊢
   obtain ⟨u,hu⟩:=hkn _ (List.getElem_mem (by simpa using hj))
   exact Rv.re h2 hr this hu⟩) (a2_ hN.1)
 refine ⟨κ'',_,_,q1.trans h1,q2,q3,?_,hK⟩
 cases h4 with
 |ref _ _ b hb=>exact .ref m 0 b (q5.trans hb)
theorem AOp.ofT {sz:Nat} {l:List AVal} {old:Option Nat} {p:TypeId × Nat} {m:Nat} (h:Ab.AOp P o α s.st fun a σ'=>∃ t',s.st.tok t'=none∧a=.own t' sz l∧σ'=s.st.newTok old t' p) (hm:s.fr m)
  (hk:∀ κ,Inv κ s.st→(∀ x∈o.op.operands,Kn κ (α x))→∀ c∈flat l,Kn κ c) (hK:Kk (.own m sz l) ⟨s.st.newTok old m p,fun o=>s.fr o∧o≠m⟩):AOp P o α s Kk:=by
 intro κ ev hN hx
 refine (h κ ev hN.1 hx).mono fun cv w' ⟨κ',a,σ',h1,h2,h3,h4,i,hi,h5,h6⟩=>?_
 subst h5;subst h6
 obtain ⟨κ'',q1,q2,q3,q4,q5⟩:=reT hN hm h2 h3 hi (aG_ hN.1) (a2_ hN.1)
 refine ⟨κ'',_,_,q1.trans h1,q2,q3,?_,hK⟩
 cases h4 with
 |own _ _ _ _ h0 hτ=>exact .own m sz l cv (Rv.re_sl h2 q4 h0 (hk κ hN.1 fun x hx'=>⟨_,hx x hx'⟩)) (by rw [q5];exact hτ)
theorem AOp.ofS {k:Nat} {l:List AVal} (h:Ab.AOp P o α s.st fun a σ'=>a=.sdp k l∧σ'=s.st) (hk:∀ κ,Inv κ s.st→(∀ x∈o.op.operands,Kn κ (α x))→(l=[]∨∃ u,κ.τ k=some u)∧∀ c∈flat l,Kn κ c) (hK:Kk (.sdp k l) s):AOp P o α s Kk:=by
 intro κ ev hN hx
 refine (h κ ev hN.1 hx).mono fun cv w' ⟨κ',a,σ',h1,h2,h3,h4,h5,h6⟩=>?_
 subst h5;subst h6
 obtain ⟨k1,k2⟩:=hk κ hN.1 fun x hx'=>⟨_,hx x hx'⟩
 obtain ⟨κ'',q1,q2,q3,q4⟩:=re0 hN h2 h3 (aG_ hN.1) (a2_ hN.1)
 refine ⟨κ'',_,s,q1.trans h1,q2,q3,?_,hK⟩
 cases h4 with
 |sdp0=>exact .sdp0 _ _
 |sdp _ _ b c h0 ht =>
  rcases k1 with rfl | ⟨u,hu⟩
  ·exact .sdp0 _ _
  ·refine .sdp k l b c (Rv.re_sl h2 q4 h0 k2) ?_
   rw [h2.tau _ _ hu] at ht
   rw [← ht];exact q4.tau _ _ hu
theorem ACalls.of0 {f:FuncId} {args:List AVal} {v:AVal} (h:Ab.ACalls P f args s.st fun a σ'=>a=v∧s.st=σ') (hv:nf v=true) {Q:AVal→NSt→Prop} (hQ:Q v s):ACalls P f args s Q:=by
 intro κ vs hN hn hvs
 refine (h κ vs hN.1 hn hvs).mono fun e w' ⟨cv,he,κ',a,σ',h1,h2,h3,h4,h5,h6⟩=>?_
 subst h5;subst h6
 obtain ⟨κ'',q1,q2,q3,q4⟩:=re0 hN h2 h3 (aG_ hN.1) (a2_ hN.1)
 exact ⟨cv,he,κ'',a,s,q1.trans h1,q2,q3,q4.keep h4 hv,hQ⟩
theorem ACalls.pure {f:FuncId} {args:List AVal} {v:AVal} {N:Nat→Prop} (h:ACalls P f args ⟨⟨fun _=>none,fun _=>none⟩,N⟩ fun a s'=>∀ κ cv,NInv κ s'→Rv κ a cv→∃ κ2 σ2,κ2.w=κ.w∧κ.Le κ2∧Inv κ2 σ2∧Rv κ2 v cv) (ha:nfL args=true) (hv:nf v=true) {Q:AVal→NSt→Prop} (hQ:Q v s):ACalls P f args s Q:=by
 intro κ vs hN hn hvs
 obtain ⟨κ0,hκ0⟩:∃ κ0:K,κ0={ w:=κ.w,base:=κ.w.heap.size,ρ:=fun _=>none,τ:=fun _=>none,I:=κ.I }:=⟨_,rfl⟩
 have hI:=hN.1
 have hN0:NInv κ0 ⟨⟨fun _=>none,fun _=>none⟩,N⟩:=by
  subst hκ0
  refine ⟨⟨fun p hp=>?_,Nat.le_refl _,fun _ _ e=>by (cases e),fun _ _ _ _ _ e=>by (cases e),fun _ _ e=>by (cases e),fun _ _ _ _ _ _ _ e=>by (cases e),fun _ _ _ _ _ _ e=>by (cases e),⟨0,fun _ _=>rfl⟩,⟨0,fun _ _=>rfl⟩,hI.frI⟩,fun _ _=>⟨rfl,rfl⟩⟩
  obtain ⟨h1,h2⟩:=hI.glob p hp
  exact ⟨Nat.lt_of_lt_of_le h1 hI.base,h2⟩
 have h0:=h κ0 vs hN0 hn fun i hi=>by
  have:=hvs i hi
  subst hκ0
  exact Rv.nf (κ:=κ) (κ':={ w:=κ.w,base:=κ.w.heap.size,ρ:=fun _=>none,τ:=fun _=>none,I:=κ.I }) rfl rfl this (co_ ha _ (List.getElem_mem hi))
 rw [show κ0.w=κ.w by rw [hκ0]] at h0
 refine h0.mono fun e w' ⟨cv,he,κ1,a,s',h1,h2,h3,h4,h5⟩=>?_
 obtain ⟨κ',σ2,r1,r2,r3,r4⟩:=h5 κ1 cv h3 h4
 replace h1:=r1.trans h1
 replace h2:=h2.trans r2
 have hb0:κ0.base=κ.w.heap.size:=by rw [hκ0]
 have hw0:κ0.w=κ.w:=by rw [hκ0]
 have hI0:κ0.I=κ.I:=by rw [hκ0]
 have hbel:=h2.below
 rw [hb0,hw0] at hbel
 refine ⟨cv,he,{ w:=κ'.w,base:=κ.base,ρ:=κ.ρ,τ:=κ.τ,I:=κ'.I,X:=κ.X },v,s,h1,?_,?_,Rv.nf (κ:=κ') (κ':={ w:=κ'.w,base:=κ.base,ρ:=κ.ρ,τ:=κ.τ,I:=κ'.I,X:=κ.X }) rfl rfl r4 hv,hQ⟩
 ·exact ⟨rfl,hbel.mono hI.base,fun b s e=>h2.shape b s (by rw [hw0];exact e),fun _ _ h=>h,fun _ _ h=>h,fun b=>by have:=h2.imm b;rw [hI0] at this;exact this,
   fun b off v q1 q2=>h2.cell b off v (by rw [hI0];exact q1) (by rw [hw0];exact q2),by have:=h2.drawn;rw [hw0] at this;exact this,fun b hb=>by have:=h2.old b (by rw [hb0];exact Nat.lt_of_lt_of_le hb hI.base);rw [hI0] at this;exact this⟩
 ·have hle:κ.Le { w:=κ'.w,base:=κ.base,ρ:=κ.ρ,τ:=κ.τ,I:=κ'.I,X:=κ.X }:=⟨rfl,hbel.mono hI.base,fun b s e=>h2.shape b s (by rw [hw0];exact e),fun _ _ h=>h,fun _ _ h=>h,fun b=>by have:=h2.imm b;rw [hI0] at this;exact this,
   fun b off v q1 q2=>h2.cell b off v (by rw [hI0];exact q1) (by rw [hw0];exact q2),by have:=h2.drawn;rw [hw0] at this;exact this,fun b hb=>by have:=h2.old b (by rw [hb0];exact Nat.lt_of_lt_of_le hb hI.base);rw [hI0] at this;exact this⟩
  refine ⟨hI.quiet hle rfl rfl (fun b hb=>by have:=h2.old b (by rw [hb0];exact hb);rw [hI0] at this;exact this) (fun b hb=>r3.frI b hb) (fun b hb=>hbel.block b hb),hN.2⟩
end
end Go.Nb
end

section
set_option linter.all false
namespace Go.Nb
open Go.Ab Go.RowKit
structure ASatG {S:Type} (I:S→K→Prop) (dd:List Deferred) (κ:K) (n:Nat) (e:Env) (σ:S) (a:Act):Prop where
 defers:a.defers=dd
 size:a.tmps.size=n
 env:∀ k,Rv κ (e k) (a.tmps.getD k undef)
 inv:I σ κ
def OutG {S:Type} (I:S→K→Prop) (dd:List Deferred) (κ:K) (n:Nat) (Q:Exit→Env→S→Prop) (ex:Exit) (a:Act) (w:World):Prop:=∃ κ' e σ,κ'.w=w∧κ.Le κ'∧ASatG I dd κ' n e σ a∧Q ex e σ
abbrev NI (s:NSt) (κ:K):Prop:=NInv κ s
def Fr (r:Option Nat):Fence:={ Fence.wide with round:=r }
def awpG {S:Type} (I:S→K→Prop) (P:Program) (n:Nat) (c:Code) (Q:Exit→Env→S→Prop) (e:Env) (σ:S):Prop :=
 ∀ r dd κ a,ASatG I dd κ n e σ a→c.wpIn (Fr r) 0 P (OutG I dd κ n Q) a κ.w
abbrev awp (P:Program) (n:Nat) (c:Code) (Q:Exit→Env→NSt→Prop) (e:Env) (σ:NSt):Prop:=awpG NI P n c Q e σ
section
variable {S:Type} {I:S→K→Prop} {dd:List Deferred}
theorem Out.mono {κ:K} {n:Nat} {Q Q':Exit→Env→S→Prop} (h:∀ ex e σ,Q ex e σ→Q' ex e σ) {ex:Exit} {a:Act} {w:World} (ho:OutG I dd κ n Q ex a w):OutG I dd κ n Q' ex a w :=
 let ⟨κ',e,σ,h1,h2,h3,h4⟩:=ho
 ⟨κ',e,σ,h1,h2,h3,h _ _ _ h4⟩
theorem Out.up {κ κ':K} {n:Nat} {Q:Exit→Env→S→Prop} (hle:κ.Le κ') {ex:Exit} {a:Act} {w:World} (ho:OutG I dd κ' n Q ex a w):OutG I dd κ n Q ex a w :=
 let ⟨κ'',e,σ,h1,h2,h3,h4⟩:=ho
 ⟨κ'',e,σ,h1,hle.trans h2,h3,h4⟩
theorem awp.mono {P:Program} {n:Nat} {c:Code} {Q Q':Exit→Env→S→Prop} {e:Env} {σ:S} (h:awpG I P n c Q e σ) (hq:∀ ex e σ,Q ex e σ→Q' ex e σ):awpG I P n c Q' e σ :=
 fun r dd κ a hs=>wpIn_mono (h r dd κ a hs) fun _ _ _=>Out.mono hq
end
def NSt.Wk (σ' σ:NSt):Prop:=∀ κ,NInv κ σ→NInv κ σ'
theorem NSt.Wk.refl (σ:NSt):σ.Wk σ:=fun _ h=>h
theorem NSt.Wk.trans {a b c:NSt} (h:a.Wk b) (k:b.Wk c):a.Wk c:=fun κ hI=>h κ (k κ hI)
theorem awp.wk {P:Program} {n:Nat} {c:Code} {Q:Exit→Env→NSt→Prop} {e e':Env} {σ σ':NSt} (h:awp P n c Q e' σ') (he:∀ k,Wk (e k) (e' k)) (hs:σ'.Wk σ):awp P n c Q e σ :=
 fun r dd κ a hx=>h r dd κ a ⟨hx.defers,hx.size,fun k=>(hx.env k).wk (he k),hs κ hx.inv⟩
section
variable {S:Type} {I:S→K→Prop} {dd:List Deferred}
theorem ASatG.ev {κ:K} {n:Nat} {e:Env} {σ:S} {a:Act} (h:ASatG I dd κ n e σ a) (x:Operand):Rv κ (aev e x) (a.eval x):=by
 cases x with
 |tmp t=>exact h.env t
 |const v=>exact .ofConst v
 |global g=>exact .lit _
 |func f=>exact .lit _
theorem ASatG.put {κ κ':K} {n:Nat} {e:Env} {σ σ':S} {a:Act} (h:ASatG I dd κ n e σ a) (hle:κ.Le κ') (hI:I σ' κ') {dst:Option Tmp} (hd:∀ d,dst=some d→d < n) {x:AVal} {v:Value} (hv:Rv κ' x v) :
  ASatG I dd κ' n (updo e dst x) σ' (a.put dst v):=by
 cases dst with
 |none=>exact ⟨h.defers,h.size,fun k=>(h.env k).mono hle,hI⟩
 |some d =>
  refine ⟨h.defers,by simpa [Act.put] using h.size,fun k=>?_,hI⟩
  simp only [updo,upd,Act.put]
  by_cases hk:k=d
  ·subst hk
   rw [if_pos rfl]
   have hlt:k < a.tmps.size:=by rw [h.size];exact hd k rfl
   simp [hlt];exact hv
  ·rw [if_neg hk]
   have:(a.tmps.setIfInBounds d v).getD k undef=a.tmps.getD k undef:=by simp [Array.getElem?_setIfInBounds_ne (Ne.symm hk)]
   rw [this]
   exact (h.env k).mono hle
theorem aH_ {κ:K} {n:Nat} {e:Env} {σ:S} {a:Act} (h:ASatG I dd κ n e σ a) {ops:Array Oper} {o:Oper} {b:Bool} (hw:aC_ ops o e=some b) (hn:∀ j w d,o.guard=some (j,w)→(ops[j]?).bind (·.dst)=some d→d < n) :
  Region.wanted o (yielded ops a.tmps)=b:=by
 unfold aC_ at hw
 unfold Region.wanted
 split at hw
 ·rename_i hg;rw [hg];exact Option.some.inj hw
 ·rename_i j want hg
  rw [hg]
  split at hw
  ·rename_i d hd
   split at hw
   ·rename_i c hc
    have:=h.env d
    rw [hc] at this
    have hv:=this.litInv
    obtain rfl:=Option.some.inj hw
    have hlt:d < a.tmps.size:=by rw [h.size];exact hn j want d hg hd
    unfold yielded
    simp only [hd,Option.bind_some]
    have:a.tmps[d]?=some (.bool c):=by rw [← hv];simp [hlt]
    rw [this]
    cases c <;> cases want <;> rfl
   ·rename_i v hnb hc
    have:=h.env d
    rw [hc] at this
    have hv:=this.litInv
    obtain rfl:=Option.some.inj hw
    have hlt:d < a.tmps.size:=by rw [h.size];exact hn j want d hg hd
    unfold yielded
    simp only [hd,Option.bind_some]
    have:a.tmps[d]?=some v:=by rw [← hv];simp [hlt]
    rw [this]
    cases v with
    |bool b=>exact absurd rfl (hnb b)
    |_=>rfl
   ·cases hw
  ·cases hw
end
def aT_ (P:Program) (ops:Array Oper) (o:Oper) (Kk:Env→NSt→Prop) (e:Env) (σ:NSt):Prop :=
 match aC_ ops o e with
 |some true=>AOp P o (aev e) σ fun v σ'=>Kk (updo e o.dst v) σ'
 |some false=>Kk (updo e o.dst (.lit undef)) σ
 |none=>False
def aL_ (P:Program) (ops:Array Oper) (Kk:Env→NSt→Prop):List Oper→Env→NSt→Prop
 |[],e,σ=>Kk e σ
 |o :: rest,e,σ=>aT_ P ops o (aL_ P ops Kk rest) e σ
theorem lP_ {r:Option Nat} {P:Program} {f:FuncId} {args:Array Value} {w:World} {R:Ending→World→Prop} (h:Calls P f args w R):CallsIn (Fr r) 0 P f args w R :=
 have h2:CallsIn Fence.wide 0 P f args w R:=callsIn_wide.2 h
 h2
theorem Oper.wp_of_aop {r:Option Nat} {dd:List Deferred} {P:Program} {o:Oper} {κ:K} {n:Nat} {e:Env} {σ:NSt} {a:Act} (hs:ASatG NI dd κ n e σ a) {Kk:AVal→NSt→Prop} (h:AOp P o (aev e) σ Kk) {next:Act→World→Prop} {Q:Exit→Act→World→Prop}
  (hn:∀ cv w',Post κ Kk cv w'→next (a.put o.dst cv) w'):o.wpIn (Fr r) 0 P a κ.w next Q:=by
 have h1:=h κ a.eval hs.inv (fun x _=>hs.ev x)
 have hnd:∀ c,o.op≠.defer c:=by
  intro c hc
  obtain ⟨dst,op,ty,pos,after,guard⟩:=o
  subst hc
  have e1:execOp a.eval { dst:=dst,op:=.defer c,type:=ty,pos:=pos,after:=after,guard:=guard }=(do let d ← resolve a.eval c ty;pure (Next.defer d)):=rfl
  rw [e1] at h1
  simp only [Sem.run_bind] at h1
  cases hr:(resolve a.eval c ty).run P κ.w with
  |ok d w=>rw [hr] at h1;exact h1
  |halt x w=>rw [hr] at h1;exact h1
 refine ⟨fun _ _=>trivial,?_⟩
 show o.uponIn (Fr r) 0 P a next Q ((Oper.semAt r a.eval o).run P κ.w)
 rw [Oper.semAt_eq r a.eval o hnd]
 generalize (execOp a.eval o).run P κ.w=r at *
 unfold Upon at h1
 split at h1
 ·exact hn _ _ h1
 ·exact hn _ _ h1
 ·exact ⟨fun hh=>(by cases hh),lP_ (h1.mono fun ee w'' ⟨v,he,hr⟩=>by subst he;exact hn _ _ hr)⟩
 ·exact h1.elim
theorem aS_ {r:Option Nat} {dd:List Deferred} {P:Program} {n:Nat} {ops:Array Oper} {Kk:Env→NSt→Prop} {κ0:K} {Q:Exit→Act→World→Prop} (hQ:∀ κ e σ a,κ0.Le κ→ASatG NI dd κ n e σ a→Kk e σ→Q .normal a κ.w) :
  ∀ (l:List Oper),(∀ o∈l,cQ_ n ops o=true)→∀ κ e σ a,κ0.Le κ→ASatG NI dd κ n e σ a→aL_ P ops Kk l e σ→wpListIn (Fr r) 0 P ops Q l a κ.w
 |[],_,κ,e,σ,a,hle,hs,h=>hQ κ e σ a hle hs h
 |o :: rest,hd,κ,e,σ,a,hle,hs,h=>by
  have hdo:=hd o (List.mem_cons_self ..)
  unfold aL_ aT_ at h
  unfold wpListIn
  split at h
  ·rename_i hw
   rw [if_pos (aH_ hs hw (aW_ hdo))]
   refine Oper.wp_of_aop hs h fun cv w' ⟨κ',x,σ',h1,h2,h3,h4,h5⟩=>?_
   subst h1
   exact aS_ hQ rest (fun o ho=>hd o (List.mem_cons_of_mem _ ho)) κ' _ σ' _ (hle.trans h2) (hs.put h2 h3 (bc_ hdo) h4) h5
  ·rename_i hw
   rw [if_neg (by rw [aH_ hs hw (aW_ hdo)];simp)]
   exact ⟨fun _ _=>trivial,aS_ hQ rest (fun o ho=>hd o (List.mem_cons_of_mem _ ho)) κ _ σ _ hle (hs.put (.refl κ) hs.inv (bc_ hdo) (.lit _)) h⟩
  ·exact h.elim
theorem cK_ {P:Program} {n id:Nat} {l:List Oper} {Q:Exit→Env→NSt→Prop} {e:Env} {σ:NSt} (hd:l.all (cQ_ n l.toArray)=true) (h:aL_ P l.toArray (Q .normal) l e σ) :
  awp P n (.region id l.toArray false) Q e σ:=by
 intro r dd κ a hs
 refine wpIn_region_lit ?_
 exact aS_ (κ0:=κ) (fun κ' e' σ' a' hle hs' hk=>⟨κ',e',σ',rfl,hle,hs',hk⟩) l (fun o ho=>List.all_eq_true.1 hd o ho) κ e σ a (.refl κ) hs h
section
variable {S:Type} {I:S→K→Prop} {dd:List Deferred}
theorem ag_ {P:Program} {n:Nat} {Q:Exit→Env→S→Prop} {e:Env} {σ:S} (h:Q .normal e σ):awpG I P n .skip Q e σ :=
 fun r dd κ a hs=>wpIn_skip ⟨κ,e,σ,rfl,.refl κ,hs,h⟩
theorem aq_ {P:Program} {n:Nat} {Q:Exit→Env→S→Prop} {e:Env} {σ:S} (h:Q .ret e σ):awpG I P n .ret Q e σ :=
 fun r dd κ a hs=>wpIn_ret ⟨κ,e,σ,rfl,.refl κ,hs,h⟩
theorem aM_ {P:Program} {n id:Nat} {Q:Exit→Env→S→Prop} {e:Env} {σ:S} (h:Q (.exit id) e σ):awpG I P n (.exit id) Q e σ :=
 fun r dd κ a hs=>wpIn_exit ⟨κ,e,σ,rfl,.refl κ,hs,h⟩
def gp_ {S:Type} (K:Env→S→Prop) (Q:Exit→Env→S→Prop):Exit→Env→S→Prop
 |.normal,e,σ=>K e σ
 |ex,e,σ=>Q ex e σ
theorem ac_ {P:Program} {n:Nat} {x y:Code} {Q:Exit→Env→S→Prop} {e:Env} {σ:S} (h:awpG I P n x (gp_ (awpG I P n y Q) Q) e σ):awpG I P n (.seq x y) Q e σ:=by
 intro r dd κ a hs
 refine wpIn_seq (wpIn_mono (h r dd κ a hs) fun ex a' w' ⟨κ',e',σ',h1,h2,h3,h4⟩=>?_)
 subst h1
 cases ex with
 |normal=>exact wpIn_mono (h4 r dd κ' a' h3) fun _ _ _ ho=>Out.up h2 ho
 |exit id=>exact ⟨κ',e',σ',rfl,h2,h3,h4⟩
 |goto l=>exact ⟨κ',e',σ',rfl,h2,h3,h4⟩
 |ret=>exact ⟨κ',e',σ',rfl,h2,h3,h4⟩
 |panic c=>exact ⟨κ',e',σ',rfl,h2,h3,h4⟩
 |outgrown=>exact ⟨κ',e',σ',rfl,h2,h3,h4⟩
theorem df_ {P:Program} {n:Nat} {c:Operand} {x y:Code} {Q:Exit→Env→S→Prop} {e:Env} {σ:S} {t:Bool} (hc:aev e c=.lit (.bool t))
  (h1:t=true→awpG I P n x Q e σ) (h2:t=false→awpG I P n y Q e σ):awpG I P n (.cond c x y) Q e σ:=by
 intro r dd κ a hs
 have hv:=hs.ev c
 rw [hc] at hv
 exact wpIn_cond_split hv.litInv (fun ht=>h1 ht r dd κ a hs) (fun ht=>h2 ht r dd κ a hs)
def es_ {S:Type} (id:Nat) (Q:Exit→Env→S→Prop):Exit→Env→S→Prop
 |.exit id',e,σ=>if id'=id then Q .normal e σ else Q (.exit id') e σ
 |ex,e,σ=>Q ex e σ
theorem ah_ {P:Program} {n id:Nat} {c:Code} {Q:Exit→Env→S→Prop} {e:Env} {σ:S} (h:awpG I P n c (es_ id Q) e σ):awpG I P n (.block id c) Q e σ:=by
 intro r dd κ a hs
 refine wpIn_block (wpIn_mono (h r dd κ a hs) fun ex a' w' ⟨κ',e',σ',h1,h2,h3,h4⟩=>?_)
 cases ex with
 |exit id' =>
  unfold Exit.inBlock
  simp only [es_] at h4
  split at h4
  ·rename_i hid;subst hid;simp only [if_true];exact ⟨κ',e',σ',h1,h2,h3,h4⟩
  ·rename_i hid;simp only [hid,if_false];exact ⟨κ',e',σ',h1,h2,h3,h4⟩
 |normal=>exact ⟨κ',e',σ',h1,h2,h3,h4⟩
 |goto l=>exact ⟨κ',e',σ',h1,h2,h3,h4⟩
 |ret=>exact ⟨κ',e',σ',h1,h2,h3,h4⟩
 |panic c=>exact ⟨κ',e',σ',h1,h2,h3,h4⟩
 |outgrown=>exact ⟨κ',e',σ',h1,h2,h3,h4⟩
theorem d6_ {P:Program} {n:Nat} {c:Code} {Q:Exit→Env→S→Prop} (J:Nat→Env→S→Prop) {m:Nat} {e:Env} {σ:S} (h0:J m e σ)
  (round:∀ m e σ,J m e σ→awpG I P n c (gp_ (fun e' σ'=>∃ m',m' < m∧J m' e' σ') Q) e σ):awpG I P n (.loop c) Q e σ:=by
 intro r dd κ a hs b k cs hro hbb hrm
 have key:∀ (m:Nat) (e:Env) (σ:S) κ a,ASatG I dd κ n e σ a→J m e σ→∃ ex a' w',OutG I dd κ n Q ex a' w'∧ArrivesIn (Machine.fenced P (Fr r)) P (lone (b.atR a (.code c :: .inLoop c :: k)) cs κ.w) b k cs ex a' w':=by
  intro m
  induction m using Nat.strongRecOn with
  |_ m ih =>
   intro e σ κ a hs hJ
   obtain ⟨ex,a1,w1,⟨κ',e',σ',h1,h2,h3,h4⟩,harr⟩:=round m e σ hJ r dd κ a hs b (.inLoop c :: k) cs hro hbb hrm
   subst h1
   cases ex with
   |normal =>
    obtain ⟨m',hm,hJ'⟩:=h4
    obtain ⟨ex2,a2,w2,q2,arr2⟩:=ih m' hm e' σ' κ' a1 h3 hJ'
    exact ⟨ex2,a2,w2,Out.up h2 q2,.of_steps (StepsIn.trans harr (.one (fenced_calm hbb hrm rfl) stepR_inLoop)) arr2⟩
   |exit id=>exact ⟨.exit id,a1,κ'.w,⟨κ',e',σ',rfl,h2,h3,h4⟩,.pass (x:=.inLoop c) rfl (fun _ _=>.inl (by simp)) harr⟩
   |goto l=>exact ⟨.goto l,a1,κ'.w,⟨κ',e',σ',rfl,h2,h3,h4⟩,.pass (x:=.inLoop c) rfl (fun _ _=>.inl (by simp)) harr⟩
   |ret=>exact ⟨.ret,a1,κ'.w,⟨κ',e',σ',rfl,h2,h3,h4⟩,.pass (x:=.inLoop c) rfl (fun _ _=>.inl (by simp)) harr⟩
   |panic ch=>exact ⟨.panic ch,a1,κ'.w,⟨κ',e',σ',rfl,h2,h3,h4⟩,.pass (x:=.inLoop c) rfl (fun _ _=>.inl (by simp)) harr⟩
   |outgrown=>exact ⟨.outgrown,a1,κ'.w,⟨κ',e',σ',rfl,h2,h3,h4⟩,.pass (x:=.inLoop c) rfl (fun _ _=>.inl (by simp)) harr⟩
 obtain ⟨ex,a',w',ho,harr⟩:=key m e σ κ a hs h0
 exact ⟨ex,a',w',ho,.of_steps (.one (fenced_calm hbb hrm rfl) stepR_loop) harr⟩
end
section
variable {P:Program} {ops:Array Oper}
theorem cx_ {o:Oper} {α α':Operand→AVal} {σ:NSt} {Kk:AVal→NSt→Prop} (h:∀ x∈o.op.operands,α x=α' x) (ha:AOp P o α σ Kk):AOp P o α' σ Kk :=
 fun κ ev hI hx=>ha κ ev hI fun x hx'=>by rw [h x hx'];exact hx x hx'
def aV_ (P:Program) (ops:Array Oper) (i:Nat) (Kk:Env→NSt→Prop) (e:Env) (σ:NSt):Prop :=
 match ops[i]? with
 |none=>Kk e σ
 |some o=>aT_ P ops o Kk e σ
theorem aw_ {o:Oper} {Kk Kk':Env→NSt→Prop} {e:Env} {σ:NSt} (h:∀ e σ,Kk e σ→Kk' e σ) (ha:aT_ P ops o Kk e σ):aT_ P ops o Kk' e σ:=by
 unfold aT_ at *
 split at ha
 ·exact ha.mono fun v σ'=>h _ _
 ·exact h _ _ ha
 ·exact ha.elim
theorem dH_ {i:Nat} {Kk Kk':Env→NSt→Prop} {e:Env} {σ:NSt} (h:∀ e σ,Kk e σ→Kk' e σ) (ha:aV_ P ops i Kk e σ):aV_ P ops i Kk' e σ:=by
 unfold aV_ at *
 split
 ·exact h _ _ (by simpa [*] using ha)
 ·rename_i o ho
  simp only [ho] at ha
  exact aw_ h ha
def aAny (P:Program) (ops:Array Oper) (hd:Nat→Bool) (s0:NSt) (Kk:Env→NSt→Prop):Nat→Array Bool→Env→NSt→Prop
 |0,listed,e,σ=>Region.ready .any ops listed=[]∧Kk e σ
 |fuel + 1,listed,e,σ=>(Region.ready .any ops listed=[]→Kk e σ) ∧
  ∀ i∈Region.ready .any ops listed,aV_ P ops i (fun e' σ'=>(hd i=true→s0.Sub σ→s0.Sub σ')∧aAny P ops hd s0 Kk fuel (listed.setIfInBounds i true) e' σ') e σ
theorem aN_ {r:Option Nat} {dd:List Deferred} {hd:Nat→Bool} {s0:NSt} {Kk:Env→NSt→Prop} {n:Nat} {κ0:K} {Q:Exit→Act→World→Prop} (hok:∀ (i:Nat) o,ops[i]?=some o→cQ_ n ops o=true)
  (hQ:∀ κ e σ a,κ0.Le κ→ASatG NI dd κ n e σ a→Kk e σ→Q .normal a κ.w) :
  ∀ (fuel:Nat) (listed:Array Bool) (e:Env) (σ:NSt) κ a,κ0.Le κ→ASatG NI dd κ n e σ a→aAny P ops hd s0 Kk fuel listed e σ→wpAnyIn (Fr r) 0 P .any ops Q fuel listed a κ.w
 |0,listed,e,σ,κ,a,hle,hs,h=>⟨h.1,hQ κ e σ a hle hs h.2⟩
 |fuel + 1,listed,e,σ,κ,a,hle,hs,h=>by
  refine ⟨fun h0=>hQ κ e σ a hle hs (h.1 h0),fun i hi=>?_⟩
  have h1:=h.2 i hi
  unfold aV_ at h1
  unfold wpOpIn
  split
  ·rename_i ho
   simp only [ho] at h1
   exact aN_ hok hQ fuel _ e σ κ a hle hs h1.2
  ·rename_i o ho
   simp only [ho] at h1
   have hdo:=hok i o ho
   unfold aT_ at h1
   split at h1
   ·rename_i hw
    rw [if_pos (aH_ hs hw (aW_ hdo))]
    refine Oper.wp_of_aop hs h1 fun cv w' ⟨κ',x,σ',q1,q2,q3,q4,q5⟩=>?_
    subst q1
    exact aN_ hok hQ fuel _ _ σ' κ' _ (hle.trans q2) (hs.put q2 q3 (bc_ hdo) q4) q5.2
   ·rename_i hw
    rw [if_neg (by rw [aH_ hs hw (aW_ hdo)];simp)]
    exact ⟨fun _ _=>trivial,aN_ hok hQ fuel _ _ σ κ _ hle (hs.put (.refl κ) hs.inv (bc_ hdo) (.lit _)) h1.2⟩
   ·exact h1.elim
theorem AYields.opAt {s0:NSt} {i:Nat} {o:Oper} {a:AVal} {e:Env} {σ:NSt} (hi:ops[i]?=some o) (hy:AYields P ops s0.st o a e) (hs:s0.Sub σ) {Kk:Env→NSt→Prop} (h:Kk (updo e o.dst a) σ):aV_ P ops i Kk e σ:=by
 unfold aV_ aT_
 simp only [hi]
 rcases hy with ⟨hw,ha⟩ | ⟨hw,rfl⟩
 ·simp only [hw];exact d5_ ha hs h
 ·simp only [hw];exact h
def da_ (P:Program) (ops:Array Oper) (o:Oper) (a:AVal) (e:Env):Prop:=(∀ s:NSt,AYields P ops s.st o a e)∨(aC_ ops o e=some true∧∀ (s:NSt) (Kk:AVal→NSt→Prop),Kk a s→AOp P o (aev e) s Kk)
theorem da_.opAt {i:Nat} {o:Oper} {a:AVal} {e:Env} {σ:NSt} (hi:ops[i]?=some o) (hy:da_ P ops o a e) {Kk:Env→NSt→Prop} (h:Kk (updo e o.dst a) σ):aV_ P ops i Kk e σ:=by
 rcases hy with hy | ⟨hw,hy⟩
 ·exact Nb.AYields.opAt hi (hy σ) (.refl σ) h
 ·unfold aV_ aT_
  simp only [hi,hw]
  exact hy σ _ h
theorem da_.other {o:Oper} {a b:AVal} {d:Option Tmp} {e:Env} (h:∀ t,d=some t→t ∉ o.looksAt ops) (hy:da_ P ops o a e):da_ P ops o a (updo e d b):=by
 rcases hy with hy | ⟨hw,hy⟩
 ·exact .inl fun s=>(hy s).other h
 ·refine .inr ⟨by rw [bF_ h];exact hw,fun s Kk hk=>cx_ (fun x hx=>(bB_ h x hx).symm) (hy s Kk hk)⟩
theorem dI_ {Y:Env→Prop} {j:Nat} {oi oj:Oper} {a:AVal} {e:Env} {σ:NSt} {Kk:Env→NSt→Prop} (hj:ops[j]?=some oj) (hap:oi.apart ops oj=true)
  (hY:∀ (d:Option Tmp) (b:AVal) (e':Env),(∀ t,d=some t→t ∉ oi.looksAt ops)→Y e'→Y (updo e' d b)) (hy:Y e) (h:aV_ P ops j Kk (updo e oi.dst a) σ) :
  aV_ P ops j (fun e' σ'=>Y e'∧Kk (updo e' oi.dst a) σ') e σ:=by
 obtain ⟨h1,h2,h3⟩:=Oper.apart_spec hap
 unfold aV_ aT_ at *
 simp only [hj] at *
 rw [bF_ h1] at h
 split
 ·rename_i hw
  simp only [hw] at h
  refine cx_ (bB_ (ops:=ops) h1) (h.mono fun v σ' hk=>⟨hY _ _ _ h3 hy,?_⟩)
  rw [← bE_ e a v h2];exact hk
 ·rename_i hw
  simp only [hw] at h
  refine ⟨hY _ _ _ h3 hy,?_⟩
  rw [← bE_ e a (.lit undef) h2];exact h
 ·rename_i hw
  simp only [hw] at h
theorem bu_ {hd:Nat→Bool} {s0:NSt} {Kk:Env→NSt→Prop} {i:Nat} {oi:Oper} {a:AVal} {Y:Env→Prop} {G:NSt→Prop} (hi:ops[i]?=some oi)
  (hY:∀ (d:Option Tmp) (b:AVal) (e':Env),(∀ t,d=some t→t ∉ oi.looksAt ops)→Y e'→Y (updo e' d b)) (hat:∀ e σ,Y e→G σ→∀ Kk:Env→NSt→Prop,Kk (updo e oi.dst a) σ→aV_ P ops i Kk e σ)
  (htail:(∀ σ,G σ)∨((∀ σ,G σ ↔ s0.Sub σ)∧∀ t,t < ops.size→hd t=false→fG_ ops ops.size t i=true)) :
  ∀ (fuel:Nat) (listed:Array Bool) (e:Env) (σ:NSt),dR_ ops listed→G σ →
   (∀ j oj,ops[j]?=some oj→j≠i→listed.getD j true=false→(∀ ed∈oj.after,Region.binds .any ed=true→ed.on≠i)→oi.apart ops oj=true) →
   i∈Region.ready .any ops listed→Y e →
   aAny P ops hd s0 Kk fuel (listed.setIfInBounds i true) (updo e oi.dst a) σ→aAny P ops hd s0 Kk (fuel + 1) listed e σ:=by
 intro fuel
 induction fuel with
 |zero =>
  intro listed e σ hcl hs _ hr hy H
  refine ⟨fun h=>(by rw [h] at hr;cases hr),fun j hj=>?_⟩
  by_cases hji:j=i
  ·subst hji
   exact hat e σ hy hs _ ⟨fun _ h=>h,H⟩
  ·have:=ready_mono hj hji
   rw [H.1] at this
   cases this
 |succ fuel ih =>
  intro listed e σ hcl hs hfree hr hy H
  refine ⟨fun h=>(by rw [h] at hr;cases hr),fun j hj=>?_⟩
  by_cases hji:j=i
  ·subst hji
   exact hat e σ hy hs _ ⟨fun _ h=>h,H⟩
  ·have h1:=H.2 j (ready_mono hj hji)
   obtain ⟨hjun,oj,hoj,hall⟩:=mem_ready.1 hj
   have hiun:listed.getD i false=false:=iC_ (mem_ready.1 hr).1
   have hnot:∀ ed∈oj.after,Region.binds .any ed=true→ed.on≠i:=fun ed he hb heq=>by
    have h1:=hall ed he hb
    rw [heq,hiun] at h1
    cases h1
   have hG:∀ σ',(hd j=true→s0.Sub σ→s0.Sub σ')→G σ':=by
    intro σ' hk
    rcases htail with h0 | ⟨h0,htail⟩
    ·exact h0 σ'
    ·refine (h0 σ').2 (hk ?_ ((h0 σ).1 hs))
     cases hh:hd j with
     |true=>rfl
     |false =>
      have hjlt:j < ops.size:=(Array.getElem?_eq_some_iff.1 hoj).1
      have:=cH_ hcl ops.size j i oj hoj hall (htail j hjlt hh)
      rw [hiun] at this
      cases this
   have h2:=dI_ hoj (hfree j oj hoj hji hjun hnot) hY hy h1
   have hfree':∀ k ok,ops[k]?=some ok→k≠i→(listed.setIfInBounds j true).getD k true=false →
     (∀ ed∈ok.after,Region.binds .any ed=true→ed.on≠i)→oi.apart ops ok=true:=fun k ok hk hki hun hno=>by
    refine hfree k ok hk hki ?_ hno
    by_cases hjk:j=k
    ·subst hjk;exact hjun
    ·rw [getD_set_ne true hjk] at hun;exact hun
   refine dH_ (fun e' σ' h3=>⟨h3.2.1,ih (listed.setIfInBounds j true) e' σ' (hcl.set hj) (hG σ' h3.2.1) hfree' (ready_mono hr (Ne.symm hji)) h3.1 ?_⟩) h2
   rw [Array.setIfInBounds_comm _ _ hji]
   exact h3.2.2
def dRun (P:Program) (ops:Array Oper) (s0:NSt) (Kk:Env→NSt→Prop):DT→Env→NSt→Prop
 |.nil,e,σ=>Kk e σ
 |.op i 0 r,e,σ=>∃ o a,ops[i]?=some o∧AYields P ops s0.st o a e∧dRun P ops s0 Kk r (updo e o.dst a) σ
 |.op i 1 r,e,σ=>∃ o,ops[i]?=some o∧aT_ P ops o (fun e' σ'=>s0.Sub σ'∧dRun P ops s0 Kk r e' σ') e σ
 |.op i (_ + 2) r,e,σ=>∃ o,ops[i]?=some o∧aT_ P ops o (dRun P ops s0 Kk r) e σ
 |.any i r,e,σ=>∃ o a,ops[i]?=some o∧da_ P ops o a e∧dRun P ops s0 Kk r (updo e o.dst a) σ
 |.alt i 1 r t,e,σ=>(∃ o,ops[i]?=some o∧aT_ P ops o (fun e' σ'=>s0.Sub σ'∧dRun P ops s0 Kk r e' σ') e σ)∧dRun P ops s0 Kk t e σ
 |.alt i _ r t,e,σ=>(∃ o,ops[i]?=some o∧aT_ P ops o (dRun P ops s0 Kk r) e σ)∧dRun P ops s0 Kk t e σ
theorem fP_ {hd:Nat→Bool} {s0:NSt} {Kk:Env→NSt→Prop} (fuel:Nat) {listed:Array Bool} {e:Env} {σ:NSt} (h0:Region.ready .any ops listed=[]) (h:Kk e σ):aAny P ops hd s0 Kk fuel listed e σ:=by
 cases fuel with
 |zero=>exact ⟨h0,h⟩
 |succ f=>exact ⟨fun _=>h,fun i hi=>by rw [h0] at hi;cases hi⟩
theorem bp_ {hd:Nat→Bool} {s0:NSt} {Kk:Env→NSt→Prop} {fuel:Nat} {listed:Array Bool} {e:Env} {σ:NSt} {l:List Nat} (hr:Region.ready .any ops listed=l) (hne:l≠[])
  (h:∀ i∈l,i∈Region.ready .any ops listed→aV_ P ops i (fun e' σ'=>(hd i=true→s0.Sub σ→s0.Sub σ')∧aAny P ops hd s0 Kk fuel (listed.setIfInBounds i true) e' σ') e σ):aAny P ops hd s0 Kk (fuel + 1) listed e σ :=
 ⟨fun h0=>absurd (hr.symm.trans h0) hne,fun i hi=>h i (hr ▸ hi) hi⟩
theorem as_ {hd:Nat→Bool} {s0:NSt} {Kk:Env→NSt→Prop}:∀ (t:DT) (tl:Bool) (listed:Array Bool) (e:Env) (σ:NSt),dR_ ops listed→(tl=true∨s0.Sub σ)→dRun P ops s0 Kk t e σ →
  (okT ops hd t false tl listed=true→∀ fuel,t.depth≤fuel→aAny P ops hd s0 Kk fuel listed e σ) ∧
  (∀ b,okT ops hd t b tl listed=true→∀ fuel,t.depth≤fuel + 1→(∀ i r,t≠.op i 0 r)→(∀ i r,t≠.any i r)→∀ i∈t.alts,i∈Region.ready .any ops listed→aV_ P ops i (fun e' σ'=>(hd i=true→s0.Sub σ→s0.Sub σ')∧aAny P ops hd s0 Kk fuel (listed.setIfInBounds i true) e' σ') e σ)
 |.nil,tl,listed,e,σ,hcl,hs,h=>⟨fun hB fuel _=>fP_ fuel (by simpa [okT] using hB) h,fun _ _ _ _ _ _ i hi=>by cases hi⟩
 |.op i 0 r,tl,listed,e,σ,hcl,hs,h=>by
  refine ⟨fun hB fuel hf=>?_,fun _ _ _ _ hne _=>absurd rfl (hne i r)⟩
  obtain ⟨o,a,ho,hy,hrest⟩:=h
  simp only [okT,Bool.and_eq_true,Bool.or_eq_true,Bool.not_eq_true',beq_iff_eq,ho,Option.map_some,Option.some.injEq] at hB
  obtain ⟨⟨⟨⟨_,hr⟩,hfr⟩,htail⟩,hB'⟩:=hB
  have hr':i∈Region.ready .any ops listed:=by simpa using hr
  cases fuel with
  |zero=>simp [DT.depth] at hf
  |succ fuel =>
   have hnext:=(as_ r tl _ _ σ (hcl.set hr') hs hrest).1 hB' fuel (by simpa [DT.depth] using hf)
   rcases htail with hsl | ⟨htl,htail⟩
   ·exact bu_ (Y:=fun e=>AYields P ops s0.st o a e) (G:=fun _=>True) ho (fun d b e' hd' hy'=>hy'.other hd') (fun e σ hy' _ Kk h=>Nb.AYields.opAt ho (hy'.less hsl) (.refl σ) h) (.inl fun _=>trivial) fuel listed e σ hcl trivial (Region.free_spec ho hfr) hr' hy hnext
   ·have hs':s0.Sub σ:=hs.resolve_left (by rw [htl];decide)
    exact bu_ (Y:=fun e=>AYields P ops s0.st o a e) (G:=fun σ=>s0.Sub σ) ho (fun d b e' hd' hy'=>hy'.other hd') (fun e σ hy' hs Kk h=>Nb.AYields.opAt ho hy' hs h) (.inr ⟨fun _=>Iff.rfl,fun t htlt hht=>by
     have:=List.all_eq_true.1 htail t (List.mem_range.2 htlt)
     simpa [hht] using this⟩) fuel listed e σ hcl hs' (Region.free_spec ho hfr) hr' hy hnext
 |.any i r,tl,listed,e,σ,hcl,hs,h=>by
  refine ⟨fun hB fuel hf=>?_,fun _ _ _ _ _ hne=>absurd rfl (hne i r)⟩
  obtain ⟨o,a,ho,hy,hrest⟩:=h
  simp only [okT,Bool.and_eq_true,Bool.not_eq_true'] at hB
  obtain ⟨⟨⟨_,hr⟩,hfr⟩,hB'⟩:=hB
  have hr':i∈Region.ready .any ops listed:=by simpa using hr
  cases fuel with
  |zero=>simp [DT.depth] at hf
  |succ fuel =>
   have hnext:=(as_ r tl _ _ σ (hcl.set hr') hs hrest).1 hB' fuel (by simpa [DT.depth] using hf)
   exact bu_ (Y:=fun e=>da_ P ops o a e) (G:=fun _=>True) ho (fun d b e' hd' hy'=>hy'.other hd') (fun e σ hy' _ Kk h=>da_.opAt ho hy' h) (.inl fun _=>trivial) fuel listed e σ hcl trivial (Region.free_spec ho hfr) hr' hy hnext
 |.op i 1 r,tl,listed,e,σ,hcl,hs,h=>by
  have key:∀ b,okT ops hd (.op i 1 r) b tl listed=true→∀ fuel,(DT.op i 1 r).depth≤fuel + 1→i∈Region.ready .any ops listed→aV_ P ops i (fun e' σ'=>(hd i=true→s0.Sub σ→s0.Sub σ')∧aAny P ops hd s0 Kk fuel (listed.setIfInBounds i true) e' σ') e σ:=by
   intro b hB fuel hf hi
   obtain ⟨o,ho,hst⟩:=h
   simp only [okT,Bool.and_eq_true] at hB
   unfold aV_
   simp only [ho]
   exact aw_ (fun e' σ' hk=>⟨fun _ _=>hk.1,(as_ r _ _ _ σ' (hcl.set hi) (.inr hk.1) hk.2).1 hB.2 fuel (by simpa [DT.depth] using hf)⟩) hst
  refine ⟨fun hB fuel hf=>?_,fun b hB fuel hf _ _ j hj hr=>by
   have hji:j=i:=by simpa [DT.alts] using hj
   rw [hji] at hr ⊢;exact key b hB fuel hf hr⟩
  cases fuel with
  |zero=>simp [DT.depth] at hf
  |succ fuel =>
   have hr:Region.ready .any ops listed=[i]:=by simp only [okT,Bool.and_eq_true,Bool.or_eq_true,decide_eq_true_eq] at hB;exact hB.1.1.1.resolve_left (by decide)
   exact bp_ hr (by simp) fun j hj hjr=>by
    have hji:j=i:=by simpa using hj
    rw [hji] at hjr ⊢;exact key false hB fuel hf hjr
 |.op i (q + 2) r,tl,listed,e,σ,hcl,hs,h=>by
  have key:∀ b,okT ops hd (.op i (q + 2) r) b tl listed=true→∀ fuel,(DT.op i (q + 2) r).depth≤fuel + 1→i∈Region.ready .any ops listed→aV_ P ops i (fun e' σ'=>(hd i=true→s0.Sub σ→s0.Sub σ')∧aAny P ops hd s0 Kk fuel (listed.setIfInBounds i true) e' σ') e σ:=by
   intro b hB fuel hf hi
   obtain ⟨o,ho,hst⟩:=h
   simp only [okT,Bool.and_eq_true,beq_iff_eq] at hB
   unfold aV_
   simp only [ho]
   exact aw_ (fun e' σ' hk=>⟨fun h1 _=>by rw [hB.1.1.2] at h1;simp at h1,(as_ r _ _ _ σ' (hcl.set hi) (.inl (by simp)) hk).1 hB.2 fuel (by simpa [DT.depth] using hf)⟩) hst
  refine ⟨fun hB fuel hf=>?_,fun b hB fuel hf _ _ j hj hr=>by
   have hji:j=i:=by simpa [DT.alts] using hj
   rw [hji] at hr ⊢;exact key b hB fuel hf hr⟩
  cases fuel with
  |zero=>simp [DT.depth] at hf
  |succ fuel =>
   have hr:Region.ready .any ops listed=[i]:=by simp only [okT,Bool.and_eq_true,Bool.or_eq_true,decide_eq_true_eq] at hB;exact hB.1.1.1.resolve_left (by decide)
   exact bp_ hr (by simp) fun j hj hjr=>by
    have hji:j=i:=by simpa using hj
    rw [hji] at hjr ⊢;exact key false hB fuel hf hjr
 |.alt i 0 r t,tl,listed,e,σ,hcl,hs,h=>⟨fun hB=>by simp [okT] at hB,fun b hB=>by simp [okT] at hB⟩
 |.alt i 1 r t,tl,listed,e,σ,hcl,hs,h=>by
  have key:∀ b,okT ops hd (.alt i 1 r t) b tl listed=true→∀ fuel,(DT.alt i 1 r t).depth≤fuel + 1→∀ j∈(DT.alt i 1 r t).alts,j∈Region.ready .any ops listed→aV_ P ops j (fun e' σ'=>(hd j=true→s0.Sub σ→s0.Sub σ')∧aAny P ops hd s0 Kk fuel (listed.setIfInBounds j true) e' σ') e σ:=by
   intro b hB fuel hf j hj hjr
   obtain ⟨⟨o,ho,hst⟩,ht⟩:=h
   simp only [okT,Bool.and_eq_true] at hB
   simp only [DT.depth] at hf
   have ih:=as_ (hd:=hd) t tl listed e σ hcl hs ht
   rcases List.mem_cons.1 hj with rfl | hj
   ·unfold aV_
    simp only [ho]
    exact aw_ (fun e' σ' hk=>⟨fun _ _=>hk.1,(as_ r _ _ _ σ' (hcl.set hjr) (.inr hk.1) hk.2).1 hB.1.2 fuel (by omega)⟩) hst
   ·refine ih.2 true hB.2 fuel (by omega) (fun i' r' hh=>?_) (fun i' r' hh=>?_) j hj hjr
    all_goals (have:=hB.2;rw [hh] at this;simp [okT] at this)
  refine ⟨fun hB fuel hf=>?_,fun b hB fuel hf _ _ j hj hr=>key b hB fuel hf j hj hr⟩
  cases fuel with
  |zero=>simp only [DT.depth] at hf;omega
  |succ fuel =>
   have hr:Region.ready .any ops listed=i :: t.alts:=by simp only [okT,Bool.and_eq_true,Bool.or_eq_true,decide_eq_true_eq] at hB;exact hB.1.1.1.1.resolve_left (by decide)
   exact bp_ hr (by simp) fun j hj hjr=>key false hB fuel hf j hj hjr
 |.alt i (q + 2) r t,tl,listed,e,σ,hcl,hs,h=>by
  have key:∀ b,okT ops hd (.alt i (q + 2) r t) b tl listed=true→∀ fuel,(DT.alt i (q + 2) r t).depth≤fuel + 1→∀ j∈(DT.alt i (q + 2) r t).alts,j∈Region.ready .any ops listed→aV_ P ops j (fun e' σ'=>(hd j=true→s0.Sub σ→s0.Sub σ')∧aAny P ops hd s0 Kk fuel (listed.setIfInBounds j true) e' σ') e σ:=by
   intro b hB fuel hf j hj hjr
   obtain ⟨⟨o,ho,hst⟩,ht⟩:=h
   simp only [okT,Bool.and_eq_true,beq_iff_eq] at hB
   simp only [DT.depth] at hf
   have ih:=as_ (hd:=hd) t tl listed e σ hcl hs ht
   rcases List.mem_cons.1 hj with rfl | hj
   ·unfold aV_
    simp only [ho]
    exact aw_ (fun e' σ' hk=>⟨fun h1 _=>by rw [hB.1.1.1.2] at h1;simp at h1,(as_ r _ _ _ σ' (hcl.set hjr) (.inl (by simp)) hk).1 hB.1.2 fuel (by omega)⟩) hst
   ·refine ih.2 true hB.2 fuel (by omega) (fun i' r' hh=>?_) (fun i' r' hh=>?_) j hj hjr
    all_goals (have:=hB.2;rw [hh] at this;simp [okT] at this)
  refine ⟨fun hB fuel hf=>?_,fun b hB fuel hf _ _ j hj hr=>key b hB fuel hf j hj hr⟩
  cases fuel with
  |zero=>simp only [DT.depth] at hf;omega
  |succ fuel =>
   have hr:Region.ready .any ops listed=i :: t.alts:=by simp only [okT,Bool.and_eq_true,Bool.or_eq_true,decide_eq_true_eq] at hB;exact hB.1.1.1.1.resolve_left (by decide)
   exact bp_ hr (by simp) fun j hj hjr=>key false hB fuel hf j hj hjr
theorem b1_ {n id:Nat} {l:List Oper} {Q:Exit→Env→NSt→Prop} {e:Env} {s0 σ:NSt} (hsub:s0.Sub σ) (t:DT) (hm:P.follows .mixedOrders=true) (hB:gW_ n l.toArray t=true)
  (h:dRun P l.toArray s0 (Q .normal) t e σ):awp P n (.region id l.toArray true) Q e σ:=by
 intro r dd κ a hs
 simp only [gW_,Bool.and_eq_true,decide_eq_true_eq] at hB
 obtain ⟨⟨hlen,hdst⟩,hok⟩:=hB
 have hI:=hs.inv.drew
 have hs':ASatG NI dd { κ with w:=κ.w.drew } n e σ a:=⟨hs.defers,hs.size,fun k=>(hs.env k).mono hI.1,hI.2⟩
 refine wpIn_region_any hm ?_
 have key:=(as_ (P:=P) (ops:=l.toArray) (hd:=fun i=>!t.tails.contains i) (s0:=s0) (Kk:=Q .normal) t false (Array.replicate l.toArray.size false) e σ ⟨by simp,fun j oj _ hl=>(by rw [eP_] at hl;cases hl)⟩ (.inr hsub) h).1 hok _ hlen
 exact aN_ (κ0:=κ) (fun i o ho=>Array.all_eq_true_iff_forall_mem.1 hdst o (Array.mem_of_getElem? ho)) (fun κ' e' σ' a' hle hs'' hk=>⟨κ',e',σ',rfl,hle,hs'',hk⟩) _ _ e σ { κ with w:=κ.w.drew } a hI.1 hs' key
end
def aEnd (P:Program) (rs:List ResultVar) (Q:AVal→NSt→Prop):Exit→Env→NSt→Prop
 |.normal,e,σ=>∃ v,aret P rs e σ.st=some v∧Q v σ
 |.ret,e,σ=>∃ v,aret P rs e σ.st=some v∧Q v σ
 |_,_,_=>False
theorem ek_ {P:Program} {f:FuncId} {fn:Func} {c:Code} {args:List AVal} {σ:NSt} {Q:AVal→NSt→Prop} (hf:P.funcs[f]?=some fn) (hb:fn.body=some c) (hn:args.length≤fn.ntmps) (h:awp P fn.ntmps c (aEnd P fn.results.toList Q) (dL_ 0 args) σ):ACalls P f args σ Q:=by
 intro κ vs hI hsz hv
 refine calls_of_wp hf hb (wp_mono (wpIn_wide.1 (h none [] κ _ ⟨rfl,?_,fun k=>?_,hI⟩)) ?_)
 ·simp;omega
 ·rw [di_]
  simp only [Nat.zero_le,if_true,Nat.sub_zero]
  by_cases hk:k < args.length
  ·have e1:args[k]?.getD .any=args[k]:=by simp [hk]
   rw [e1]
   have e2:(vs ++ Array.replicate (fn.ntmps - vs.size) undef).getD k undef=vs.getD k undef:=by
    simp [Array.getElem?_append_left (show k < vs.size by omega)]
   rw [e2]
   exact hv k hk
  ·have e1:args[k]?.getD .any=.any:=by simp [List.getElem?_eq_none (show args.length≤k by omega)]
   rw [e1]
   exact .any _
 ·rintro ex a w ⟨κ',e,σ',h1,h2,h3,h4⟩
  subst h1
  have fin:(∃ v,aret P fn.results.toList e σ'.st=some v∧Q v σ')→a.defers=[]∧∃ v,(results fn a.tmps).run P κ'.w=.ok v κ'.w∧∃ cv,Ending.returned v=.returned cv∧Post κ Q cv κ'.w:=by
   rintro ⟨v,q1,q3⟩
   obtain ⟨cv,r1,r2⟩:=ef_ h3.inv.1 h3.env q1
   exact ⟨h3.defers,cv,r1,cv,rfl,κ',v,σ',rfl,h2,h3.inv,r2,q3⟩
  cases ex with
  |normal=>exact fin h4
  |ret=>exact fin h4
  |exit id=>exact h4.elim
  |goto l=>exact h4.elim
  |panic c=>exact h4.elim
  |outgrown=>exact h4.elim
end Go.Nb
end

section
set_option linter.all false
set_option maxRecDepth 100000
namespace Go.Nb
open Go.Ab Go.RowKit
theorem o3_ {a b:Nat} (h:Nat.beq a b=true):a=b:=Nat.eq_of_beq_eq_true h
def od_ (r:List AVal):AVal:=match r with
 |[c]=>bif c.one then c else .agg [c]
 |r=>.agg r
theorem eS_ (r:List AVal):(od_ r).cells=r:=by
 unfold od_
 split
 ·rename_i c
  cases h:c.one with
  |false=>rfl
  |true=>exact AVal.one_cells h
 ·rfl
def d1_ (sz:Nat):Nat→List AVal→List AVal
 |0,_=>[]
 |n + 1,l=>od_ (l.take sz) :: d1_ sz n (l.drop sz)
theorem dU_ (sz:Nat):∀ (n:Nat) (l:List AVal),(d1_ sz n l).length=n
 |0,_=>rfl
 |n + 1,l=>by rw [d1_,List.length_cons,dU_ sz n]
theorem fs_ (sz:Nat):∀ (n:Nat) (l:List AVal),n * sz≤l.length→flat (d1_ sz n l)=l.take (n * sz)
 |0,l,_=>by simp [d1_,flat]
 |n + 1,l,h=>by
  have h':n * sz + sz≤l.length:=by rw [← Nat.succ_mul];exact h
  have ih:=fs_ sz n (l.drop sz) (by rw [List.length_drop];omega)
  unfold flat at ih ⊢
  rw [d1_,List.flatMap_cons,eS_,ih,Nat.succ_mul,Nat.add_comm (n * sz) sz,List.take_add]
theorem ft_ (sz:Nat):∀ (n:Nat) (l:List AVal),n * sz≤l.length→∀ x∈d1_ sz n l,x.cells.length=sz
 |0,l,_,x,hx=>by cases hx
 |n + 1,l,h,x,hx=>by
  have h':n * sz + sz≤l.length:=by rw [← Nat.succ_mul];exact h
  rw [d1_] at hx
  rcases List.mem_cons.1 hx with rfl | hx
  ·rw [eS_,List.length_take];omega
  ·exact ft_ sz n (l.drop sz) (by rw [List.length_drop];omega) x hx
mutual
def fz (o:Nat) (cs:List AVal):AVal→AVal
 |.agg l=>.agg (fzL o cs l)
 |.tup l=>.tup (fzL o cs l)
 |.sl sz l t=>.sl sz (fzL o cs l) t
 |.own k sz l=>.own k sz (fzL o cs l)
 |.msl so sz off len=>bif Nat.beq so o && Nat.ble (off + len * sz) cs.length then .sl sz (d1_ sz len (cs.drop off)) false else .msl so sz off len
 |a=>a
def fzL (o:Nat) (cs:List AVal):List AVal→List AVal
 |[]=>[]
 |a :: l=>fz o cs a :: fzL o cs l
end
theorem c4_ (o:Nat) (cs:List AVal):∀ l:List AVal,fzL o cs l=l.map (fz o cs)
 |[]=>rfl
 |a :: l=>by rw [fzL,c4_ o cs l];rfl
theorem h9_ (o:Nat) (cs:List AVal) (a:AVal):(fz o cs a).cells=a.cells.map (fz o cs):=by
 cases a with
 |agg l=>rw [fz];exact c4_ o cs l
 |msl so sz off len =>
  show (fz o cs (.msl so sz off len)).cells=[fz o cs (.msl so sz off len)]
  rw [fz]
  cases (Nat.beq so o && Nat.ble (off + len * sz) cs.length) <;> rfl
 |_=>first | rfl | (simp [fz,AVal.cells])
theorem jO_ (o:Nat) (cs l:List AVal):flat (fzL o cs l)=(flat l).map (fz o cs):=by
 rw [c4_]
 unfold flat
 induction l with
 |nil=>rfl
 |cons a l ih=>simp only [List.map_cons,List.flatMap_cons,List.map_append,h9_,ih]
theorem gJ_ {κ:K} {σ:Store} (hI:Inv κ σ) {so:Nat} {cs:List AVal} (hh:σ.heap so=some (.cells cs)) :
  ∃ κ',κ'.w=κ.w∧κ.Le κ'∧Inv κ' (σ.del so)∧(∀ a v,Rv κ a v→Rv κ' (fz so cs a) v)∧κ'.ρ=κ.ρ∧κ'.τ=κ.τ:=by
 obtain ⟨b,hb,hbase,hIb,c,el',hheap,hcl,hcv⟩:=hI.heap so _ hh
 have hle:κ.Le { κ with I:=fun k=>if k=b then cs.length else κ.I k } :=
  ⟨rfl,Below.refl _ _,fun _ _ h=>h,fun _ _ h=>h,fun _ _ h=>h,fun k=>by
   show _≤(if k=b then _ else _)
   split
   ·rename_i hk;rw [hk,hIb];exact Nat.zero_le _
   ·exact Nat.le_refl _,fun _ _ _ _ h=>h,Nat.le_refl _,fun k hk=>if_neg (by omega)⟩
 refine ⟨{ κ with I:=fun k=>if k=b then cs.length else κ.I k },rfl,hle,?_,?_,rfl,rfl⟩
 ·have hne:∀ i x,(σ.del so).heap i=some x→i≠so∧σ.heap i=some x:=fun i x hx=>by
   by_cases hi:i=so
   ·rw [hi,Store.del_get] at hx;cases hx
   ·rw [Store.del_ne _ hi] at hx;exact ⟨hi,hx⟩
  refine ⟨hI.glob,hI.base,fun i x hx=>?_,fun i i' x x' k hx hx'=>hI.inj i i' x x' k (hne _ _ hx).2 (hne _ _ hx').2,fun t q ht=>?_,fun t t' q q' u u' k=>hI.tokinj t t' q q' u u' k,fun t q u k i x ht hu hk hx=>hI.tokobj t q u k i x ht hu hk (hne _ _ hx).2,hI.frO,hI.frT,fun k hk=>?_⟩
  ·obtain ⟨hi,hx'⟩:=hne _ _ hx
   obtain ⟨k,hk,hkb,hkI,hR⟩:=hI.heap i x hx'
   have hkne:k≠b:=fun hh'=>hi (hI.inj i so x _ b hx' hh (by rw [hk,hh']) hb)
   exact ⟨k,hk,hkb,by show (if k=b then _ else _)=_;rw [if_neg hkne];exact hkI,hR.mono hle rfl⟩
  ·obtain ⟨u,hu,hok⟩:=hI.tok t q ht
   refine ⟨u,hu,hok.mono hle fun k hk=>⟨rfl,?_⟩⟩
   show (if k=b then _ else _)=_
   rw [if_neg (fun hh'=>hI.tokobj t q u k so _ ht hu hk hh (by rw [hb,hh']))]
  ·show (if k=b then _ else _)=_
   have:b < κ.w.heap.size:=(Array.getElem?_eq_some_iff.1 hheap).1
   have hk':κ.w.heap.size≤k:=hk
   rw [if_neg (by omega)]
   exact hI.frI k hk
 ·intro a v h
  induction h with
  |any v=>exact .any v
  |lit v=>exact .lit v
  |agg l vs hn _ ih=>rw [fz,c4_];exact .agg _ vs (by simpa using hn) fun i hi=>by rw [List.getElem_map];exact ih i (by simpa using hi)
  |tup l vs hn _ ih=>rw [fz,c4_];exact .tup _ vs (by simpa using hn) fun i hi=>by rw [List.getElem_map];exact ih i (by simpa using hi)
  |slNil sz t=>exact .slNil sz t
  |slE sz t a=>exact .slE sz t a
  |sl sz l t b2 off cap vals hcap ht hsz hc hv ih =>
   have hl:(fzL so cs l).length=l.length:=by rw [c4_,List.length_map]
   have hfl:(flat (fzL so cs l)).length=(flat l).length:=by rw [jO_,List.length_map]
   rw [fz,← hl]
   refine .sl sz (fzL so cs l) t b2 off cap vals (by rw [hl];exact hcap) (fun h=>by rw [hl];exact ht h) (fun x hx=>?_) (fun k hk=>?_) fun k hk=>?_
   ·rw [c4_] at hx
    obtain ⟨y,hy,rfl⟩:=List.mem_map.1 hx
    rw [h9_,List.length_map];exact hsz y hy
   ·obtain ⟨q1,q2⟩:=hc k (by rw [← hfl];exact hk)
    exact ⟨Nat.lt_of_lt_of_le q1 (hle.imm b2),q2⟩
   ·have hk':k < (flat l).length:=by rw [← hfl];exact hk
    have e:(flat (fzL so cs l))[k]=fz so cs (flat l)[k]:=by simp only [jO_,List.getElem_map]
    rw [e];exact ih k hk'
  |own t sz l v h0 hτ ih=>exact .own t sz (fzL so cs l) v ih hτ
  |msl o sz off len b2 cap n e hb2 hlen hs hn =>
   rw [fz]
   cases hc:(Nat.beq o so && Nat.ble (off + len * sz) cs.length) with
   |false=>exact .msl o sz off len b2 cap n e hb2 hlen hs hn
   |true =>
    simp only [Bool.and_eq_true] at hc
    obtain rfl:=o3_ hc.1
    have hfit:=Nat.le_of_ble_eq_true hc.2
    rw [hb] at hb2
    obtain rfl:=Option.some.inj hb2
    have hdl:len * sz≤(cs.drop off).length:=by rw [List.length_drop];omega
    have hl:=dU_ sz len (cs.drop off)
    have hf:=fs_ sz len (cs.drop off) hdl
    have hfl:(flat (d1_ sz len (cs.drop off))).length=len * sz:=by rw [hf,List.length_take];omega
    have key:=Rv.sl (κ:={ κ with I:=fun k=>if k=b then cs.length else κ.I k }) sz (d1_ sz len (cs.drop off)) false b off cap (fun k=>c.getD (off + k) undef) (by rw [hl];exact hlen) (by simp) (ft_ sz len _ hdl) (fun k hk=>by
     rw [hfl] at hk
     refine ⟨?_,?_⟩
     ·show _ < (if b=b then _ else _)
      rw [if_pos rfl];omega
     ·show κ.w.cell? _=_
      rw [cell_of_row _ _ _ _ _ _ hheap]
      simp [show off + k < c.size by omega]) (fun k hk=>by
     have hk2:k < len * sz:=by rw [← hfl];exact hk
     have e1:(flat (d1_ sz len (cs.drop off)))[k]=cs[off + k]'(by omega):=by
      simp only [hf,List.getElem_take,List.getElem_drop]
     rw [e1]
     exact (hcv (off + k) (by omega)).mono hle)
    rw [hl] at key
    exact key
  |ref o off b hb=>exact .ref o off b hb
  |ro a b off vals hc hv ih=>exact (Rv.ro a b off vals hc hv).mono hle
  |map o b hb=>exact .map o b hb
  |fn f first captured vs ws hn h hm h' ih ih'=>exact (Rv.fn f first captured vs ws hn h hm h').mono hle
  |iface t a v h ih=>exact (Rv.iface t a v h).mono hle
  |nilp o e n b hb hs=>exact .nilp o e n b hb hs
  |sdp0 k a=>exact .sdp0 k a
  |sdp k l b c h0 hτ ih=>exact (Rv.sdp k l b c h0 hτ).mono hle
  |mslc o sz off len cap e b n hb hlen hs hn=>exact .mslc o sz off len cap e b n hb hlen hs hn
end Go.Nb
end

section
set_option linter.all false
namespace Go.Nb
open Go.Ab Go.RowKit
theorem gP_ (κ:K) (v:Value):Kn κ (.lit v):=⟨v,.lit v⟩
theorem nY_ (κ:K) (z:Value):∀ a∈aO_ z,Kn κ a:=fun a ha=>by
 unfold aO_ at ha
 obtain ⟨v,_,rfl⟩:=List.mem_map.1 ha
 exact gP_ κ v
theorem hY_ {cs l:List AVal} {k:Nat} {a:AVal} (h:a∈aput cs k l):a∈cs∨a∈l:=by
 unfold aput at h
 simp only [List.mem_append] at h
 rcases h with (h | h) | h
 ·exact .inl (List.mem_of_mem_take h)
 ·exact .inr h
 ·exact .inl (List.mem_of_mem_drop h)
theorem dV_ {κ:K} {σ:Store} (hI:Inv κ σ) {i:Nat} {x0 x:AObj} (h0:σ.heap i=some x0) (hx:KnO κ x):∀ o y,(σ.set i x).heap o=some y→(∃ b,κ.ρ o=some b)∧KnO κ y:=fun o y e=>by
 by_cases h:o=i
 ·subst h
  rw [Store.set_get] at e
  obtain rfl:=Option.some.inj e
  exact ⟨(aG_ hI o x0 h0).1,hx⟩
 ·rw [Store.set_ne _ _ h] at e
  exact aG_ hI o y e
theorem kb_ {κ:K} {t sz:Nat} {l:List AVal} (h:Kn κ (.own t sz l)):∀ c∈flat l,Kn κ c:=fun c hc=>by
 obtain ⟨u,hu⟩:=h
 cases hu with
 |own _ _ _ _ h0 _ =>
  cases h0 with
  |slNil=>simp [flat] at hc
  |slE=>simp [flat] at hc
  |sl _ _ _ b off cap vals _ _ _ _ hv=>obtain ⟨i,hi,rfl⟩:=List.getElem_of_mem hc;exact ⟨_,hv i hi⟩
theorem pp_ {κ:K} {sz:Nat} {l:List AVal} {t:Bool} (h:Kn κ (.sl sz l t)):∀ c∈flat l,Kn κ c:=fun c hc=>by
 obtain ⟨u,hu⟩:=h
 cases hu with
 |slNil=>simp [flat] at hc
 |slE=>simp [flat] at hc
 |sl _ _ _ b off cap vals _ _ _ _ hv=>obtain ⟨i,hi,rfl⟩:=List.getElem_of_mem hc;exact ⟨_,hv i hi⟩
theorem hw_ {κ:K} {a:AVal} {sz:Nat} {l:List AVal} (h:slOf a=some (sz,l)) (hk:Kn κ a):∀ c∈flat l,Kn κ c:=by
 cases a <;> simp [slOf] at h
 case sl s l' t=>obtain ⟨rfl,rfl⟩:=h;exact pp_ hk
 case own t s l'=>obtain ⟨rfl,rfl⟩:=h;exact kb_ hk
theorem f2_ (κ:K) (s:ByteArray):∀ c∈flat (aj_ s),Kn κ c:=fun c hc=>by
 rw [bd_] at hc
 unfold aj_ at hc
 obtain ⟨b,_,rfl⟩:=List.mem_map.1 hc
 exact gP_ κ _
theorem kM_ {m:Nat} (κ' κ'':K) (v:Value) (i:Nat) (hw:κ''.w=κ'.w) (hρ:κ''.ρ m=κ'.ρ i) (h:Rv κ' (.ref i 0) v):Rv κ'' (.ref m 0) v:=by
 cases h with
 |ref _ _ b hb=>exact .ref m 0 b (hρ.trans hb)
theorem ps_ {m:Nat} (κ' κ'':K) (v:Value) (i:Nat) (hw:κ''.w=κ'.w) (hρ:κ''.ρ m=κ'.ρ i) (h:Rv κ' (.map i) v):Rv κ'' (.map m) v:=by
 cases h with
 |map _ b hb=>exact .map m b (hρ.trans hb)
theorem kh_ {m sz off len:Nat} (κ' κ'':K) (v:Value) (i:Nat) (hw:κ''.w=κ'.w) (hρ:κ''.ρ m=κ'.ρ i) (h:Rv κ' (.msl i sz off len) v):Rv κ'' (.msl m sz off len) v:=by
 cases h with
 |msl _ _ _ _ b cap n e hb hlen hs hn=>exact .msl m sz off len b cap n e (hρ.trans hb) hlen (by rw [hw];exact hs) hn
section
variable {P:Program} {o:Oper} {α:Operand→AVal} {s:NSt} {Kk:AVal→NSt→Prop}
theorem AOp_makeSlice {t e:TypeId} {n by_ m:Nat} {x y:Operand} {z:Value} {k1 k2:IntKind} (ho:o.op=.makeSlice t x y) (hse:ad_ P t=some e) (hte:al_ P e=some (1,by_)) (hz:a4_ P e=some z) (hz1:z.cells=#[z])
  (hx:α x=.lit (.int k1 n)) (hy:α y=.lit (.int k2 n)) (hn:by_ * n≤281474976710656) (hm:s.fr m) (hK:Kk (.msl m 1 0 n) ⟨s.st.set m (.cells (List.replicate n (.lit z))),fun o=>s.fr o∧o≠m⟩):AOp P o α s Kk :=
 AOp.ofO (x:=.cells (List.replicate n (.lit z))) (mk:=fun i=>.msl i 1 0 n) (Ab.AOp_makeSlice ho hse hte hz hz1 hx hy hn fun i hi=>⟨i,hi,rfl,rfl⟩) hm kh_ (fun κ _ _ a ha=>by rw [List.eq_of_mem_replicate ha];exact gP_ κ z) hK
theorem AOp_copyM {x y:Operand} {t e:TypeId} {sz by_ m:Nat} {l2:List AVal} (ho:o.op=.call { callee:=.builtin .append,args:=#[x,y],argTypes:=#[t,t] }) (hse:ad_ P t=some e) (hte:al_ P e=some (sz,by_))
  (hs:α x=.sl sz [] true) (hx:slOf (α y)=some (sz,l2)) (hne:l2≠[]) (hlen:l2.length * by_≤140737488355328) (hm:s.fr m) (hK:Kk (.msl m sz 0 l2.length) ⟨s.st.set m (.cells (flat l2)),fun o=>s.fr o∧o≠m⟩):AOp P o α s Kk :=
 AOp.ofO (x:=.cells (flat l2)) (mk:=fun i=>.msl i sz 0 l2.length) (Ab.AOp_copyM ho hse hte hs hx hne hlen fun i hi=>⟨i,hi,rfl,rfl⟩) hm kh_ (fun κ _ hk c hc=>hw_ hx (hk y (by rw [ho];simp [Op.operands,Call.operands])) c hc) hK
theorem AOp_appendM {x y:Operand} {t e:TypeId} {sz by_ len m:Nat} {l2 base:List AVal} {old:Option Nat} (ho:o.op=.call { callee:=.builtin .append,args:=#[x,y],argTypes:=#[t,t] }) (hse:ad_ P t=some e) (hte:al_ P e=some (sz,by_))
  (hs:(∃ so cs,α x=.msl so sz 0 len∧s.st.heap so=some (.cells cs)∧old=some so∧base=cs.take (len * sz)∧len * sz≤cs.length)∨(α x=.lit (.slice none 0 0)∧len=0∧base=[]∧old=none))
  (hx:slOf (α y)=some (sz,l2)) (hne:l2≠[]) (hone:∀ y∈l2,∀ c∈y.cells,c.one=true) (hlen:(len + l2.length) * by_≤140737488355328) (hm:s.fr m)
  (hK:Kk (.msl m sz 0 (len + l2.length)) ⟨(s.st.delO old).set m (.cells (base ++ flat l2)),fun o=>s.fr o∧o≠m⟩):AOp P o α s Kk :=
 AOp.ofO1 (x:=.cells (base ++ flat l2)) (mk:=fun i=>.msl i sz 0 (len + l2.length)) (Ab.AOp_appendM ho hse hte hs hx hne hone hlen fun i hi=>⟨i,hi,rfl,rfl⟩) (Store.delO_sub _ _) hm kh_ (fun κ hI hk c hc=>by
  rcases List.mem_append.1 hc with hc | hc
  ·rcases hs with ⟨so,cs,_,h2,_,rfl,_⟩ | ⟨_,_,rfl,_⟩
   ·exact (aG_ hI so _ h2).2 c (List.mem_of_mem_take hc)
   ·cases hc
  ·exact hw_ hx (hk y (by rw [ho];simp [Op.operands,Call.operands])) c hc) hK
theorem oM_ {so:Nat} {cs:List AVal} {v:Value} (hh:s.st.heap so=some (.cells cs)) (h:aval P o.op (fun y=>fz so cs (α y)) (s.st.del so)=some (.lit v)) (hK:Kk (.lit v) s):AOp P o α s Kk:=by
 intro κ ev hN hx
 obtain ⟨κ',q1,q2,q3,q4,_⟩:=gJ_ hN.1 hh
 obtain ⟨cv,h1,h2⟩:=cb_ (o:=o) h (Store.Sub.refl _) q3 (fun y hy=>q4 _ _ (hx y hy))
 rw [q1] at h1
 rw [h1]
 exact ⟨κ,.lit v,s,rfl,.refl κ,hN,by rw [h2.litInv];exact .lit v,hK⟩
theorem mU_ {κ:K} {σ:Store} (hI:Inv κ σ) {so off n sz:Nat} {cs:List AVal} (hh:σ.heap so=some (.cells cs)) (hle:off + n * sz≤cs.length) (hml:n≤maxLen):∃ b,κ.ρ so=some b∧Rv κ (.msl so sz off n) (.slice (some ⟨b,off,none⟩) n n):=by
 obtain ⟨b,hb,hbase,hIb,c,el,hheap,hcl,hcv⟩:=hI.heap so _ hh
 exact ⟨b,hb,.msl so sz off n b n c.size el hb (Nat.le_refl _) (by unfold World.shape?;rw [hheap]) ⟨by omega,hml⟩⟩
theorem go_ {t e:TypeId} {x:Operand} {so off n sz:Nat} {g:Bool} {cs:List AVal} (ho:o.op=.slice t x none none none) (ht:P.underlying t=some (.array n e)) (hty:aQ_ P e=some (sz,g)) (hx:α x=.ref so off) (hh:s.st.heap so=some (.cells cs)) (hle:off + n * sz≤cs.length) (hn:0 < n) (hml:n≤maxLen)
  (hK:Kk (.msl so sz off n) s):AOp P o α s Kk:=by
 refine AOp.of0 (v:=.msl so sz off n) (σ1:=s.st) ?_ (fun κ hI _=>⟨.inl (by obtain ⟨b,_,h⟩:=mU_ hI hh hle hml;exact ⟨_,h⟩),aG_ hI,a2_ hI⟩) hK
 obtain ⟨dst,op,ty,pos,after,guard⟩:=o
 obtain rfl:op=_:=ho
 intro κ ev hI hxx
 obtain ⟨ti,d,hti,hd,hsz,_⟩:=aR_ hty
 have hvx:=hxx x (by simp [Op.operands])
 rw [hx] at hvx
 obtain ⟨b,hb,hR⟩:=mU_ hI hh hle hml
 have hev:ev x=.pointer (some ⟨b,off,none⟩):=by
  generalize ev x=u at hvx
  cases hvx with
  |ref _ _ b' hb'=>rw [hb] at hb';obtain rfl:=Option.some.inj hb';rfl
 refine ay_ (s:=Instr.sliceAt t (ev x) none none none) rfl ⟨.slice (some ⟨b,off,none⟩) n n,κ.w,?_,κ,_,s.st,rfl,.refl κ,hI,hR,rfl,rfl⟩
 rw [hev]
 unfold Instr.sliceAt
 simp only [Sem.run_bind,run_underlying ht,Result.andThen_ok]
 have h1:(Instr.sureAddr (.pointer (some ⟨b,off,none⟩))).run P κ.w=.ok ⟨b,off,none⟩ κ.w:=by simp [Instr.sureAddr]
 have h2:=aP_ (P:=P) (κ:=κ) (isS:=false) (len:=n) (cap:=n) (lo:=none) (hi:=none) (α:=α) (f:=ev) (fun y hy=>by rcases hy with h | h <;> cases h) (l:=0) (h:=n) rfl rfl (Nat.zero_le _) (Nat.le_refl _)
 simp only [Option.map_none] at h2
 simp only [h1,h2,Result.andThen_ok,ar_ hti,Sem.run_pure,Sem.run_bind]
 simp [show ¬ n=0 by omega,Addr.add]
theorem hd_ {x y:Operand} {t t2 e:TypeId} {so off len by_:Nat} {cs:List AVal} {b:ByteArray} (ho:o.op=.call { callee:=.builtin .copy,args:=#[x,y],argTypes:=#[t,t2] }) (hse:ad_ P t=some e) (hte:al_ P e=some (1,by_))
  (hx:α x=.msl so 1 off len) (hh:s.st.heap so=some (.cells cs)) (hle:off + len≤cs.length) (hy:α y=.lit (.string b)) (hsz:b.size≤len) (hK:Kk (.lit (.int .i64 (b.size:Int))) ⟨s.st.set so (.cells (aput cs off (aj_ b))),s.fr⟩):AOp P o α s Kk:=by
 have hbl:(aj_ b).length=b.size:=by unfold aj_;rw [List.length_map,Array.length_toList];rfl
 refine AOp.of0 (v:=.lit (.int .i64 (b.size:Int))) (σ1:=s.st.set so (.cells (aput cs off (aj_ b)))) ?_ (fun κ hI _=>⟨.inr (.inl rfl),dV_ hI hh (x:=.cells (aput cs off (aj_ b))) (fun a hm=>(hY_ hm).elim (fun h=>(aG_ hI so _ hh).2 a h) fun h=>by
  unfold aj_ at h
  obtain ⟨c,_,rfl⟩:=List.mem_map.1 h
  exact gP_ κ _),fun t p e=>a2_ hI t p e⟩) hK
 obtain ⟨dst,op,ty,pos,after,guard⟩:=o
 obtain rfl:op=_:=ho
 intro κ ev hI hxx
 obtain ⟨ti,z,hti,hz,hisz,hiby,hzs,hsz',hby⟩:=aB_ hte
 have ht:=bj_ hse
 have hvx:=hxx x (by simp [Op.operands,Call.operands])
 have hvy:=hxx y (by simp [Op.operands,Call.operands])
 rw [hx] at hvx
 rw [hy] at hvy
 obtain ⟨bl,cap,hev,hb⟩:∃ bl cap,ev x=.slice (some ⟨bl,off,none⟩) len cap∧κ.ρ so=some bl:=by
  generalize ev x=u at hvx
  cases hvx with
  |msl _ _ _ _ b cap n el hb hlc hsh hcap=>exact ⟨b,cap,rfl,hb⟩
 obtain ⟨w',h1,h2,h3⟩:=a8_ (P:=P) (b:=bl) (off:=off) (i:=so) (aj_ b) (Lib.strCells b) 0 κ s.st cs hI hh hb (by rw [hbl,Lib.strCells_length]) (fun k hk hk'=>by
  simp only [aj_,Lib.strCells,List.getElem_map];exact .lit _) (fun a ha=>by
  unfold aj_ at ha
  obtain ⟨c,_,rfl⟩:=List.mem_map.1 ha
  rfl) (by rw [hbl];omega)
 refine ay_ (s:=Builtin.copy_ #[t,t2] ty #[ev x,ev y]) (by simp [execOp,resolve,invoke,builtin]) ⟨.int .i64 (b.size:Int),w',?_,{ κ with w:=w' },.lit _,_,rfl,h2,h3,.lit _,rfl,by rw [Nat.add_zero]⟩
 rw [hev,hvy.litInv]
 have hmin:Nat.min b.size len=b.size:=Nat.min_eq_left hsz
 simp only [Builtin.copy_,Sem.run_bind,List.getElem?_toArray,List.getElem?_cons_zero,List.getElem?_cons_succ,Sem.run_pure,Result.andThen_ok,run_underlying ht]
 simp [Builtin.lenOf,hmin,ar_ hti,hisz,Lib.run_firstCells_string,h1,goInt]
theorem iG_ {x:Operand} {t e:TypeId} {so sz off len:Nat} {z:Value} {cs:List AVal} (ho:o.op=.call { callee:=.builtin .clear,args:=#[x],argTypes:=#[t] }) (hse:ad_ P t=some e) (hz:a4_ P e=some z)
  (hzs:z.cells.size=sz) (hzo:∀ j,j < z.cells.size→(AVal.lit z.cells[j]!).one=true) (hx:α x=.msl so sz off len) (hh:s.st.heap so=some (.cells cs)) (hle:off + len * sz=cs.length) (hK:Kk (.tup []) ⟨s.st.set so (.cells (cs.take off)),s.fr⟩):AOp P o α s Kk:=by
 refine AOp.of0 (v:=.tup []) (σ1:=s.st.set so (.cells (cs.take off))) ?_ (fun κ hI _=>⟨.inr (.inl rfl),dV_ hI hh (x:=.cells (cs.take off)) (fun a ha=>(aG_ hI so _ hh).2 a (List.mem_of_mem_take ha)),fun t p e=>a2_ hI t p e⟩) hK
 have h0:Ab.AOp P o α s.st fun a σ'=>a=.tup []∧∃ zs:List AVal,σ'=s.st.set so (.cells (aput cs off zs)):=Ab.AOp_clear ho hse hz hzs hzo hx hh (Nat.le_of_eq hle) fun zs _=>⟨rfl,zs,rfl⟩
 intro κ ev hI hxx
 refine (h0 κ ev hI hxx).mono fun cv w' ⟨κ',a,σ',q1,q2,q3,q4,q5,zs,q6⟩=>?_
 subst q6
 have hw:=Store.wkTake (τ:=s.st.set so (.cells (aput cs off zs))) (o:=so) (n:=off) (Store.set_get ..) κ' q3
 have e1:(aput cs off zs).take off=cs.take off:=by
  unfold aput
  rw [List.append_assoc,List.take_append_of_le_length (by rw [List.length_take];omega),List.take_take,Nat.min_self]
 have e2:(s.st.set so (.cells (aput cs off zs))).set so (.cells ((aput cs off zs).take off))=s.st.set so (.cells (cs.take off)):=by
  rw [e1]
  unfold Store.set
  simp only [Store.mk.injEq,and_true]
  funext i
  by_cases hi:i=so
  ·rw [if_pos hi,if_pos hi]
  ·rw [if_neg hi,if_neg hi,if_neg hi]
 rw [e2] at hw
 exact ⟨κ',a,_,q1,q2,hw,q4,q5,rfl⟩
theorem dQ_ {t e:TypeId} {x hi mo:Operand} {lo:Option Operand} {p:Nat × Bool} (ho:o.op=.slice t x lo (some hi) (some mo)) (hse:ad_ P t=some e) (hty:aQ_ P e=some p) (hx:α x=.lit (.slice none 0 0)) (hl:alow (lo.map α)=some 0) (hh:bI_ (α hi)=some 0) (hm:bI_ (α mo)=some 0) (hK:Kk (.lit (.slice none 0 0)) s):AOp P o α s Kk:=by
 refine AOp.of0 (v:=.lit (.slice none 0 0)) (σ1:=s.st) ?_ (fun κ hI _=>⟨.inr (.inl rfl),aG_ hI,a2_ hI⟩) hK
 obtain ⟨dst,op,ty,pos,after,guard⟩:=o
 obtain rfl:op=_:=ho
 intro κ ev hI hxx
 obtain ⟨ti,d,hti,hd,_,_⟩:=aR_ (s:=p.1) (g:=p.2) hty
 have ht:=bj_ hse
 have hvx:=hxx x (by simp [Op.operands])
 rw [hx] at hvx
 refine ay_ (s:=Instr.sliceAt t (ev x) (lo.map ev) (some (ev hi)) (some (ev mo))) rfl ⟨.slice none 0 0,κ.w,?_,κ,_,s.st,rfl,.refl κ,hI,.lit _,rfl,rfl⟩
 rw [hvx.litInv]
 unfold Instr.sliceAt Instr.slice
 simp only [Sem.run_bind,run_underlying ht,Result.andThen_ok]
 rw [bG_ (κ:=κ) (α:=α) (fun y hy=>hxx y (by simp only [Op.operands];rcases hy with rfl | rfl | rfl <;> simp)) hl hh hm (Nat.le_refl _) (Nat.le_refl _)]
 simp [ar_ hti]
theorem fk_ {t yt:TypeId} {b:BinOp} {x y:Operand} {e:TypeId} {c d:Bool} (ho:o.op=.binOp b t x y yt) (hb:(b=.eql∧d=c)∨(b=.neq∧d=!c)) (hse:ad_ P t=some e) (hy:α y=.lit (.slice none 0 0)) (hx:∀ κ v,Rv κ (α x) v→∃ a n cap,v=.slice a n cap∧a.isNone=c) (hK:Kk (.lit (.bool d)) s):AOp P o α s Kk:=by
 refine AOp.of0 (v:=.lit (.bool d)) (σ1:=s.st) ?_ (fun κ hI _=>⟨.inr (.inl rfl),aG_ hI,a2_ hI⟩) hK
 obtain ⟨dst,op,ty,pos,after,guard⟩:=o
 obtain rfl:op=_:=ho
 intro κ ev hI hxx
 have hvx:=hxx x (by simp [Op.operands])
 have hvy:=hxx y (by simp [Op.operands])
 rw [hy] at hvy
 have hts:P.underlying t=some (.slice e):=by
  unfold ad_ at hse
  split at hse
  ·rename_i e' he';obtain rfl:=Option.some.inj hse;exact he'
  ·cases hse
 obtain ⟨a,n,cap,hev,hc⟩:=hx κ _ hvx
 have hb2:(binOp b t (ev x) (ev y)).run P κ.w=.ok (.bool d) κ.w:=by
  have heq:=run_equal_slice_nil (P:=P) κ.w t e a n cap hts
  rcases hb with ⟨rfl,rfl⟩ | ⟨rfl,rfl⟩
  ·have e1:binOp .eql t (ev x) (ev y)=(do pure (.bool (← Op.equal t (ev x) (ev y)))):=by
    rw [hev,hvy.litInv]
    rfl
   rw [e1,hev,hvy.litInv]
   simp only [Sem.run_bind,heq,Result.andThen_ok,Sem.run_pure]
   try (rw [← hc])
  ·have e1:binOp .neq t (ev x) (ev y)=(do pure (.bool (!(← Op.equal t (ev x) (ev y))))):=by
    rw [hev,hvy.litInv]
    rfl
   rw [e1,hev,hvy.litInv]
   simp only [Sem.run_bind,heq,Result.andThen_ok,Sem.run_pure]
   try (rw [← hc])
 have hg:(eqGuard b t x y (ev x) (ev y)).run P κ.w=.ok () κ.w:=bg_ (by rintro u v ⟨h1,_⟩;rw [hev] at h1;cases h1) (by intro h1;rw [hev] at h1;cases h1)
 refine ay_ (s:=do eqGuard b t x y (ev x) (ev y);binOp b t (ev x) (ev y)) (by simp [execOp]) ⟨.bool d,κ.w,?_,κ,.lit (.bool d),s.st,rfl,.refl κ,hI,.lit _,rfl,rfl⟩
 simp only [Sem.run_bind,hg,Result.andThen_ok,hb2]
theorem AOp_box {t:TypeId} {x:Operand} {m:Nat} (ho:o.op=.box t x) (hs:(α x).solid=true) (hm:s.fr m) (hK:Kk (.ref m 0) ⟨s.st.set m (.cells (α x).cells),fun o=>s.fr o∧o≠m⟩):AOp P o α s Kk :=
 AOp.ofO (x:=.cells (α x).cells) (mk:=fun i=>.ref i 0) (Ab.AOp_box ho hs fun i hi=>⟨i,hi,rfl,rfl⟩) hm kM_ (fun κ _ hk=>ed_ hs (hk x (by rw [ho];simp [Op.operands]))) hK
theorem AOp_alloc {t:TypeId} {z:Value} {m:Nat} (ho:o.op=.alloc t) (hz:a4_ P t=some z) (hm:s.fr m) (hK:Kk (.ref m 0) ⟨s.st.set m (.cells (aO_ z)),fun o=>s.fr o∧o≠m⟩):AOp P o α s Kk :=
 AOp.ofO (x:=.cells (aO_ z)) (mk:=fun i=>.ref i 0) (Ab.AOp_alloc ho hz fun i hi=>⟨i,hi,rfl,rfl⟩) hm kM_ (fun κ _ _=>nY_ κ z) hK
theorem AOp_makeMap {t:TypeId} {m:Nat} (ho:o.op=.makeMap t none) (hm:s.fr m) (hK:Kk (.map m) ⟨s.st.set m (.map []),fun o=>s.fr o∧o≠m⟩):AOp P o α s Kk :=
 AOp.ofO (x:=.map []) (mk:=fun i=>.map i) (Ab.AOp_makeMap ho fun i hi=>⟨i,hi,rfl,rfl⟩) hm ps_ (fun κ _ _ p hp=>by cases hp) hK
theorem AOp_store {t:TypeId} {ad x:Operand} {i off size:Nat} {g:Bool} {cs:List AVal} (ho:o.op=.store t ad x) (ha:α ad=.ref i off) (hh:s.st.heap i=some (.cells cs)) (ht:aQ_ P t=some (size,g))
  (hs:(α x).solid=true) (hones:∀ c∈(α x).cells,c.one=true) (hsz:(α x).cells.length=size) (hle:off + size≤cs.length) (hK:Kk .any ⟨s.st.set i (.cells (aput cs off (α x).cells)),s.fr⟩):AOp P o α s Kk :=
 AOp.of0 (Ab.AOp_store ho ha hh ht hs hones hsz hle ⟨rfl,rfl⟩) (fun κ hI hk=>⟨.inr (.inl rfl),dV_ hI hh (fun a hm=>(hY_ hm).elim (fun h=>(aG_ hI i _ hh).2 a h) (ed_ hs (hk x (by rw [ho];simp [Op.operands])) a)),fun t p e=>a2_ hI t p e⟩) hK
theorem AOp_buildSlice {t e:TypeId} {n sz by_:Nat} {parts:Array (Nat × Operand)} (ho:o.op=.buildSlice t n parts) (hse:ad_ P t=some e) (hte:al_ P e=some (sz,by_)) (hn:parts.toList.length=n) (hr:parts.toList.map (·.1)=List.range' 0 parts.toList.length)
  (hs:∀ p∈parts.toList,(α p.2).solid=true∧(α p.2).cells.length=sz) (hbig:n * sz≤16777216) (hK:Kk (.sl sz (parts.toList.map fun p=>α p.2) true) s):AOp P o α s Kk :=
 AOp.of0 (Ab.AOp_buildSlice ho hse hte hn hr hs hbig ⟨rfl,rfl⟩) (fun κ hI hk=>⟨.inr (.inr ⟨_,_,_,rfl,fun c hc=>by
  unfold flat at hc
  obtain ⟨y,hy,hc⟩:=List.mem_flatMap.1 hc
  obtain ⟨p,hp,rfl⟩:=List.mem_map.1 hy
  exact ed_ (hs p hp).1 (hk p.2 (by rw [ho];simp only [Op.operands,List.mem_toArray];exact List.mem_map_of_mem hp)) c hc⟩),aG_ hI,a2_ hI⟩) hK
theorem AOp_bytesOf {src dst e:TypeId} {x:Operand} {b:ByteArray} (ho:o.op=.convert src dst x) (hs:P.underlying src=some .string) (hd:P.underlying dst=some (.slice e)) (he:P.underlying e=some (.int .u8)) (hx:α x=.lit (.string b)) (hK:Kk (.sl 1 (aj_ b) false) s):AOp P o α s Kk :=
 AOp.of0 (Ab.AOp_bytesOf ho hs hd he hx ⟨rfl,rfl⟩) (fun κ hI _=>⟨.inr (.inr ⟨_,_,_,rfl,f2_ κ b⟩),aG_ hI,a2_ hI⟩) hK
theorem mV_ {κ:K} {sz:Nat} {tx:TypeId} {x:AVal} {l:List AVal} (h:ASrc P sz tx x l) (hk:Kn κ x):∀ c∈flat l,Kn κ c:=by
 rcases h with ⟨_,h | ⟨_,rfl⟩,_⟩ | ⟨_,_,b,_,rfl⟩
 ·exact hw_ h hk
 ·intro c hc;simp [flat] at hc
 ·exact f2_ κ b
theorem dF_ {x y:Operand} {t tx e:TypeId} {sz by_ m:Nat} {l l2:List AVal} {old:Option Nat} (ho:o.op=.call { callee:=.builtin .append,args:=#[x,y],argTypes:=#[t,tx] }) (hse:ad_ P t=some e) (hte:al_ P e=some (sz,by_))
  (hs:(∃ k,α x=.own k sz l∧s.st.tok k=some (e,sz)∧old=some k)∨(α x=.lit (.slice none 0 0)∧l=[]∧old=none)) (hx:ASrc P sz tx (α y) l2) (hlen:(l.length + l2.length) * by_≤140737488355328) (hm:s.fr m)
  (hK:Kk (.own m sz (l ++ l2)) ⟨s.st.newTok old m (e,sz),fun o=>s.fr o∧o≠m⟩):AOp P o α s Kk :=
 AOp.ofT (Ab.AOp_appendS ho hse hte hs hx hlen fun t' ht=>⟨t',ht,rfl,rfl⟩) hm (fun κ hI hk c hc=>by
  have k1:=hk x (by rw [ho];simp [Op.operands,Call.operands])
  have k2:=hk y (by rw [ho];simp [Op.operands,Call.operands])
  rw [bU_] at hc
  rcases List.mem_append.1 hc with hc | hc
  ·rcases hs with ⟨k,h1,_⟩ | ⟨_,rfl,_⟩
   ·rw [h1] at k1;exact kb_ k1 c hc
   ·simp [flat] at hc
  ·exact mV_ hx k2 c hc) hK
theorem AOp_allocP {t:TypeId} {z:Value} {r:List Value} {m:Nat} (ho:o.op=.alloc t) (hz:a4_ P t=some z) (hc:z.cells.toList=.pointer none :: r) (hm:s.fr m) (hK:Kk (.ref m 0) ⟨s.st.set m (.cells (.nilp m t (r.length + 1) :: r.map .lit)),fun o=>s.fr o∧o≠m⟩):AOp P o α s Kk :=
 AOp.ofP (Ab.AOp_allocP ho hz hc fun i hi=>⟨i,hi,rfl,rfl⟩) hm (fun κ _ _ c hc=>by obtain ⟨v,_,rfl⟩:=List.mem_map.1 hc;exact gP_ κ v) hK
theorem AOp_boxP {t:TypeId} {x:Operand} {r:List AVal} {m:Nat} (ho:o.op=.box t x) (hx:α x=.agg (.lit (.pointer none) :: r)) (hm:s.fr m) (hK:Kk (.ref m 0) ⟨s.st.set m (.cells (.nilp m t (r.length + 1) :: r)),fun o=>s.fr o∧o≠m⟩):AOp P o α s Kk :=
 AOp.ofP (Ab.AOp_boxP ho hx fun i hi=>⟨i,hi,rfl,rfl⟩) hm (fun κ _ hk c hc=>ed_ (a:=α x) (by rw [hx];rfl) (hk x (by rw [ho];simp [Op.operands])) c (by rw [hx];exact List.mem_cons_of_mem _ hc)) hK
theorem ih_ {κ:K} {σ:Store} (hI:Inv κ σ):(∀ o x,σ.heap o=some x→(∃ b,κ.ρ o=some b)∧KnO κ x)∧∀ t p,σ.tok t=some p→∃ v,κ.τ t=some v:=⟨aG_ hI,a2_ hI⟩
theorem AOp_toUnsafe {src dst t e:TypeId} {x:Operand} {i n:Nat} {r:List AVal} (ho:o.op=.convert src dst x) (hs:P.underlying src=some (.pointer t)) (hd:P.underlying dst=some .unsafePointer) (ht:((P.info? t).map fun j=>j.size == 0)=some false)
  (hx:α x=.ref i 0) (hh:s.st.heap i=some (.cells (.nilp i e n :: r))) (hn:0 < n) (hK:Kk (.ref i 0) s):AOp P o α s Kk :=
 AOp.of0 (Ab.AOp_toUnsafe ho hs hd ht hx hh hn ⟨rfl,rfl⟩) (fun κ hI hk=>⟨.inl (by rw [← hx];exact hk x (by rw [ho];simp [Op.operands])),ih_ hI⟩) hK
theorem AOp_fromUnsafe {src dst u e:TypeId} {x:Operand} {i n:Nat} {r:List AVal} (ho:o.op=.convert src dst x) (hs:P.underlying src=some .unsafePointer) (hd:P.underlying dst=some (.pointer u)) (hu:(P.info? u).isSome=true)
  (hx:α x=.ref i 0) (hh:s.st.heap i=some (.cells (.nilp i e n :: r))) (hl:liesAt P P.depth e (n / P.cellsOf e) 0 u 1=true) (hK:Kk (.ref i 0) s):AOp P o α s Kk :=
 AOp.of0 (Ab.AOp_fromUnsafe ho hs hd hu hx hh hl ⟨rfl,rfl⟩) (fun κ hI hk=>⟨.inl (by rw [← hx];exact hk x (by rw [ho];simp [Op.operands])),ih_ hI⟩) hK
theorem nX_ {κ:K} {t sz:Nat} {l:List AVal} (h:Kn κ (.own t sz l)):∃ u,κ.τ t=some u:=by
 obtain ⟨u,hu⟩:=h
 cases hu with
 |own _ _ _ _ _ hτ=>exact ⟨_,hτ⟩
theorem AOp_sliceData {x:Operand} {t e:TypeId} {k:Nat} {l:List AVal} {e0:TypeId} (ho:o.op=.call { callee:=.builtin .unsafeSliceData,args:=#[x],argTypes:=#[t] }) (hty:P.underlying o.type=some (.pointer e))
  (hx:(α x=.own k 1 l∧s.st.tok k=some (e0,1))∨(α x=.lit (.slice none 0 0)∧l=[])) (hK:Kk (.sdp k l) s):AOp P o α s Kk :=
 AOp.ofS (Ab.AOp_sliceData ho hty hx ⟨rfl,rfl⟩) (fun κ hI hk=>by
  rcases hx with ⟨hx,_⟩ | ⟨_,rfl⟩
  ·have:=hk x (by rw [ho];simp [Op.operands,Call.operands])
   rw [hx] at this
   exact ⟨.inr (nX_ this),kb_ this⟩
  ·exact ⟨.inl rfl,fun c hc=>by simp [flat] at hc⟩) hK
theorem AOp_unsafeString {x y:Operand} {t t2 e:TypeId} {k:Nat} {b:ByteArray} (ho:o.op=.call { callee:=.builtin .unsafeString,args:=#[x,y],argTypes:=#[t,t2] }) (ht:P.underlying t=some (.pointer e)) (hc:P.cellsOf e=1)
  (hx:α x=.sdp k (aj_ b)) (hy:α y=.lit (.int .i64 (b.size:Int))) (htok:b.size=0∨s.st.tok k=some (e,1)) (h63:b.size≤9223372036854775807) (hK:Kk (.lit (.string b)) ⟨s.st.delTok k,s.fr⟩):AOp P o α s Kk :=
 AOp.of0 (Ab.AOp_unsafeString ho ht hc hx hy htok h63 ⟨rfl,rfl⟩) (fun κ hI hk=>⟨.inr (.inl rfl),fun o x e=>aG_ hI o x e,fun t p h=>a2_ hI t p ((Store.delTok_sub s.st k).tok t p h)⟩) hK
theorem AOp_extern {f:FuncId} {args:Array Operand} {ts:Array TypeId} {e:Array Value→Sem Value} {a:AVal} (ho:o.op=.call { callee:=.value (.func f),args:=args,argTypes:=ts }) (he:bL_ P f=some e)
  (hf:α (.func f)=.lit (.func (.func f) #[] #[])) (h:∀ κ (ev:Operand→Value),Inv κ s.st→(∀ x∈args,Rv κ (α x) (ev x))→∃ cv,(e (args.map ev)).run P κ.w=.ok cv κ.w∧Rv κ a cv)
  (hk:∀ κ,(∀ x∈args,Kn κ (α x))→KnV κ a) (hK:Kk a s):AOp P o α s Kk :=
 AOp.of0 (Ab.AOp_extern ho he hf h ⟨rfl,rfl⟩) (fun κ hI hx=>⟨hk κ fun x hx'=>hx x (by rw [ho];simp [Op.operands,Call.operands,hx']),aG_ hI,a2_ hI⟩) hK
theorem AOp_appendTight {x y:Operand} {t tx e:TypeId} {sz by_:Nat} {l l2:List AVal} (ho:o.op=.call { callee:=.builtin .append,args:=#[x,y],argTypes:=#[t,tx] }) (hse:ad_ P t=some e) (hte:al_ P e=some (sz,by_))
  (hs:α x=.sl sz l true) (hx:ASrc P sz tx (α y) l2) (hlen:(l.length + l2.length) * by_≤140737488355328) (hK:Kk (.sl sz (l ++ l2) false) s):AOp P o α s Kk :=
 AOp.of0 (Ab.AOp_appendTight ho hse hte (.inl hs) hx hlen ⟨rfl,rfl⟩) (fun κ hI hk=>⟨.inr (.inr ⟨_,_,_,rfl,fun c hc=>by
  have k1:=hk x (by rw [ho];simp [Op.operands,Call.operands])
  have k2:=hk y (by rw [ho];simp [Op.operands,Call.operands])
  rw [bU_] at hc
  rcases List.mem_append.1 hc with hc | hc
  ·rw [hs] at k1;exact pp_ k1 c hc
  ·exact mV_ hx k2 c hc⟩),ih_ hI⟩) hK
theorem AOp_bytesOwn {src dst e:TypeId} {x:Operand} {b:ByteArray} {m:Nat} (ho:o.op=.convert src dst x) (hs:P.underlying src=some .string) (hd:P.underlying dst=some (.slice e)) (he:P.underlying e=some (.int .u8)) (hx:α x=.lit (.string b)) (hsz:b.size≤1099511627776) (hm:s.fr m)
  (hK:Kk (.own m 1 (aj_ b)) ⟨s.st.newTok none m (e,1),fun o=>s.fr o∧o≠m⟩):AOp P o α s Kk :=
 AOp.ofT (Ab.AOp_bytesOwn ho hs hd he hx hsz fun t' ht=>⟨t',ht,rfl,rfl⟩) hm (fun κ _ _=>f2_ κ b) hK
theorem AOp_rangeS {t:TypeId} {x:Operand} {b:ByteArray} {m:Nat} (ho:o.op=.range t x) (ht:P.underlying t=some .string) (hx:α x=.lit (.string b)) (hm:s.fr m) (hK:Kk (.ref m 0) ⟨s.st.set m (.raw (.stringIter b 0)),fun o=>s.fr o∧o≠m⟩):AOp P o α s Kk :=
 AOp.ofO (x:=.raw (.stringIter b 0)) (mk:=fun i=>.ref i 0) (Ab.AOp_rangeS ho ht hx fun i hi=>⟨i,hi,rfl,rfl⟩) hm kM_ (fun _ _ _=>trivial) hK
theorem iI_ {x:Operand} {b:ByteArray} {i p:Nat} (ho:o.op=.next x true) (hx:α x=.ref i 0) (hh:s.st.heap i=some (.raw (.stringIter b p))) (hp:p < b.size)
  (hK:Kk (.tup [.lit (.bool true),.lit (.int .i64 p),.lit (.int .i32 (fJ_ b p))]) ⟨s.st.set i (.raw (.stringIter b (p + i5_ b p))),s.fr⟩):AOp P o α s Kk :=
 AOp.of0 (Ab.AOp_nextS ho hx hh (fun _=>⟨rfl,rfl⟩) (fun h=>absurd hp h)) (fun κ hI _=>⟨.inr (.inl rfl),dV_ hI hh (x:=.raw (.stringIter b (p + i5_ b p))) trivial,fun t p e=>a2_ hI t p e⟩) hK
theorem iH_ {x:Operand} {b:ByteArray} {i p:Nat} (ho:o.op=.next x true) (hx:α x=.ref i 0) (hh:s.st.heap i=some (.raw (.stringIter b p))) (hp:¬ p < b.size) (hK:Kk (.tup [.lit (.bool false)]) s):AOp P o α s Kk :=
 AOp.of0 (Ab.AOp_nextS ho hx hh (fun h=>absurd h hp) (fun _=>⟨rfl,rfl⟩)) (fun κ hI _=>⟨.inr (.inl rfl),ih_ hI⟩) hK
theorem gR_ {k:Value} {a:AVal}:∀ {q:List (Value × AVal)} {p:Value × AVal},p∈cR_ k a q→p∈q∨p.2=a
 |[],p,h=>by
  rcases List.mem_cons.1 h with rfl | h
  ·exact .inr rfl
  ·cases h
 |e :: q,p,h=>by
  unfold cR_ at h
  split at h
  ·rcases List.mem_cons.1 h with rfl | h
   ·exact .inr rfl
   ·exact .inl (List.mem_cons_of_mem _ h)
  ·rcases List.mem_cons.1 h with rfl | h
   ·exact .inl (List.mem_cons_self ..)
   ·exact (gR_ h).imp (List.mem_cons_of_mem _) id
theorem gQ_ {k:Value}:∀ {q:List (Value × AVal)} {p:Value × AVal},p∈d2_ k q→p∈q
 |[],p,h=>by cases h
 |e :: q,p,h=>by
  unfold d2_ at h
  split at h
  ·exact List.mem_cons_of_mem _ h
  ·rcases List.mem_cons.1 h with rfl | h
   ·exact List.mem_cons_self ..
   ·exact List.mem_cons_of_mem _ (gQ_ h)
theorem AOp_mapUpdate {t kt et:TypeId} {kd:TypeDesc} {m k x:Operand} {mo:Nat} {kv:Value} {kvs:List (Value × AVal)} (ho:o.op=.mapUpdate t m k x) (ht:P.underlying t=some (.map kt et)) (hkd:P.underlying kt=some kd)
  (hm:α m=.map mo) (hh:s.st.heap mo=some (.map kvs)) (hkv:α k=.lit kv) (hkey:Go.MapKept.IsKey kd kv) (hkeys:∀ x∈kvs,Go.MapKept.IsKey kd x.1) (hK:Kk .any ⟨s.st.set mo (.map (cR_ kv (α x) kvs)),s.fr⟩):AOp P o α s Kk :=
 AOp.of0 (Ab.AOp_mapUpdate ho ht hkd hm hh hkv hkey hkeys rfl ⟨rfl,rfl⟩) (fun κ hI hk=>⟨.inr (.inl rfl),dV_ hI hh (x:=.map (cR_ kv (α x) kvs)) (fun p hp=>(gR_ hp).elim (fun h=>(aG_ hI mo _ hh).2 p h) fun h=>by rw [h];exact hk x (by rw [ho];simp [Op.operands])),fun t p e=>a2_ hI t p e⟩) hK
theorem AOp_delete {t t2 kt et:TypeId} {kd:TypeDesc} {m k:Operand} {mo:Nat} {kv:Value} {kvs:List (Value × AVal)} (ho:o.op=.call { callee:=.builtin .delete,args:=#[m,k],argTypes:=#[t,t2] }) (ht:P.underlying t=some (.map kt et)) (hkd:P.underlying kt=some kd)
  (hm:α m=.map mo) (hh:s.st.heap mo=some (.map kvs)) (hkv:α k=.lit kv) (hkey:Go.MapKept.IsKey kd kv) (hkeys:∀ x∈kvs,Go.MapKept.IsKey kd x.1) (hK:Kk (.tup []) ⟨s.st.set mo (.map (d2_ kv kvs)),s.fr⟩):AOp P o α s Kk :=
 AOp.of0 (Ab.AOp_delete ho ht hkd hm hh hkv hkey hkeys ⟨rfl,rfl⟩) (fun κ hI hk=>⟨.inr (.inl rfl),dV_ hI hh (x:=.map (d2_ kv kvs)) (fun p hp=>(aG_ hI mo _ hh).2 p (gQ_ hp)),fun t p e=>a2_ hI t p e⟩) hK
theorem fl_ {x:Operand} {name:String} {args:Array Operand} {ts:Array TypeId} {t:TypeId} {a r:AVal} {f:FuncId} {ptr:Bool} (ho:o.op=.call { callee:=.invoke x name,args:=args,argTypes:=ts })
  (hx:α x=.iface t a) (hm:jj_ P t name=some (f,ptr)) (hr:iN_ P s.st t ptr a=some r) (hg:isGo P f=true) (h:ACalls P f (r :: args.toList.map α) s Kk):AOp P o α s Kk:=by
 obtain ⟨dst,op,ty,pos,after,guard⟩:=o
 obtain rfl:op=_:=ho
 intro κ ev hI hxx
 have hvx:=hxx x (by simp [Op.operands,Call.operands])
 rw [hx] at hvx
 obtain ⟨v,hev,hva⟩:∃ v,ev x=.iface t v∧Rv κ a v:=by
  generalize ev x=u at hvx
  cases hvx with
  |iface _ _ v h=>exact ⟨v,rfl,h⟩
 obtain ⟨rv,h1,h2⟩:=fI_ hI.1 hm hr hva (P.types.size + Made.depth - 1)
 have hfuel:P.types.size + Made.depth - 1 + 1=P.types.size + Made.depth:=by
  have:0 < Made.depth:=by decide
  omega
 rw [hfuel] at h1
 have he:(execOp ev ⟨dst,.call ⟨.invoke x name,args,ts⟩,ty,pos,after,guard⟩).run P κ.w=.ok (.enter f (#[rv] ++ args.map ev)) κ.w:=by
  have hex:(#[Value.iface t v] ++ args.map ev).extract 1 (#[Value.iface t v] ++ args.map ev).size=args.map ev:=by
   apply Array.ext'
   simp [List.take_of_length_le]
  have h0:(#[Value.iface t v] ++ args.map ev)[0]?=some (Value.iface t v):=by
   rw [Array.getElem?_append_left (by simp)];rfl
  simp only [execOp,resolve,Sem.run_bind,Sem.run_pure,Result.andThen_ok,invoke,hev]
  rw [h0,hex]
  simp only [callMethod,Sem.run_bind,run_program,Result.andThen_ok,h1]
  exact bD_ hg _ _
 rw [he]
 refine (h κ (#[rv] ++ args.map ev) hI (by simp [Nat.add_comm]) fun i hi=>?_).mono fun e w' ⟨cv,q1,q2⟩=>⟨cv,q1,q2⟩
 cases i with
 |zero =>
  have e:(#[rv] ++ args.map ev).getD 0 undef=rv:=by simp [Array.getElem?_append_left]
  rw [e];exact h2
 |succ i =>
  simp only [List.length_cons,List.length_map,Array.length_toList] at hi
  have e:(#[rv] ++ args.map ev).getD (i + 1) undef=ev (args[i]'(by omega)):=by
   simp only [Array.getD_eq_getD_getElem?]
   rw [Array.getElem?_append_right (by simp)]
   simp [show i < args.size by omega]
  rw [e]
  simp only [List.getElem_cons_succ,List.getElem_map,Array.getElem_toList]
  exact hxx _ (by simp [Op.operands,Call.operands])
theorem bY_ {c:Call} {f:Operand} {g:FuncId} {first captured:List AVal} (ho:o.op=.call c) (hc:c.callee=.value f) (hf:α f=.fn (.func g) first captured∨(α f=.lit (.func (.func g) #[] #[])∧first=[]∧captured=[])) (hg:isGo P g=true)
  (h:ACalls P g (first ++ c.args.toList.map α ++ captured) s Kk):AOp P o α s Kk:=by
 obtain ⟨dst,op,ty,pos,after,guard⟩:=o
 obtain rfl:op=.call c:=ho
 intro κ ev hI hx
 obtain ⟨cal,args,argTypes⟩:=c
 obtain rfl:cal=.value f:=hc
 have hfv:Rv κ (α f) (ev f):=hx f (by simp [Op.operands,Call.operands])
 obtain ⟨vs,ws,hev,hn1,h1,hn2,h2⟩:∃ vs ws,ev f=.func (.func g) vs ws∧vs.size=first.length∧(∀ i (hi:i < first.length),Rv κ first[i] (vs.getD i undef))∧ws.size=captured.length∧(∀ i (hi:i < captured.length),Rv κ captured[i] (ws.getD i undef)):=by
  rcases hf with hf | ⟨hf,rfl,rfl⟩
  ·rw [hf] at hfv
   generalize ev f=u at hfv
   cases hfv with
   |fn _ _ _ vs ws hn h hm h'=>exact ⟨vs,ws,rfl,hn,h,hm,h'⟩
  ·rw [hf] at hfv
   exact ⟨#[],#[],hfv.litInv,rfl,fun i hi=>by simp at hi,rfl,fun i hi=>by simp at hi⟩
 have he:(execOp ev ⟨dst,.call ⟨.value f,args,argTypes⟩,ty,pos,after,guard⟩).run P κ.w=.ok (.enter g (vs ++ args.map ev ++ ws)) κ.w:=by
  simp only [execOp,resolve,Sem.run_bind,hev,Deferred.ofValue,Sem.run_pure,Result.andThen_ok,invoke]
  exact bD_ hg _ _
 rw [he]
 have:=h κ (vs ++ args.map ev ++ ws) hI (by simp [hn1,hn2]) (fun i hi=>?_)
 ·exact this.mono fun e w' ⟨cv,h1,h2⟩=>⟨cv,h1,h2⟩
 ·simp only [List.length_append,List.length_map,Array.length_toList] at hi
  by_cases c1:i < first.length
  ·rw [List.getElem_append_left (by simp;omega),List.getElem_append_left (by omega)]
   have e:(vs ++ args.map ev ++ ws).getD i undef=vs.getD i undef:=by
    simp only [Array.getD_eq_getD_getElem?,Array.append_assoc]
    rw [Array.getElem?_append_left (by omega)]
   rw [e];exact h1 i c1
  ·by_cases c2:i < first.length + args.size
   ·rw [List.getElem_append_left (by simp;omega),List.getElem_append_right (by omega)]
    have e:(vs ++ args.map ev ++ ws).getD i undef=ev (args[i - first.length]'(by omega)):=by
     simp only [Array.getD_eq_getD_getElem?,Array.append_assoc]
     rw [Array.getElem?_append_right (by omega),Array.getElem?_append_left (by simp;omega)]
     simp [hn1,show i - first.length < args.size by omega]
    rw [e]
    simp only [List.getElem_map,Array.getElem_toList]
    exact hx _ (by simp [Op.operands,Call.operands])
   ·rw [List.getElem_append_right (by simp;omega)]
    have e:(vs ++ args.map ev ++ ws).getD i undef=ws.getD (i - (first.length + args.size)) undef:=by
     simp only [Array.getD_eq_getD_getElem?]
     rw [Array.getElem?_append_right (by simp;omega)]
     simp [hn1]
    rw [e]
    simp only [List.length_append,List.length_map,Array.length_toList]
    exact h2 _ (by omega)
end
end Go.Nb
end
