/-
  ONE ROUND OF A LOOP OVER A FUNCTION: the assignment and the body,run in the round's own frame (own work,an AI agent).; AN ITERATOR's OWN CODE,which looks at a row and calls yield: the pairs that it yields are read off its run (own work,an AI agent).; A FUNCTION THAT RANGES OVER A FUNCTION: run,with the pairs that the iterator yields (own work,an AI agent).; WAYS OF THEIR OWN: the keys of a map,rising;a function that ranges over pairs (own work,an AI agent).; Runs cut into parts: a part that was run before,from a state that is written out to another one. Own work (an AI agent).
-/
import Derived.Test.YtcdidkliidjoeaaGreatDoorGP
import Derived.RangeFuncIn
import Derived.RangeFuncRecord
import Derived.Test.YtcdidkliidjoeaaGreatDoorGI
import Derived.RangeFuncLeaves
import Derived.Test.YtcdidkliidjoeaaGreatDoorProg

section
set_option linter.all false
set_option maxRecDepth 100000
namespace Go.Nb
open Go.Ab Go.RowKit
theorem Le.reX {κ κ':K} (X:Nat→Obj) (h:κ.Le κ'):K.Le { κ with X:=X } { κ' with X:=X } :=
 ⟨Prod.ext h.base rfl,h.below,h.shape,h.rho,h.tau,h.imm,h.cell,h.drawn,h.old⟩
noncomputable section
section
variable (P:Program) (bs:Nat→Option (List Nat)) (tr:Nat→DT) (lv:Nat→List Nat) (fuel:Nat) (call:Cl)
def run0 (c:Code):Kc:=runC P bs (fun _=>none) ⟨fun _=>false,false,fun _=>false⟩ (fun _=>false) tr lv fuel call c 0
def ht_ (nL nD:Nat) (h:Hp):Bool:=Bool.rec true false (Nat.beq nL nD) && (isMk 0 (look nL h) && (isMk 1 (look nD h) && noMk (hdel nL (hdel nD h))))
def na_ (ac bd:Code) (p q nL nD:Nat) (e:Ev) (a b:AVal) (h:Hp) (t:Tk) (n:Nat) (K:Hp→Tk→Nat→Res):Res :=
 run0 P bs tr lv fuel call ac (dput (some q) b (dput (some p) a e)) h t n fun x e h t n =>
  Ex.rec (motive:=fun _=>Res) (iff 210 (ht_ nL nD h) (run0 P bs tr lv fuel call bd e h t n fun x _ h t n =>
   Ex.rec (motive:=fun _=>Res) (iff 211 (ht_ nL nD h) (K h t n)) (fun _=>.bad 213) (.bad 214) x)) (fun _=>.bad 215) (.bad 216) x
end
section
variable {P:Program} {bs:Nat→Option (List Nat)} {tr:Nat→DT} {lv:Nat→List Nat} {fuel:Nat} {call:Cl} {R:Res} {ntm:Nat}
theorem dO_ (hm:P.follows .mixedOrders=true) (hc:bh_ P call) (hR:R.fine) {c:Code} (ho:okC ntm tr c=true) {e:Ev} {h:Hp} {t:Tk} {n:Nat} {K:Kx} (hr:run0 P bs tr lv fuel call c e h t n K=R):awp P ntm c (PX K R) (env e) (toSt h t n) :=
 cp_ (pu:=fun _=>false) (ne:=⟨fun _=>false,false,fun _=>false⟩) (fun _ hf=>by cases hf) hm hc (fun _ _ _ _ _ _ _ _ _ hf=>by cases hf) (fun _ _ _ _ _ _ hf=>by cases hf) (fun _ _ _ _ _ _ hf=>by cases hf) hR c ho 0 e h t n K hr
theorem ec_ {nL nD:Nat} {h:Hp} (hh:ht_ nL nD h=true):Kept h nL nD:=by
 unfold ht_ at hh
 simp only [Bool.and_eq_true] at hh
 obtain ⟨h1,h2,h3,h4⟩:=hh
 refine ⟨fun e=>?_,jV_ h2,jV_ h3,fun o x n1 n2 hx=>hC_ h4 o x ?_⟩
 ·cases hb:Nat.beq nL nD with
  |true=>rw [hb] at h1;cases h1
  |false=>rw [e,Nat.beq_refl] at hb;cases hb
 ·rw [br_,if_neg n1,br_,if_neg n2];exact hx
def recO (fn:FuncId) (tm:Array Value) (p q:Nat) (ac bd:Code) (D:Nat) (st:LoopState):Obj:=.loop { state:=st,pending:=none,fn:=fn,tmps:=tm,params:=#[p,q],assign:=ac,body:=bd,defers:=D }
def defO:Obj:=.deferred (some [])
theorem ip_ (fn:FuncId) (tm:Array Value) (p q:Nat) (ac bd:Code) (D:Nat) (st:LoopState):b2_ (recO fn tm p q ac bd D st):=⟨fun _ _ _ h=>(by cases h),fun _=>rfl⟩
theorem bA_:b2_ defO:=⟨fun _ _ _ h=>(by cases h),fun _=>rfl⟩
theorem ml_ (hm:P.follows .mixedOrders=true) (hc:bh_ P call) (hR:R.fine) {ac bd:Code} {p q nL nD l D:Nat} (hoa:okC ntm tr ac=true) (hob:okC ntm tr bd=true) (hp:p < ntm) (hq:q < ntm)
  {e:Ev} {s0:NSt} {κ0:K} {act:Act} (hs0:ASatG NI [] κ0 ntm (env e) s0 act) (hL:κ0.ρ nL=some l) {fn:FuncId} {a b:AVal} {h:Hp} {t:Tk} {n:Nat} {K:Hp→Tk→Nat→Res}
  (hr:na_ P bs tr lv fuel call ac bd p q nL nD e a b h t n K=R) (hk:Kept h nL nD) {κ:Go.Ab.K} (hle:κ0.Le κ) (hN:NInv κ (exS (toSt h t n) nL nD (recO fn act.tmps p q ac bd D .ready) defO)) {va vb:Value} (hva:Rv κ a va) (hvb:Rv κ b vb) :
  ∃ f tmps ac' bd',(Instr.yield l #[va,vb]).run P κ.w=.ok (.round l f tmps ac' bd') κ.w∧RoundIn (Fr none) 0 P l f tmps ac' bd' κ.w fun ee W=>ee=.returned (.bool true) ∧
   ∃ κ' h' t' n',κ'.w=W∧κ.Le κ'∧NInv κ' (exS (toSt h' t' n') nL nD (recO fn act.tmps p q ac bd D .ready) defO)∧Kept h' nL nD∧K h' t' n'=R:=by
 have pr:∀ st,b2_ (recO fn act.tmps p q ac bd D st):=fun st=>ip_ fn act.tmps p q ac bd D st
 obtain ⟨a0,b0,ha0,hb0,hla,hdb⟩:=sm_ hk.ne (pr .ready) bA_ hN
 have hl0:κ.ρ nL=some l:=hle.rho _ _ hL
 obtain rfl:l=a0:=Option.some.inj (hl0.symm.trans ha0)
 have hy:(Instr.yield l #[va,vb]).run P κ.w=.ok (.round l fn ((act.tmps.setIfInBounds p va).setIfInBounds q vb) ac bd) κ.w:=by
  have e:=run_yield (P:=P) (args:=#[va,vb]) hla rfl
  rw [e]
  simp
 refine ⟨fn,(act.tmps.setIfInBounds p va).setIfInBounds q vb,ac,bd,hy,roundIn_of_wpIn trivial ?_⟩
 have hN1:=kf_ hk (pr .ready) bA_ hN
 have hsat:ASatG NI [] { κ with X:=two (recO fn act.tmps p q ac bd D .ready) defO } ntm (env (dput (some q) b (dput (some p) a e))) (toSt h t n) { tmps:=(act.tmps.setIfInBounds p va).setIfInBounds q vb,defers:=[] }:=by
  rw [aI_,aI_]
  have h1:ASatG NI [] { κ with X:=two (recO fn act.tmps p q ac bd D .ready) defO } ntm (env e) (toSt h t n) { tmps:=act.tmps,defers:=[] }:=⟨rfl,hs0.size,fun k=>Rv.reX ((hs0.env k).mono hle),hN1⟩
  have h2:=h1.put (.refl _) hN1 (dst:=some p) (fun d hd=>by obtain rfl:=Option.some.inj hd;exact hp) (Rv.reX hva)
  exact h2.put (.refl _) hN1 (dst:=some q) (fun d hd=>by obtain rfl:=Option.some.inj hd;exact hq) (Rv.reX hvb)
 have h2:=dO_ hm hc hR hoa hr (some l) [] _ _ hsat
 refine wpIn_mono h2 ?_
 rintro ex a1 w1 ⟨κ2,e2,s2,rfl,hle2,hs2,⟨x',e3,h3,t3,n3,rfl,rfl,rfl,hx⟩⟩
 cases x' with
 |exit i=>subst hx;exact hR.elim
 |ret=>subst hx;exact hR.elim
 |nor =>
  obtain ⟨hkb,hx⟩:=af_ hR hx
  have hk3:=ec_ hkb
  have hN2:=hy_ κ.X hk3 (pr .ready) bA_ (by rw [hle2.X]) hs2.inv
  obtain ⟨l',hl',hh',hle3,hN3⟩:=nC_ hk3.ne (pr .ready) (pr .busy) hN2
  have hl2:κ2.ρ nL=some l:=hle2.rho nL l ha0
  obtain rfl:l=l':=Option.some.inj (hl2.symm.trans hl')
  refine ⟨_,run_beginRound hh' rfl,?_⟩
  have hN4:=kf_ hk3 (pr .busy) bA_ hN3
  have hLe2:κ.Le { κ2 with X:=κ.X }:=Le.reX (κ:={ κ with X:=two (recO fn act.tmps p q ac bd D .ready) defO }) κ.X hle2
  have hsat4:ASatG NI [] { κ2 with X:=two (recO fn act.tmps p q ac bd D .busy) defO,w:=κ2.w.putObj l (recO fn act.tmps p q ac bd D .busy) } ntm (env e3) (toSt h3 t3 n3) a1 :=
   ⟨hs2.defers,hs2.size,fun k=>Rv.reX (Rv.mono hle3 (Rv.reX (X:=κ.X) (hs2.env k))),hN4⟩
  have h5:=dO_ hm hc hR hob hx (some l) [] _ _ hsat4
  refine wpIn_mono h5 ?_
  rintro ex a4 w4 ⟨κ5,e5,s5,rfl,hle5,hs5,⟨x',e6,h6,t6,n6,rfl,rfl,rfl,hx6⟩⟩
  cases x' with
  |exit i=>subst hx6;exact hR.elim
  |ret=>subst hx6;exact hR.elim
  |nor =>
   obtain ⟨hkb6,hx6⟩:=af_ hR hx6
   have hk6:=ec_ hkb6
   have hN6:=hy_ κ.X hk6 (pr .busy) bA_ (by rw [hle5.X]) hs5.inv
   obtain ⟨l',hl',hh6,hle7,hN7⟩:=nC_ hk6.ne (pr .busy) (pr .ready) hN6
   have hl5:κ5.ρ nL=some l:=hle5.rho nL l hl2
   obtain rfl:l=l':=Option.some.inj (hl5.symm.trans hl')
   have hLe5:Go.Ab.K.Le { κ2 with X:=κ.X,w:=κ2.w.putObj l (recO fn act.tmps p q ac bd D .busy) } { κ5 with X:=κ.X }:=Le.reX (κ:={ κ2 with X:=two (recO fn act.tmps p q ac bd D .busy) defO,w:=κ2.w.putObj l (recO fn act.tmps p q ac bd D .busy) }) κ.X hle5
   exact ⟨_,_,run_endRound none hh6,rfl,_,h6,t6,n6,rfl,(hLe2.trans hle3).trans (hLe5.trans hle7),hN7,hk6,hx6⟩
end
end
end Go.Nb
end

section
set_option linter.all false
set_option maxRecDepth 100000
namespace Go.Nb
open Go.Ab Go.RowKit
abbrev Tr:=List (Nat × AVal × AVal)
abbrev QK:=Ex→Ev→Option Tr
noncomputable section
section
variable (P:Program) (σb:Store)
def qYld (c:Call) (e:Ev) (K:Option Tr) (g:Option Tr):Option Tr:=match c.callee,c.args.toList with
 |.value x,[p,q]=>match ev x e with
  |.lit (.func (.yield l) fs cs)=>Bool.rec g (K.map fun s=>(l,ev p e,ev q e) :: s) (fs.toList.isEmpty && cs.toList.isEmpty)
  |_=>g
 |_,_=>g
def qOpr (op:Op) (e:Ev) (K:AVal→Option Tr):Option Tr:=match aval P op (aev (env e)) σb with
 |some a=>K a
 |none=>match op with
  |.call c=>qYld c e (K (.lit (.bool true))) none
  |_=>none
def qOps (ops:Array Oper):List Oper→Ev→(Ev→Option Tr)→Option Tr
 |[],e,K=>K e
 |o :: r,e,K=>match aC_ ops o (env e) with
  |some true=>qOpr P σb o.op e fun a=>qOps ops r (dput o.dst a e) K
  |some false=>qOps ops r (dput o.dst (.lit undef) e) K
  |none=>none
def oh_ (body:Ev→QK→Option Tr) (fuel:Nat):Ev→QK→Option Tr:=Nat.rec (motive:=fun _=>Ev→QK→Option Tr) (fun _ _=>none) (fun _ ih e K=>body e fun x e=>match x with
 |.nor=>ih e K
 |.exit i=>K (.exit i) e
 |.ret=>K .ret e) fuel
def qC (fuel:Nat) (c:Code):Ev→QK→Option Tr:=Code.rec (motive:=fun _=>Ev→QK→Option Tr)
 (fun e K=>K .nor e)
 (fun _ ops draw e K=>Bool.rec (qOps P σb ops ops.toList e fun e=>K .nor e) none draw)
 (fun _ _ ia ib e K=>ia e fun x e=>match x with
  |.nor=>ib e K
  |.exit i=>K (.exit i) e
  |.ret=>K .ret e)
 (fun c _ _ ia ib e K=>match ev c e with
  |.lit (.bool true)=>ia e K
  |.lit (.bool false)=>ib e K
  |_=>none)
 (fun id _ ih e K=>ih e fun x e=>match x with
  |.nor=>K .nor e
  |.exit i=>Bool.rec (K (.exit i) e) (K .nor e) (Nat.beq i id)
  |.ret=>K .ret e)
 (fun _ ih=>oh_ ih fuel)
 (fun _ _ _ _ _ _ _ _=>none)
 (fun id e K=>K (.exit id) e)
 (fun _ _ _ _=>none)
 (fun _ e K=>K .nor e)
 (fun _ _ _=>none)
 (fun e K=>K .ret e)
 (fun _ _ _=>none) c
def PQ (K:QK):Exit→Env→Tr→Prop:=fun ex e s=>∃ x' e',ex=aex x'∧e=env e'∧K x' e'=some s
end
section
variable {P:Program} {σb:Store} {J:Tr→Go.Ab.K→Prop} {ntm:Nat}
structure QOk (P:Program) (σb:Store) (J:Tr→Go.Ab.K→Prop):Prop where
 inv:∀ s κ,J s κ→Inv κ σb
 round:∀ l a b s κ va vb,J ((l,a,b) :: s) κ→Rv κ a va→Rv κ b vb→∃ f tmps ac bd,(Instr.yield l #[va,vb]).run P κ.w=.ok (.round l f tmps ac bd) κ.w∧RoundIn (Fr none) 0 P l f tmps ac bd κ.w fun ee W=>ee=.returned (.bool true)∧∃ κ',κ'.w=W∧κ.Le κ'∧J s κ'
theorem lm_ {o:Oper} {c:Call} {x p q:Operand} {evv:Operand→Value} {l:Nat} {w:World} (ho:o.op=.call c) (hc:c.callee=.value x) (ha:c.args.toList=[p,q]) (hx:evv x=.func (.yield l) #[] #[]):(execOp evv o).run P w=(Instr.yield l #[evv p,evv q]).run P w:=by
 obtain ⟨dst,op,ty,pos,after,guard⟩:=o
 obtain ⟨callee,args,argTypes⟩:=c
 simp only at ho hc ha
 subst ho;subst hc
 obtain rfl:args=#[p,q]:=by cases args;simp only at ha;rw [ha]
 simp [execOp,resolve,hx,invoke,go_sem]
theorem gV_ {o:Oper} {evv:Operand→Value} {w w':World} {n:Next} (h:(execOp evv o).run P w=.ok n w') (hn:∀ d,n≠.defer d):∀ c,o.op≠.defer c:=by
 intro c hc
 obtain ⟨dst,op,ty,pos,after,guard⟩:=o
 subst hc
 have e1:execOp evv { dst:=dst,op:=.defer c,type:=ty,pos:=pos,after:=after,guard:=guard }=(do let d ← resolve evv c ty;pure (Next.defer d)):=rfl
 rw [e1] at h
 simp only [Sem.run_bind] at h
 cases hr:(resolve evv c ty).run P w with
 |ok d w=>rw [hr] at h;simp at h;exact hn d h.1.symm
 |halt x w=>rw [hr] at h;simp at h
theorem f6_ (hJ:QOk P σb J) {r:Option Nat} {dd:List Deferred} {ops:Array Oper} {κ0:Go.Ab.K} {Q:Exit→Act→World→Prop} {K:Ev→Option Tr} (hQ:∀ κ e s a,κ0.Le κ→ASatG J dd κ ntm (env e) s a→K e=some s→Q .normal a κ.w) :
  ∀ (l:List Oper),(∀ o∈l,cQ_ ntm ops o=true)→∀ (κ:Go.Ab.K) e s a,κ0.Le κ→ASatG J dd κ ntm (env e) s a→qOps P σb ops l e K=some s→wpListIn (Fr r) 0 P ops Q l a κ.w
 |[],_,κ,e,s,a,hle,hs,h=>hQ κ e s a hle hs h
 |o :: l,hd,κ,e,s,a,hle,hs,h=>by
  have hdo:=hd o (List.mem_cons_self ..)
  have hl:=fun o ho=>hd o (List.mem_cons_of_mem _ ho)
  unfold qOps at h
  unfold wpListIn
  cases hw:aC_ ops o (env e) with
  |none=>rw [hw] at h;cases h
  |some b =>
   rw [hw] at h
   cases b with
   |false =>
    rw [if_neg (by rw [aH_ hs hw (aW_ hdo)];simp)]
    refine ⟨fun _ _=>trivial,f6_ hJ hQ l hl κ _ s _ hle ?_ h⟩
    rw [aI_]
    exact hs.put (.refl κ) hs.inv (bc_ hdo) (.lit _)
   |true =>
    rw [if_pos (aH_ hs hw (aW_ hdo))]
    have h':qOpr P σb o.op e (fun a=>qOps P σb ops l (dput o.dst a e) K)=some s:=h
    refine ⟨fun _ _=>trivial,?_⟩
    show o.uponIn (Fr r) 0 P a (wpListIn (Fr r) 0 P ops Q l) Q ((Oper.semAt r a.eval o).run P κ.w)
    unfold qOpr at h'
    split at h'
    ·rename_i v hv
     obtain ⟨cv,h1,h2⟩:=cb_ (o:=o) hv (.refl _) (hJ.inv s κ hs.inv) (fun x _=>hs.ev x)
     rw [Oper.semAt_eq r a.eval o (gV_ h1 fun d hh=>by cases hh),h1]
     refine f6_ hJ hQ l hl κ _ s _ hle ?_ h'
     rw [aI_]
     exact hs.put (.refl κ) hs.inv (bc_ hdo) h2
    ·split at h'
     ·rename_i c hop
      unfold qYld at h'
      split at h'
      ·rename_i x p q hcl har
       split at h'
       ·rename_i y fs cs hev
        cases hb:(fs.toList.isEmpty && cs.toList.isEmpty) with
        |false=>rw [hb] at h';cases h'
        |true =>
         rw [hb] at h'
         rw [Bool.and_eq_true] at hb
         have e1:fs=#[]:=by cases fs;simpa using hb.1
         have e2:cs=#[]:=by cases cs;simpa using hb.2
         subst e1;subst e2
         obtain ⟨s',hs',rfl⟩:=Option.map_eq_some_iff.1 h'
         have hx:a.eval x=.func (.yield y) #[] #[]:=by
          have:=hs.ev x
          rw [← ax_,hev] at this
          exact this.litInv
         have hp:=hs.ev p
         have hq:=hs.ev q
         rw [← ax_] at hp hq
         obtain ⟨f,tmps,ac,bd,hy,hrd⟩:=hJ.round y _ _ s' κ _ _ hs.inv hp hq
         have hrun:(execOp a.eval o).run P κ.w=.ok (.round y f tmps ac bd) κ.w:=by rw [lm_ hop hcl har hx];exact hy
         rw [Oper.semAt_eq r a.eval o (gV_ hrun fun d hh=>by cases hh),hrun]
         refine ⟨fun hh=>(by cases hh),?_⟩
         refine RoundIn.mono (show RoundIn (Fr r) 0 P y f tmps ac bd κ.w _ from hrd) ?_
         rintro ee W ⟨rfl,κ',rfl,hle',hJ'⟩
         refine f6_ hJ hQ l hl κ' _ s' _ (hle.trans hle') ?_ hs'
         rw [aI_]
         exact hs.put hle' hJ' (bc_ hdo) (.lit _)
       ·cases h'
      ·cases h'
     ·cases h'
theorem mg_ {c:Code} {body:Ev→QK→Option Tr} (hb:∀ e s K,body e K=some s→awpG J P ntm c (PQ K) (env e) s) {fuel:Nat} {e:Ev} {s:Tr} {K:QK} (hr:oh_ body fuel e K=some s):awpG J P ntm (.loop c) (PQ K) (env e) s:=by
 refine d6_ (fun m e s=>∃ e',e=env e'∧oh_ body m e' K=some s) (m:=fuel) ⟨e,rfl,hr⟩ ?_
 rintro m e s ⟨e',rfl,hl⟩
 cases m with
 |zero=>cases hl
 |succ m =>
  refine awp.mono (hb _ _ _ (show body e' _=some s from hl)) ?_
  rintro x e2 s2 ⟨x',e3,rfl,rfl,hx⟩
  cases x' with
  |nor=>exact ⟨m,Nat.lt_succ_self m,e3,rfl,hx⟩
  |exit b=>exact ⟨.exit b,e3,rfl,rfl,hx⟩
  |ret=>exact ⟨.ret,e3,rfl,rfl,hx⟩
theorem hE_ (hJ:QOk P σb J) {fuel:Nat} {tr:Nat→DT}:∀ (c:Code),okC ntm tr c=true→∀ (e:Ev) (s:Tr) (K:QK),qC P σb fuel c e K=some s→awpG J P ntm c (PQ K) (env e) s
 |.skip,_,e,s,K,hr=>ag_ ⟨.nor,e,rfl,rfl,hr⟩
 |.region id ops false,ho,e,s,K,hr=>by
  intro r dd κ a hs
  refine wpIn_region_list ?_
  have ho':ops.toList.all (cQ_ ntm ops)=true:=ho
  exact f6_ (κ0:=κ) hJ (fun κ' e' s' a' hle hs' hk=>⟨κ',env e',s',rfl,hle,hs',.nor,e',rfl,rfl,hk⟩) ops.toList (fun o ho=>List.all_eq_true.1 ho' o ho) κ e s a (.refl κ) hs hr
 |.region id ops true,_,e,s,K,hr=>by cases hr
 |.seq x y,ho,e,s,K,hr=>by
  simp only [okC,Bool.and_eq_true] at ho
  refine ac_ (awp.mono (hE_ hJ x ho.1 e s _ hr) ?_)
  rintro ex e2 s2 ⟨x',e3,rfl,rfl,hx⟩
  cases x' with
  |nor=>exact hE_ hJ y ho.2 _ _ _ hx
  |exit i=>exact ⟨.exit i,e3,rfl,rfl,hx⟩
  |ret=>exact ⟨.ret,e3,rfl,rfl,hx⟩
 |.cond c x y,ho,e,s,K,hr=>by
  simp only [okC,Bool.and_eq_true] at ho
  have hr':(match ev c e with
   |.lit (.bool true)=>qC P σb fuel x e K
   |.lit (.bool false)=>qC P σb fuel y e K
   |_=>none)=some s:=hr
  split at hr'
  ·rename_i hv
   rw [ax_] at hv
   exact df_ hv (fun _=>hE_ hJ x ho.1 _ _ _ hr') (fun h=>by cases h)
  ·rename_i hv
   rw [ax_] at hv
   exact df_ hv (fun h=>by cases h) (fun _=>hE_ hJ y ho.2 _ _ _ hr')
  ·cases hr'
 |.block id c,ho,e,s,K,hr=>by
  refine ah_ (awp.mono (hE_ hJ c ho e s _ hr) ?_)
  rintro ex e2 s2 ⟨x',e3,rfl,rfl,hx⟩
  cases x' with
  |nor=>exact ⟨.nor,e3,rfl,rfl,hx⟩
  |exit i =>
   have hx':(Bool.rec (K (.exit i) e3) (K .nor e3) (Nat.beq i id):Option Tr)=some s2:=hx
   show if i=id then PQ K .normal _ _ else PQ K (.exit i) _ _
   cases hb:Nat.beq i id with
   |true=>rw [hb] at hx';rw [if_pos (ao_ hb)];exact ⟨.nor,e3,rfl,rfl,hx'⟩
   |false=>rw [hb] at hx';rw [if_neg (dg_ hb)];exact ⟨.exit i,e3,rfl,rfl,hx'⟩
  |ret=>exact ⟨.ret,e3,rfl,rfl,hx⟩
 |.loop c,ho,e,s,K,hr=>mg_ (fun e s K hr=>hE_ hJ c ho e s K hr) hr
 |.rangeFunc _ _ _ _,_,e,s,K,hr=>by cases hr
 |.exit id,_,e,s,K,hr=>aM_ ⟨.exit id,e,rfl,rfl,hr⟩
 |.scope c,_,e,s,K,hr=>by cases hr
 |.label l,_,e,s,K,hr=>fun r dd κ a hs=>wpIn_label ⟨κ,env e,s,rfl,.refl κ,hs,.nor,e,rfl,rfl,hr⟩
 |.goto _,_,e,s,K,hr=>by cases hr
 |.ret,_,e,s,K,hr=>aq_ ⟨.ret,e,rfl,rfl,hr⟩
 |.refuse _,_,e,s,K,hr=>by cases hr
end
end
end Go.Nb
end

section
set_option linter.all false
set_option maxRecDepth 100000
namespace Go.Nb
open Go.Ab Go.RowKit
theorem jN_ {κ:K} {σ:Store} (hI:Inv κ σ) {so:Nat} {a:AVal} (hh:σ.heap so=some (.cells [a])) (ha:a.cells=[a]) :
  ∃ κ',κ'.w=κ.w∧κ.Le κ'∧Inv κ' (σ.del so)∧κ'.ρ=κ.ρ∧κ'.τ=κ.τ∧∀ v,Rv κ (.ref so 0) v→Rv κ' (.ro a) v:=by
 obtain ⟨b,hb,hbase,hIb,c,el',hheap,hcl,hcv⟩:=hI.heap so _ hh
 have hle:κ.Le { κ with I:=fun k=>if k=b then 1 else κ.I k } :=
  ⟨rfl,Below.refl _ _,fun _ _ h=>h,fun _ _ h=>h,fun _ _ h=>h,fun k=>by
   show _≤(if k=b then _ else _)
   split
   ·rename_i hk;rw [hk,hIb];exact Nat.zero_le _
   ·exact Nat.le_refl _,fun _ _ _ _ h=>h,Nat.le_refl _,fun k hk=>if_neg (by omega)⟩
 refine ⟨{ κ with I:=fun k=>if k=b then 1 else κ.I k },rfl,hle,?_,rfl,rfl,?_⟩
 ·have hne:∀ i x,(σ.del so).heap i=some x→i≠so∧σ.heap i=some x:=fun i x hx=>by
   by_cases hi:i=so
   ·rw [hi,Store.del_get] at hx;cases hx
   ·rw [Store.del_ne _ hi] at hx;exact ⟨hi,hx⟩
  refine ⟨hI.glob,hI.base,fun i x hx=>?_,fun i i' x x' k hx hx'=>hI.inj i i' x x' k (hne _ _ hx).2 (hne _ _ hx').2,fun t q ht=>?_,fun t t' q q' u u' k=>hI.tokinj t t' q q' u u' k,fun t q u k i x ht hu hk hx=>hI.tokobj t q u k i x ht hu hk (hne _ _ hx).2,hI.frO,hI.frT,fun k hk=>?_⟩
  ·obtain ⟨hi,hx'⟩:=hne _ _ hx
   obtain ⟨k,hk,hkb,hkI,hR⟩:=hI.heap i x hx'
   have hkne:k≠b:=fun hh'=>hi (hI.inj i so x _ b hx' hh (by rw [hk,hh']) hb)
   exact ⟨k,hk,hkb,by show (if k=b then _ else _)=_;rw [if_neg hkne];exact hkI,hR.mono hle rfl⟩
  ·obtain ⟨u,hu,hok⟩:=hI.tok t q ht
   refine ⟨u,hu,hok.mono hle fun k hk=>⟨rfl,?_⟩⟩
   show (if k=b then _ else _)=_
   rw [if_neg (fun hh'=>hI.tokobj t q u k so _ ht hu hk hh (by rw [hb,hh']))]
  ·show (if k=b then _ else _)=_
   have:b < κ.w.heap.size:=(Array.getElem?_eq_some_iff.1 hheap).1
   have hk':κ.w.heap.size≤k:=hk
   rw [if_neg (by omega)]
   exact hI.frI k hk
 ·intro v hv
  obtain ⟨b',hb',rfl⟩:=hv.refInv
  obtain rfl:b=b':=Option.some.inj (hb.symm.trans hb')
  have hc1:0 < c.size:=by simp only [List.length_singleton] at hcl;omega
  refine .ro a b 0 (fun _=>c.getD 0 undef) (fun k hk=>?_) fun k hk=>?_
  ·rw [ha] at hk
   obtain rfl:k=0:=by simpa using hk
   refine ⟨by show 0 + 0 < (if b=b then 1 else _);rw [if_pos rfl];omega,?_⟩
   show κ.w.cell? ⟨b,0 + 0,none⟩=_
   simp only [World.cell?,hheap]
   simp [hc1]
  ·have hk0:k=0:=by rw [ha] at hk;simpa using hk
   subst hk0
   have h0:=hcv 0 (by simp)
   simp only [ha,List.getElem_cons_zero] at h0 ⊢
   exact h0.mono hle
structure TP where
 r0:Code
 r1:Code
 r2:Code
 b0:Nat
 x:Operand
 p:Nat
 q:Nat
 ac:Code
 bd:Code
 tl:Code
def TP.code (q:TP):Code:=.seq q.r0 (.seq q.r1 (.seq (.seq q.r2 (.block q.b0 (.rangeFunc q.x #[q.p,q.q] q.ac q.bd))) q.tl))
noncomputable section
section
variable (P:Program) (bs:Nat→Option (List Nat)) (tr:Nat→DT) (lv:Nat→List Nat) (fuel gf:Nat) (rowV:AVal) (q:TP)
def norK (c:Nat) (x:Ex) (r:Res):Res:=Ex.rec (motive:=fun _=>Res) r (fun _=>.bad c) (.bad c) x
def okT (n:Nat) (tr:Nat→DT) (q:TP):Bool:=okC n tr q.r0 && (okC n tr q.r1 && (okC n tr q.r2 && (okC n tr q.ac && (okC n tr q.bd && (okC n tr q.tl && (Nat.ble (q.p + 1) n && Nat.ble (q.q + 1) n))))))
def hI_ (call:Cl) (nL nD:Nat) (e:Ev) (l:List (AVal × AVal)) (h:Hp) (t:Tk) (n:Nat) (K:Hp→Tk→Nat→Res):Res :=
 List.rec (motive:=fun _=>Hp→Tk→Nat→Res) K (fun ab _ ih h t n=>na_ P bs tr lv fuel call q.ac q.bd q.p q.q nL nD e ab.1 ab.2 h t n ih) l h t n
def endT (nL nD:Nat) (rs:List ResultVar):Kx:=fun x e h t n=>iff 226 (ht_ nL nD h) (finK P rs x e (hdel nL (hdel nD h)) t n)
def oz_ (prs:List (AVal × AVal)) (_body call:Cl):Cl:=fun f args h t n =>
 opt 220 (P.funcs[f]?) fun fn=>iff 221 (Nat.ble args.length fn.ntmps && okT fn.ntmps tr q)
  (run0 P bs tr lv fuel call q.r0 (eC_ args 0) h t n fun x e h t n=>norK 222 x (run0 P bs tr lv fuel call q.r1 e h t n fun x e h t n=>norK 222 x (run0 P bs tr lv fuel call q.r2 e h t n fun x e h t n=>norK 222 x (match ev q.x e with
   |.fn (.func g) [] [.ref nb 0]=>(match look nb h with
    |some (.cells [v])=>iff 223 (Nat.beq g gf && aeqb v rowV && ht_ n (n + 1) (put (n + 1) (mk 1) (put n (mk 0) (hdel nb h)))) (hI_ P bs tr lv fuel q call n (n + 1) e prs (put (n + 1) (mk 1) (put n (mk 0) (hdel nb h))) t (n + 2) fun h t m =>
      run0 P bs tr lv fuel call q.tl e h t m (endT P n (n + 1) fn.results.toList))
    |_=>.bad 224)
   |_=>.bad 225))))
end
def endQ:QK:=fun x _=>match x with
 |.exit _=>none
 |_=>some []
section
variable {P:Program} {bs:Nat→Option (List Nat)} {tr:Nat→DT} {lv:Nat→List Nat} {fuel gf:Nat} {rowV:AVal} {q:TP} {R:Res}
theorem eQ_ (hR:R.fine) {c:Nat} {x:Ex} {r:Res} (h:norK c x r=R):x=.nor∧r=R:=by
 cases x with
 |nor=>exact ⟨rfl,h⟩
 |exit i=>subst h;exact hR.elim
 |ret=>subst h;exact hR.elim
theorem h0_ {κ:Go.Ab.K} {args:List AVal} {vs:Array Value} {n:Nat} (hsz:vs.size=args.length) (hv:∀ i (hi:i < args.length),Rv κ args[i] (vs.getD i undef)) (k:Nat):Rv κ (dL_ 0 args k) ((vs ++ Array.replicate (n - vs.size) undef).getD k undef):=by
 rw [di_]
 simp only [Nat.zero_le,if_true,Nat.sub_zero]
 by_cases hk:k < args.length
 ·have e1:args[k]?.getD .any=args[k]:=by simp [hk]
  rw [e1]
  have e2:(vs ++ Array.replicate (n - vs.size) undef).getD k undef=vs.getD k undef:=by
   simp [Array.getElem?_append_left (show k < vs.size by omega)]
  rw [e2]
  exact hv k hk
 ·have e1:args[k]?.getD .any=.any:=by simp [List.getElem?_eq_none (show args.length≤k by omega)]
  rw [e1]
  exact .any _
theorem o9_ {κ:Go.Ab.K} {nL nD:Nat} {r d d':Obj} (hd:b2_ d) (hd':b2_ d') {s:NSt} (hN:NInv κ (exS s nL nD r d)) :
  ∃ b,κ.ρ nD=some b∧κ.w.heap[b]?=some d∧κ.Le { κ with w:=κ.w.putObj b d' }∧NInv { κ with w:=κ.w.putObj b d' } (exS s nL nD r d'):=by
 obtain ⟨b,h1,h2,h3,h4⟩:=hN.1.setRaw (i:=nD) (x:=d) (y:=d') (Store.set_get ..) hd'.1 (hd.2 _) (hd'.2 _)
 refine ⟨b,h1,h2,h3,?_,hN.2⟩
 have e:((s.st.set nL (.raw r)).set nD (.raw d)).set nD (.raw d')=(s.st.set nL (.raw r)).set nD (.raw d'):=Store.set_set ..
 show Inv _ ((s.st.set nL (.raw r)).set nD (.raw d'))
 rw [← e]
 exact h4
theorem o8_ {κ:Go.Ab.K} {h:Hp} {t:Tk} {n nL nD:Nat} {r d:Obj} (hN:NInv κ (exS (toSt h t n) nL nD r d)):NInv κ (toSt (hdel nL (hdel nD h)) t n):=by
 refine ⟨hN.1.sub ⟨fun o x hx=>?_,fun _ _ e=>e⟩,fun o ho=>hN.2 o ho⟩
 have hx':look o (hdel nL (hdel nD h))=some x:=hx
 rw [br_] at hx'
 split at hx'
 ·cases hx'
 ·rename_i h1
  rw [br_] at hx'
  split at hx'
  ·cases hx'
  ·rename_i h2
   show (((store h t).set nL (.raw r)).set nD (.raw d)).heap o=some x
   rw [Store.set_ne _ _ h2,Store.set_ne _ _ h1]
   exact hx'
theorem ld_ {f:FuncId} {fn gfn:Func} {gc:Code} {trg:Nat→DT} {gfuel:Nat} {prs:List (AVal × AVal)} (hm:P.follows .mixedOrders=true) (hf:P.funcs[f]?=some fn) (hb:fn.body=some q.code)
  (hg:P.funcs[gf]?=some gfn) (hgb:gfn.body=some gc) (hgo:okC gfn.ntmps trg gc=true) (hgn:2≤gfn.ntmps) (hgr:gfn.results=#[]) (hgg:isGo P gf=true) (hrow:rowV.cells=[rowV])
  (hq:∀ l,qC P ⟨fun _=>none,fun _=>none⟩ gfuel gc (eC_ [.lit (.func (.yield l) #[] #[]),.ro rowV] 0) endQ=some (prs.map fun p=>(l,p.1,p.2)))
  {body call:Cl} (hc:bh_ P call) {args:List AVal} {h:Hp} {t:Tk} {n:Nat} {v:AVal} {h':Hp} {t':Tk} {n':Nat} (hr:oz_ P bs tr lv fuel gf rowV q prs body call f args h t n=.ok v h' t' n') :
  ACalls P f args (toSt h t n) fun a s=>a=v∧s=toSt h' t' n':=by
 obtain ⟨R,hRe⟩:∃ R,R=Res.ok v h' t' n':=⟨_,rfl⟩
 rw [← hRe] at hr
 have hR:R.fine:=by rw [hRe];exact trivial
 obtain ⟨fn',hf',hr⟩:=ae_ hR hr
 obtain rfl:fn=fn':=Option.some.inj (hf.symm.trans hf')
 obtain ⟨hcnd,hr⟩:=af_ hR hr
 simp only [okT,Bool.and_eq_true] at hcnd
 obtain ⟨hlen,ho0,ho1,ho2,hoa,hob,hol,hpp,hqq⟩:=hcnd
 have hlen':=Nat.le_of_ble_eq_true hlen
 have hp':q.p < fn.ntmps:=Nat.le_of_ble_eq_true hpp
 have hq':q.q < fn.ntmps:=Nat.le_of_ble_eq_true hqq
 intro κ vs hN hsz hv
 have key0:q.code.wpIn (Fr none) 0 P (bodyPostM (Fr none) 0 P fn fun e w'=>∃ cv,e=.returned cv∧Post κ (fun a s=>a=v∧s=toSt h' t' n') cv w') { tmps:=vs ++ Array.replicate (fn.ntmps - vs.size) undef,defers:=[] } κ.w:=by
  have hs0:ASatG NI [] κ fn.ntmps (env (eC_ args 0)) (toSt h t n) { tmps:=vs ++ Array.replicate (fn.ntmps - vs.size) undef,defers:=[] }:=⟨rfl,by simp;omega,fun k=>by rw [d8_];exact h0_ hsz hv k,hN⟩
  refine wpIn_seq (wpIn_mono (dO_ hm hc hR ho0 hr none [] κ _ hs0) ?_)
  rintro ex a1 w1 ⟨κ1,e1,s1,rfl,hle1,hs1,⟨x',e1',h1,t1,n1,rfl,rfl,rfl,hx⟩⟩
  obtain ⟨rfl,hx⟩:=eQ_ hR hx
  refine wpIn_seq (wpIn_mono (dO_ hm hc hR ho1 hx none [] κ1 _ hs1) ?_)
  rintro ex a2 w2 ⟨κ2,e2,s2,rfl,hle2,hs2,⟨x',e2',h2,t2,n2,rfl,rfl,rfl,hx⟩⟩
  obtain ⟨rfl,hx⟩:=eQ_ hR hx
  refine wpIn_seq (wpIn_seq (wpIn_mono (dO_ hm hc hR ho2 hx none [] κ2 _ hs2) ?_))
  rintro ex a3 w3 ⟨κ3,e3,s3,rfl,hle3,hs3,⟨x',e3',h3,t3,n3,rfl,rfl,rfl,hx⟩⟩
  dsimp only at hx
  obtain ⟨rfl,hz⟩:=eQ_ hR hx
  clear hx
  split at hz
  case h_2=>subst hz;exact hR.elim
  rename_i g nb hev
  split at hz
  case h_2=>subst hz;exact hR.elim
  rename_i vv hlook
  obtain ⟨hc3,hz2⟩:=af_ hR hz
  clear hz
  rw [Bool.and_eq_true,Bool.and_eq_true] at hc3
  obtain ⟨⟨hgb',hvv⟩,hkp⟩:=hc3
  obtain rfl:g=gf:=ao_ hgb'
  obtain rfl:vv=rowV:=c1_ hvv
  have hK0:=ec_ hkp
  obtain ⟨bp,hxe,hbp⟩:∃ bp,a3.eval q.x=.func (.func g) #[] #[bp]∧Rv κ3 (.ref nb 0) bp:=by
   have h1:=hs3.ev q.x
   rw [← ax_,hev] at h1
   generalize a3.eval q.x=u at h1
   cases h1 with
   |fn _ _ _ us ws hn hfirst hmm hcap =>
    have e1:us=#[]:=by
     cases us with
     |mk l=>cases l with
      |nil=>rfl
      |cons a l=>simp at hn
    obtain ⟨w,rfl⟩:∃ w,ws=#[w]:=by
     cases ws with
     |mk l=>match l,hmm with
      |[w],_=>exact ⟨w,rfl⟩
      |[],hmm=>simp at hmm
      |_ :: _ :: _,hmm=>simp at hmm
    subst e1
    exact ⟨w,rfl,by simpa using hcap 0 (by simp)⟩
  obtain ⟨κ4,hw4,hle4,hI4,hρ4,hτ4,hro⟩:=jN_ hs3.inv.1 (so:=nb) (a:=vv) hlook hrow
  have hN4:NInv κ4 (toSt (hdel nb h3) t3 n3):=by
   refine ⟨hI4.sub ⟨fun o x hx=>?_,fun _ _ e=>e⟩,fun o ho=>by rw [hρ4,hτ4];exact hs3.inv.2 o ho⟩
   have hx':look o (hdel nb h3)=some x:=hx
   rw [br_] at hx'
   split at hx'
   ·cases hx'
   ·rename_i hne
    show ((store h3 t3).del nb).heap o=some x
    rw [Store.del_ne _ hne]
    exact hx'
  refine wpIn_block (wpIn_rangeFunc ?_)
  intro fnid _
  obtain ⟨rec,hrec⟩:∃ rec:LoopState→Obj,rec=fun st=>recO fnid a3.tmps q.p q.q q.ac q.bd κ3.w.heap.size st:=⟨_,rfl⟩
  have pr:∀ st,b2_ (rec st):=fun st=>by rw [hrec];exact ip_ ..
  obtain ⟨i5,hi5,hf5⟩:=hN4.1.fresh
  obtain ⟨κ5,hw5,hle5,hρ5,hI5⟩:=hN4.1.alloc i5 hi5 (.raw defO) defO (fun κ' _ hh _=>⟨by rw [bA_.2];exact hh,bA_.1⟩)
  obtain ⟨κ6,hw6,hle6,hN6,_,hρ6⟩:=reO (m:=n3 + 1) hN4 (show n3≤n3 + 1 from Nat.le_succ _) hle5 hI5 hf5 (aG_ hN4.1) trivial (a2_ hN4.1)
  obtain ⟨i7,hi7,hf7⟩:=hN6.1.fresh
  obtain ⟨κ7,hw7,hle7,hρ7,hI7⟩:=hN6.1.alloc i7 hi7 (.raw (rec .ready)) (rec .ready) (fun κ' _ hh _=>⟨by rw [(pr _).2];exact hh,(pr _).1⟩)
  obtain ⟨κ8,hw8,hle8,hN8,_,hρ8⟩:=reO (m:=n3) hN6 (show n3≤n3∧n3≠n3 + 1 from ⟨Nat.le_refl _,by omega⟩) hle7 hI7 hf7 (aG_ hN6.1) trivial (a2_ hN6.1)
  have hW:κ8.w=(κ3.w.alloc defO).alloc (rec .ready):=by rw [hw8,hw7,hw6,hw5,hw4]
  have hL:κ8.ρ n3=some (κ3.w.heap.size + 1):=by
   rw [hρ8,hρ7,hw6,hw5,hw4];simp
  have hN9:NInv κ8 (exS (toSt (put (n3 + 1) (mk 1) (put n3 (mk 0) (hdel nb h3))) t3 (n3 + 2)) n3 (n3 + 1) (rec .ready) defO):=by
   refine ⟨hN8.1.sub ⟨fun o x hx=>?_,fun _ _ e=>e⟩,fun o ho=>?_⟩
   ·show (((store (hdel nb h3) t3).set (n3 + 1) (.raw defO)).set n3 (.raw (rec .ready))).heap o=some x
    have hx':(((store (put (n3 + 1) (mk 1) (put n3 (mk 0) (hdel nb h3))) t3).set n3 (.raw (rec .ready))).set (n3 + 1) (.raw defO)).heap o=some x:=hx
    by_cases h1:o=n3 + 1
    ·subst h1
     rw [Store.set_get] at hx'
     rw [Store.set_ne _ _ (by omega),Store.set_get];exact hx'
    ·rw [Store.set_ne _ _ h1] at hx'
     by_cases h2:o=n3
     ·subst h2
      rw [Store.set_get] at hx' ⊢;exact hx'
     ·rw [Store.set_ne _ _ h2] at hx'
      rw [Store.set_ne _ _ h2,Store.set_ne _ _ h1]
      have hx'':look o (put (n3 + 1) (mk 1) (put n3 (mk 0) (hdel nb h3)))=some x:=hx'
      rw [cn_,if_neg h1,cn_,if_neg h2] at hx''
      exact hx''
   ·have ho':n3 + 2≤o:=ho
    exact hN8.2 o ⟨⟨by show n3≤o;omega,by omega⟩,by omega⟩
  have hle38:κ3.Le κ8:=(hle4.trans hle6).trans hle8
  have hs8:ASatG NI [] κ8 fn.ntmps (env e3') (exS (toSt (put (n3 + 1) (mk 1) (put n3 (mk 0) (hdel nb h3))) t3 (n3 + 2)) n3 (n3 + 1) (rec .ready) defO) a3:=⟨hs3.defers,hs3.size,fun k=>(hs3.env k).mono hle38,hN9⟩
  have hW':(κ3.w.alloc (.deferred (some []))).alloc (.loop { state:=.ready,pending:=none,fn:=fnid,tmps:=a3.tmps,params:=#[q.p,q.q],assign:=q.ac,body:=q.bd,defers:=κ3.w.heap.size })=κ8.w:=by rw [hW,hrec];rfl
  refine ⟨κ3.w.heap.size + 1,[{ target:=.collected κ3.w.heap.size,args:=#[] }],κ8.w,{ target:=.fn (.func g) #[bp],args:=#[.func (.yield (κ3.w.heap.size + 1)) #[] #[]] },κ8.w,g,#[.func (.yield (κ3.w.heap.size + 1)) #[] #[]] ++ #[bp],κ8.w,?_,?_,fun _ _=>trivial,?_,fun hh=>(by cases hh),?_⟩
  ·rw [← hW'];exact run_enterLoop_outer _ _ _ _ _
  ·simp only [resolve,hxe]
   simp [go_sem]
  ·simp [invoke,go_sem,bD_ hgg]
  refine callsIn_of_wp hg hgb trivial ?_
  obtain ⟨Kend,hKend⟩:∃ Kend:Hp→Tk→Nat→Res,Kend=fun h t m=>run0 P bs tr lv fuel call q.tl e3' h t m (endT P n3 (n3 + 1) fn.results.toList):=⟨_,rfl⟩
  have hx:hI_ P bs tr lv fuel q call n3 (n3 + 1) e3' prs (put (n3 + 1) (mk 1) (put n3 (mk 0) (hdel nb h3))) t3 (n3 + 2) Kend=R:=by rw [hKend];exact hz2
  obtain ⟨J,hJd⟩:∃ J:Tr→Go.Ab.K→Prop,J=fun s κ=>κ8.Le κ∧∃ h t m rest,s=rest.map (fun p:AVal × AVal=>(κ3.w.heap.size + 1,p.1,p.2))∧hI_ P bs tr lv fuel q call n3 (n3 + 1) e3' rest h t m Kend=R∧Kept h n3 (n3 + 1)∧NInv κ (exS (toSt h t m) n3 (n3 + 1) (rec .ready) defO):=⟨_,rfl⟩
  have hJ:QOk P ⟨fun _=>none,fun _=>none⟩ J:=by
   constructor
   ·intro s κ hj
    rw [hJd] at hj
    obtain ⟨_,_,_,_,_,_,_,_,hn⟩:=hj
    exact hn.1.sub ⟨fun o x e=>(by cases e),fun o x e=>(by cases e)⟩
   ·intro l a b s κ va vb hj hva hvb
    rw [hJd] at hj
    obtain ⟨hle,hh,tt,mm,rest,hs,hrr,hkk,hn⟩:=hj
    cases rest with
    |nil=>cases hs
    |cons ab rest =>
     simp only [List.map_cons,List.cons.injEq,Prod.mk.injEq] at hs
     obtain ⟨⟨rfl,rfl,rfl⟩,rfl⟩:=hs
     rw [hrec] at hn
     obtain ⟨f',tmps,ac',bd',hy,hrd⟩:=ml_ hm hc hR hoa hob hp' hq' hs8 hL hrr hkk hle hn hva hvb
     refine ⟨f',tmps,ac',bd',hy,hrd.mono ?_⟩
     rintro ee W ⟨rfl,κ',h6,t6,n6,rfl,hle6',hn6,hk6,hx6⟩
     refine ⟨rfl,κ',rfl,hle6',?_⟩
     rw [hJd]
     exact ⟨hle.trans hle6',h6,t6,n6,rest,rfl,hx6,hk6,by rw [hrec];exact hn6⟩
  have hj0:J (prs.map fun p=>(κ3.w.heap.size + 1,p.1,p.2)) κ8:=by rw [hJd];exact ⟨.refl _,_,_,_,prs,rfl,hx,hK0,hN9⟩
  have hsg:ASatG J [] κ8 gfn.ntmps (env (eC_ [.lit (.func (.yield (κ3.w.heap.size + 1)) #[] #[]),.ro vv] 0)) (prs.map fun p=>(κ3.w.heap.size + 1,p.1,p.2)) { tmps:=(#[.func (.yield (κ3.w.heap.size + 1)) #[] #[]] ++ #[bp]) ++ Array.replicate (gfn.ntmps - (#[.func (.yield (κ3.w.heap.size + 1)) #[] #[]] ++ #[bp]:Array Value).size) undef,defers:=[] }:=by
   refine ⟨rfl,by simp;omega,fun k=>?_,hj0⟩
   rw [d8_]
   refine h0_ (by simp) (fun i hi=>?_) k
   match i,hi with
   |0,_=>exact .lit _
   |1,_=>exact (hro _ hbp).mono (hle6.trans hle8)
  refine wpIn_mono (hE_ hJ gc hgo _ _ _ (hq (κ3.w.heap.size + 1)) none [] κ8 _ hsg) ?_
  rintro ex a9 w9 ⟨κ9,e9,s9,rfl,hle9,hs9,⟨x',e9',rfl,rfl,hx9⟩⟩
  have hs9e:s9=[]∧∀ i,x'≠.exit i:=by
   cases x' with
   |nor=>exact ⟨(Option.some.inj hx9).symm,fun i hh=>by cases hh⟩
   |ret=>exact ⟨(Option.some.inj hx9).symm,fun i hh=>by cases hh⟩
   |exit i=>cases hx9
  obtain ⟨rfl,hx'⟩:=hs9e
  have hj9:=hs9.inv
  rw [hJd] at hj9
  obtain ⟨hle89,h9,t9,n9,rest,hs,hx9',hk9,hn9⟩:=hj9
  cases rest with
  |cons ab rest=>cases hs
  |nil =>
  have hx10:Kend h9 t9 n9=R:=hx9'
  rw [hKend] at hx10
  obtain ⟨l',hl',hh9,hle10,hN10⟩:=nC_ hk9.ne (pr .ready) (pr .exhausted) hn9
  obtain rfl:κ3.w.heap.size + 1=l':=Option.some.inj ((hle89.rho _ _ hL).symm.trans hl')
  obtain ⟨cv,hcv,_⟩:=ef_ (fn:=gfn) (hn9.1) (fun k=>hs9.env k) (x:=.tup []) (by rw [hgr];rfl)
  have fin:a9.defers=[]∧∃ rv,(results gfn a9.tmps).run P κ9.w=.ok rv κ9.w∧rangePost (Fr none) 0 P (κ3.w.heap.size + 1) (Exit.inBlock q.b0 (Exit.then (fun a w=>q.tl.wpIn (Fr none) 0 P (bodyPostM (Fr none) 0 P fn fun e w'=>∃ cv,e=.returned cv∧Post κ (fun a s=>a=v∧s=toSt h' t' n') cv w') a w) (bodyPostM (Fr none) 0 P fn fun e w'=>∃ cv,e=.returned cv∧Post κ (fun a s=>a=v∧s=toSt h' t' n') cv w'))) { a3 with defers:=[{ target:=.collected κ3.w.heap.size,args:=#[] }] ++ a3.defers } (.returned rv) κ9.w:=by
   refine ⟨hs9.defers,cv,hcv,none,_,run_endLoop (by rw [hrec] at hh9;exact hh9) (by simp),?_⟩
   show q.tl.wpIn (Fr none) 0 P _ _ _
   have hN11:=kf_ hk9 (pr .exhausted) bA_ hN10
   have hs11:ASatG NI [{ target:=.collected κ3.w.heap.size,args:=#[] }] { κ9 with w:=κ9.w.putObj (κ3.w.heap.size + 1) (rec .exhausted),X:=two (rec .exhausted) defO } fn.ntmps (env e3') (toSt h9 t9 n9) { a3 with defers:=[{ target:=.collected κ3.w.heap.size,args:=#[] }] ++ a3.defers }:=by
    refine ⟨by show _ ++ a3.defers=_;rw [hs3.defers];rfl,hs3.size,fun k=>?_,hN11⟩
    exact Rv.reX (((hs8.env k).mono hle89).mono hle10)
   have h12:=dO_ hm hc hR hol hx10 none _ _ _ hs11
   have hworld:κ9.w.putObj (κ3.w.heap.size + 1) (.loop { state:=.exhausted,pending:=none,fn:=fnid,tmps:=a3.tmps,params:=#[q.p,q.q],assign:=q.ac,body:=q.bd,defers:=κ3.w.heap.size })=κ9.w.putObj (κ3.w.heap.size + 1) (rec .exhausted):=by rw [hrec];rfl
   rw [hworld]
   refine wpIn_mono h12 ?_
   rintro ex a13 w13 ⟨κ13,e13,s13,rfl,hle13,hs13,⟨x',e13',h13,t13,n13,rfl,rfl,rfl,hx13⟩⟩
   obtain ⟨hk13b,hx13⟩:=af_ hR hx13
   have hk13:=ec_ hk13b
   have hN14:=hy_ κ.X hk13 (pr .exhausted) bA_ (by rw [hle13.X]) hs13.inv
   obtain ⟨D',hD',hhD,hle15,hN15⟩:=o9_ bA_ (d':=.deferred none) ⟨fun _ _ _ h=>(by cases h),fun _=>rfl⟩ hN14
   have hN16:=o8_ hN15
   have hD8:κ8.ρ (n3 + 1)=some κ3.w.heap.size:=hle8.rho _ _ (by rw [hρ6,hρ5,hw4])
   have hD13:κ13.ρ (n3 + 1)=some κ3.w.heap.size:=hle13.rho (n3 + 1) _ (hle89.rho _ _ hD8)
   obtain rfl:κ3.w.heap.size=D':=Option.some.inj (hD13.symm.trans hD')
   have hLe:κ.Le { κ13 with X:=κ.X,w:=κ13.w.putObj κ3.w.heap.size (.deferred none) }:=by
    have q1:κ.Le κ9:=(((hle1.trans hle2).trans hle3).trans hle38).trans hle89
    have q2:κ.Le { κ9 with w:=κ9.w.putObj (κ3.w.heap.size + 1) (rec .exhausted) }:=q1.trans hle10
    have q3:Go.Ab.K.Le { κ9 with w:=κ9.w.putObj (κ3.w.heap.size + 1) (rec .exhausted),X:=κ.X } { κ13 with X:=κ.X }:=Le.reX (κ:={ κ9 with w:=κ9.w.putObj (κ3.w.heap.size + 1) (rec .exhausted),X:=two (rec .exhausted) defO }) κ.X hle13
    have q4:κ9.X=κ.X:=q1.X
    have q5:({ κ9 with w:=κ9.w.putObj (κ3.w.heap.size + 1) (rec .exhausted) }:Go.Ab.K)={ κ9 with w:=κ9.w.putObj (κ3.w.heap.size + 1) (rec .exhausted),X:=κ.X }:=by rw [← q4]
    rw [q5] at q2
    exact (q2.trans q3).trans hle15
   have fin2:∀ {w},aret P fn.results.toList (env e13') (store (hdel n3 (hdel (n3 + 1) h13)) t13)=some w→Res.ok w (hdel n3 (hdel (n3 + 1) h13)) t13 n13=R→LeavesInM (Fr none) 0 P fn a13.tmps (fun e w'=>∃ cv,e=.returned cv∧Post κ (fun a s=>a=v∧s=toSt h' t' n') cv w') a13.defers .returning κ13.w:=by
    intro w hw hwR
    rw [hRe] at hwR
    injection hwR with r1 r2 r3 r4
    have hd13:=hs13.defers
    rw [hd13]
    refine ⟨by simp,.inl ⟨κ3.w.heap.size,_,rfl,run_takeDeferred hhD,?_⟩⟩
    obtain ⟨cv2,hcv2,hrv2⟩:=ef_ (fn:=fn) hN16.1 (fun k=>Rv.mono hle15 (Rv.reX (X:=κ.X) (hs13.env k))) hw
    exact ⟨cv2,hcv2,cv2,rfl,_,w,_,rfl,hLe,hN16,hrv2,r1,by rw [r2,r3,r4]⟩
   cases x' with
   |nor =>
    obtain ⟨w,hw,hwR⟩:=ae_ hR hx13
    exact fin2 hw hwR
   |ret =>
    obtain ⟨w,hw,hwR⟩:=ae_ hR hx13
    exact fin2 hw hwR
   |exit i=>subst hx13;exact hR.elim
  cases x' with
  |nor=>exact fin
  |ret=>exact fin
  |exit i=>exact (hx' i rfl).elim
 have key:CallsIn (Fr none) 0 P f vs κ.w (fun e w'=>∃ cv,e=.returned cv∧Post κ (fun a s=>a=v∧s=toSt h' t' n') cv w'):=by
  refine callsIn_of_wp_marks hf hb trivial ?_
  exact key0
 have key':CallsIn Fence.wide 0 P f vs κ.w (fun e w'=>∃ cv,e=.returned cv∧Post κ (fun a s=>a=v∧s=toSt h' t' n') cv w'):=key
 exact callsIn_wide.1 key'
end
end
end Go.Nb
end

section
set_option linter.all false
set_option maxRecDepth 100000
namespace Go.Nb
open Go.Ab
noncomputable def strsOf:List (Value × AVal)→Option (List ByteArray)
 |[]=>some []
 |(.string s,_) :: l=>(strsOf l).map (s :: ·)
 |_=>none
noncomputable def leL:List UInt8→List UInt8→Bool
 |[],_=>true
 |_ :: _,[]=>false
 |a :: l,b :: m=>Nat.ble (Nat.succ a.toNat) b.toNat || (Nat.beq a.toNat b.toNat && leL l m)
noncomputable def insB (s:ByteArray):List ByteArray→List ByteArray
 |[]=>[s]
 |a :: l=>bif leL s.data.toList a.data.toList then s :: a :: l else a :: insB s l
noncomputable def isortB:List ByteArray→List ByteArray
 |[]=>[]
 |a :: l=>insB a (isortB l)
noncomputable def pairB:List ByteArray→Bool
 |[]=>true
 |a :: l=>(l.all fun b=>leL a.data.toList b.data.toList) && pairB l
noncomputable def strL:List AVal→Option (List ByteArray)
 |[]=>some []
 |.lit (.string s) :: l=>(strL l).map (s :: ·)
 |_=>none
section
noncomputable def delK (_body _call:Cl):Cl:=fun _ args h t n=>match args with
 |[.msl o 1 0 len,.lit (.int .i64 (.ofNat i)),.lit (.int .i64 (.ofNat j))]=>(match look o h with
  |some (.cells cs)=>opt 250 (strL cs) fun ss=>iff 251 (Nat.beq ss.length len && (Nat.ble i j && (Nat.ble j len && Nat.ble len 1000000))) (.ok (.sl 1 ((ss.take i ++ ss.drop j).map fun s=>.lit (.string s)) false) (hdel o h) t n)
  |_=>.bad 252)
 |_=>.bad 253
noncomputable def keysK (k:Nat) (_body _call:Cl):Cl:=fun _ args h t n=>match args with
 |[.ref o 0]=>(match look o h with
  |some (.cells cs)=>(match cs[k]? with
   |some (.map mo)=>(match look mo h with
    |some (.map kvs)=>opt 240 (strsOf kvs) fun ss=>iff 241 (pairB (isortB ss) && Nat.ble ss.length 1000) (.ok (.sl 1 ((isortB ss).map fun s=>.lit (.string s)) false) h t n)
    |_=>.bad 242)
   |_=>.bad 243)
  |_=>.bad 244)
 |_=>.bad 245
noncomputable def tpOf (c:Code):TP:=match c with
 |.seq r0 (.seq r1 (.seq (.seq r2 (.block b0 (.rangeFunc x ps ac bd))) tl))=>⟨r0,r1,r2,b0,x,ps.getD 0 0,ps.getD 1 0,ac,bd,tl⟩
 |_=>⟨.skip,.skip,.skip,0,.tmp 0,0,0,.skip,.skip,.skip⟩
noncomputable def tpT:TP:=tpOf (((Go.Proofs.Tryz.prog.funcs[57]?).bind (·.body)).getD .skip)
noncomputable def sNa:AVal:=.lit (.string ⟨⟨[110,97]⟩⟩)
noncomputable def sNb:AVal:=.lit (.string ⟨⟨[110,98]⟩⟩)
noncomputable def rowNN:AVal:=.sl 1 [sNa,sNb] false
end
end Go.Nb
end

section
set_option linter.all false
set_option maxRecDepth 100000
namespace Go.Nb
open Go.Ab Go.RowKit
noncomputable section
structure Seg where
 f:Nat
 args:List AVal
 h:Hp
 t:Tk
 n:Nat
 v:AVal
 h':Hp
 t':Tk
 n':Nat
def tin:Tk→Tk→Bool
 |.nil,_=>true
 |.cons k e sz r,b=>(match tok k b with
  |some p=>Nat.beq p.1 e && Nat.beq p.2 sz
  |none=>false) && tin r b
theorem nf_ {b:Tk}:∀ (a:Tk),tin a b=true→∀ o p,tok o a=some p→tok o b=some p
 |.nil,_,o,p,hx=>by cases hx
 |.cons k e sz r,h,o,p,hx=>by
  rw [tin,Bool.and_eq_true] at h
  rw [ba_] at hx
  by_cases hk:k=o
  ·subst hk
   rw [if_pos rfl] at hx
   obtain rfl:=Option.some.inj hx
   cases hq:tok k b with
   |none=>rw [hq] at h;cases h.1
   |some q =>
    rw [hq] at h
    have h1:=h.1
    simp only [Bool.and_eq_true] at h1
    obtain ⟨q1,q2⟩:=q
    have e1:q1=e:=ao_ h1.1
    have e2:q2=sz:=ao_ h1.2
    rw [e1,e2]
  ·rw [if_neg hk] at hx;exact nf_ r h.2 o p hx
def sin (h:Hp) (t:Tk) (n:Nat) (h2:Hp) (t2:Tk) (n2:Nat):Bool:=hsub h h2 && (tin t t2 && Nat.ble n2 n)
theorem iw_ {κ:K} {h h2:Hp} {t t2:Tk} {n n2:Nat} (hs:sin h t n h2 t2 n2=true) (hN:NInv κ (toSt h2 t2 n2)):NInv κ (toSt h t n):=by
 unfold sin at hs
 rw [Bool.and_eq_true,Bool.and_eq_true] at hs
 exact ⟨hN.1.sub ⟨fun o x e=>dN_ hs.1 o x e,fun o p e=>nf_ t hs.2.1 o p e⟩,fun o ho=>hN.2 o (Nat.le_trans (Nat.le_of_ble_eq_true hs.2.2) ho)⟩
def je_ (P:Program) (e:Seg):Prop:=ACalls P e.f e.args (toSt e.h e.t e.n) fun a s=>a=e.v∧s=toSt e.h' e.t' e.n'
theorem ACalls.sin {P:Program} {f:Nat} {args:List AVal} {h h2 h' h2':Hp} {t t2 t' t2':Tk} {n n2 n' n2':Nat} {v:AVal} (h1:sin h t n h2 t2 n2=true) (h3:sin h2' t2' n2' h' t' n'=true)
  (hc:ACalls P f args (toSt h t n) fun a s=>a=v∧s=toSt h' t' n'):ACalls P f args (toSt h2 t2 n2) fun a s=>a=v∧s=toSt h2' t2' n2':=fun κ vs hN hsz hv =>
 (hc κ vs (iw_ h1 hN) hsz hv).mono fun e w' ⟨cv,he,κ',a,s,q1,q2,q3,q4,q5,q6⟩=>by
  subst q6
  exact ⟨cv,he,κ',a,_,q1,q2,iw_ h3 q3,q4,q5,rfl⟩
def segK (l:List Seg) (body _call:Cl):Cl:=fun f args h t n=>List.rec (motive:=fun _=>Res) (body f args h t n) (fun e _ r=>Bool.rec r (.ok e.v e.h' e.t' e.n') (Nat.beq e.f f && (aeqL args e.args && sin e.h e.t e.n h t n))) l
theorem kP_ {P:Program} {f:Nat} {args:List AVal} {h:Hp} {t:Tk} {n:Nat} {v:AVal} {h':Hp} {t':Tk} {n':Nat} {body call:Cl} (hb:body f args h t n=.ok v h' t' n'→ACalls P f args (toSt h t n) fun a s=>a=v∧s=toSt h' t' n') :
  ∀ (l:List Seg),(∀ e∈l,je_ P e)→segK l body call f args h t n=.ok v h' t' n'→ACalls P f args (toSt h t n) fun a s=>a=v∧s=toSt h' t' n'
 |[],_,hr=>hb hr
 |e :: l,hl,hr=>by
  have hr':(Bool.rec (segK l body call f args h t n) (.ok e.v e.h' e.t' e.n') (Nat.beq e.f f && (aeqL args e.args && sin e.h e.t e.n h t n)):Res)=.ok v h' t' n':=hr
  cases hc:(Nat.beq e.f f && (aeqL args e.args && sin e.h e.t e.n h t n)) with
  |false=>rw [hc] at hr';exact kP_ hb l (fun e he=>hl e (List.mem_cons_of_mem _ he)) hr'
  |true =>
   rw [hc] at hr'
   rw [Bool.and_eq_true,Bool.and_eq_true] at hc
   injection hr' with q1 q2 q3 q4
   subst q1;subst q2;subst q3;subst q4
   have:=hl e (List.mem_cons_self ..)
   unfold je_ at this
   rw [ao_ hc.1,← b6_ hc.2.1] at this
   exact fun κ vs hN hsz hv=>this κ vs (iw_ hc.2.2 hN) hsz hv
def spS (sp:Nat→Option (Cl→Cl→Cl)) (l:List Seg) (fs:Nat→Bool) (f:Nat):Option (Cl→Cl→Cl):=Bool.rec (sp f) (some fun body call=>segK l (Option.rec body (fun g=>g body call) (sp f)) call) (fs f)
theorem rv_ {P:Program} {sp:Nat→Option (Cl→Cl→Cl)} {l:List Seg} {fs:Nat→Bool} (hs:SpOk P sp) (hl:∀ e∈l,je_ P e):SpOk P (spS sp l fs):=by
 intro f g hg body call hb hc args h t n v h' t' n' hr
 unfold spS at hg
 cases hf:fs f with
 |false=>rw [hf] at hg;exact hs f g hg body call hb hc args h t n v h' t' n' hr
 |true =>
  rw [hf] at hg
  obtain rfl:=Option.some.inj hg
  refine kP_ (fun hr2=>?_) l hl hr
  cases hsp:sp f with
  |none=>rw [hsp] at hr2;exact hb _ _ _ _ _ _ _ _ _ hr2
  |some g=>rw [hsp] at hr2;exact hs f g hsp body call hb hc _ _ _ _ _ _ _ _ hr2
def pl (l:List (Nat × AObj)):Hp:=List.rec .nil (fun p _ r=>put p.1 p.2 r) l
def tl (l:List (Nat × Nat × Nat)):Tk:=List.rec .nil (fun p _ r=>.cons p.1 p.2.1 p.2.2 r) l
def segB (P:Program) (T:Tab) (fuel depth:Nat) (e:Seg):Bool:=match d0_ P T fuel depth e.f e.args e.h e.t e.n with
 |.ok v h t n=>aeqb v e.v && sin e.h' e.t' e.n' h t n
 |.bad _=>false
theorem kQ_ {P:Program} {T:Tab} {fuel depth:Nat} {e:Seg} (hT:fO_ P T) (hm:P.follows .mixedOrders=true) (hn:iL_ P T.nat) (h:segB P T fuel depth e=true):je_ P e:=by
 unfold segB at h
 split at h
 ·rename_i v h2 t2 n2 hr
  rw [Bool.and_eq_true] at h
  have hc:=(d7_ (fuel:=fuel) hT hm hn depth).1 _ _ _ _ _ _ _ _ _ hr
  rw [c1_ h.1] at hc
  intro κ vs hN hsz hv
  refine (hc κ vs hN hsz hv).mono fun ee w' ⟨cv,he,κ',a,s,q1,q2,q3,q4,q5,q6⟩=>?_
  subst q6
  exact ⟨cv,he,κ',a,_,q1,q2,iw_ h.2 q3,q4,q5,rfl⟩
 ·cases h
end
end Go.Nb
end
