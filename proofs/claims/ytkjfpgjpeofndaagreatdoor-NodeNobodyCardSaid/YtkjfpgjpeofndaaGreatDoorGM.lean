/-
  What is read of bytes: the program's reader; What the program's values are; What is read of bytes: numbers,texts,lists; Contexts and objects read of bytes: the program's; What is read of bytes: the reference's reader; Contexts and objects read of bytes: the reference's; What is written as bytes: the program's writer; Contexts and objects as bytes: what the program writes; Messages as bytes: the program's writer; Names: the program's,and the reference's; Whether a context may be: the program's Check,the reference's May; WHAT COMES IN,READ: a value of data (numbers,bools,strings,structs,arrays,slices of these,to any depth) that the row's reading met is described by an abstract value;a call's contract gives the row's; CONTEXTS AND OBJECTS,as they come in; MESSAGES,as they come in. Own work (an AI agent).
-/
import Derived.Test.YtkjfpgjpeofndaaGreatDoorGD
import Derived.Laws.RangeString
import Derived.Laws.RangeAny
import Derived.ProofKit
import Derived.OpenShut
import Derived.ShutString
import Derived.ChangeOld
import Derived.Below

section
set_option linter.all false
set_option maxRecDepth 100000
namespace Go.Proofs.YtkjfpgjpeofndaaGreatDoor
open Go.Ab
abbrev Rd:=List UInt8 × Bool
abbrev rdO (x:Rd):AObj:=.cells [vStr (B x.1),gL_ x.2]
def bG_ (x:Rd) (n:Nat):List UInt8 × Rd:=if x.2=true∧n≤x.1.length then (x.1.take n,x.1.drop n,true) else ([],x.1,false)
theorem l8_ {x:Rd} {n:Nat} (h:x.2=true) (h':n≤x.1.length):bG_ x n=(x.1.take n,x.1.drop n,true):=if_pos ⟨h,h'⟩
theorem oB_ {x:Rd} {n:Nat} (h:x.2=false∨x.1.length < n):bG_ x n=([],x.1,false):=if_neg fun hh=>by rcases h with h | h;rw [hh.1] at h;cases h;omega
theorem uz_ {o:Nat} {s:List UInt8} {g:Bool} {σ:Store} (ho:σ.heap o=some (.cells [vStr (B s),gL_ g])):ACalls Tryz.prog 312 [.ref o 0] σ fun v σ'=>v=gL_ (!g)∧σ=σ':=by
 refine en_ Tryz.func312 Tryz.ntmps312 Tryz.results312 ?_
 refine ab_ ?_
 have R:=ho
 refine r_ ?_
 refine s_ ?_
 refine aa_ ?_
 refine ab_ ?_
 have R:=ho
 refine r_ ?_
 iterate 3 refine s_ ?_
 refine gf_ ?_
 refine gf_ ?_
 refine gf_ ?_
 refine gf_ ?_
 refine gf_ ?_
 iterate 2 refine s_ ?_
 refine aa_ ?_
 refine ac_ ?_
 refine er_ σ ?_
 exact ⟨rfl,rfl⟩
theorem oZ_ {o:Nat} {s:List UInt8} {g:Bool} {σ:Store} (ho:σ.heap o=some (.cells [vStr (B s),gL_ g])):ACalls Tryz.prog 261 [.ref o 0] σ fun v σ'=>v=.tup []∧σ'=σ.set o (.cells [vStr (B s),gL_ false]):=by
 refine en_ Tryz.func261 Tryz.ntmps261 Tryz.results261 ?_
 refine ab_ ?_
 have R:=ho
 refine r_ ?_
 iterate 2 refine s_ ?_
 refine aa_ ?_
 refine cd_ (fun hc0=>?_) (fun hc0=>?_)
 ·have R:=ho
  refine r_ ?_
  iterate 3 refine s_ ?_
  refine st_ ?_
  refine aa_ ?_
  refine aD_ v_ (Store.Wk.refl _) ?_
  exact ⟨rfl,rfl⟩
 ·simp at hc0
theorem rM_ {o n:Nat} {s:List UInt8} {g:Bool} {σ:Store} (ho:σ.heap o=some (.cells [vStr (B s),gL_ g])):ACalls Tryz.prog 360 [.ref o 0,vInt n] σ fun v σ'=>v=vStr (B (bG_ (s,g) n).1)∧σ'=σ.set o (rdO (bG_ (s,g) n).2):=by
 refine en_ Tryz.func360 Tryz.ntmps360 Tryz.results360 ?_
 refine ab_ ?_
 have R:=And.intro ho bI_
 refine r_ ?_
 refine s_ ?_
 refine aa_ ?_
 refine ab_ ?_
 refine ab_ ?_
 have R:=And.intro ho bI_
 refine r_ ?_
 iterate 3 refine s_ ?_
 refine gf_ ?_
 refine gf_ ?_
 refine gf_ ?_
 refine gf_ ?_
 refine gf_ ?_
 iterate 2 refine s_ ?_
 refine gf_ ?_
 refine gf_ ?_
 refine gf_ ?_
 refine gf_ ?_
 refine gf_ ?_
 refine gf_ ?_
 refine gf_ ?_
 refine s_ ?_
 refine aa_ ?_
 refine cd_ (fun hc1=>?_) (fun hc1=>?_)
 ·refine ab_ ?_
  have R:=And.intro ho bI_
  refine r_ ?_
  refine s_ ?_
  refine x_ g_ va_ (oZ_ ho) ?_;rintro _ _ ⟨rfl,rfl⟩
  refine aa_ ?_
  refine ab_ ?_
  have R:=And.intro ho bI_
  refine r_ ?_
  refine s_ ?_
  refine aa_ ?_
  refine ac_ ?_
  refine aE_ v_ (Store.Wk.refl _) ?_
  rw [oB_ (by rcases hc1 with h | h;exact .inl h;exact .inr (by simpa using h))];exact ⟨rfl,rfl⟩
 ·refine ae_ ?_
  refine ab_ ?_
  have R:=And.intro ho bI_
  refine r_ ?_
  iterate 7 refine s_ ?_
  refine aa_ ?_
  refine ab_ ?_
  have R:=And.intro ho bI_
  refine r_ ?_
  iterate 9 refine s_ ?_
  refine st_ ?_
  refine aa_ ?_
  refine ab_ ?_
  have R:=And.intro ho bI_
  refine r_ ?_
  iterate 2 refine s_ ?_
  refine aa_ ?_
  refine ac_ ?_
  refine aE_ v_ (Store.Wk.refl _) ?_
  rw [l8_ hc1.1 (by simpa using hc1.2),hc1.1]
  refine ⟨by rw [ez_,Lb_B];rfl,?_⟩
  rw [ez_,Lb_B,List.take_length]
theorem hl_ {x:Rd} {n:Nat}:(bG_ x n).1.length≤n:=by
 unfold bG_;split <;> simp
 omega
def aV_ (x:Rd) (n:Nat):Int × Rd:=(rdI (bG_ x n).1,(bG_ x n).2)
theorem ql_ {o n:Nat} {s:List UInt8} {g:Bool} {σ:Store} (ho:σ.heap o=some (.cells [vStr (B s),gL_ g])) (hn:n≤8):ACalls Tryz.prog 260 [.ref o 0,vInt n] σ fun v σ'=>v=vInt (aV_ (s,g) n).1∧σ'=σ.set o (rdO (aV_ (s,g) n).2):=by
 obtain ⟨r,hr⟩:∃ r,(bG_ (s,g) n).1=r:=⟨_,rfl⟩
 have hl:=hl_ (x:=(s,g)) (n:=n)
 rw [hr] at hl
 refine en_ Tryz.func260 Tryz.ntmps260 Tryz.results260 ?_
 refine rr_ ?_
 refine s_ ?_
 refine aa_ ?_
 refine rr_ ?_
 refine s_ ?_
 refine aa_ ?_
 refine ab_ ?_
 refine ab_ ?_
 have R:=And.intro hr bI_
 refine r_ ?_
 iterate 2 refine s_ ?_
 refine x_ g_ va_ (rM_ ho) ?_;rintro _ _ ⟨rfl,rfl⟩
 refine e7_ rfl rfl rfl g_ g_ g_ v_ ?_
 iterate 2 refine s_ ?_
 refine aa_ ?_
 refine ah_ ?_
 refine ak_ (ι:=Nat) (fun k=>r.length - k) (fun k=>k≤r.length) (fun k=>[(5,vInt (rdI (r.take k))),(11,.sl 1 (aA_ (B r)) false),(12,vInt r.length),(13,vInt k)]) (fun k=>σ.set o (rdO (aV_ (s,g) n).2)) 0 ?_ ?_ ?_ ?_
 ·exact Nat.zero_le _
 ·have R:=And.intro hr (And.intro bI_ aF_);exact cv_
 ·exact Store.Wk.refl _
 rintro k hk
 simp only [ar_,av_]
 refine rr_ ?_
 refine s_ ?_
 refine aa_ ?_
 refine ab_ ?_
 refine cd_ (fun hc3=>?_) (fun hc3=>?_)
 ·refine ae_ ?_
  refine ab_ ?_
  refine ah_ ?_
  refine ab_ ?_
  obtain ⟨c,hc⟩:∃ c,r[k]?=some c:=⟨r[k]'(by omega),List.getElem?_eq_getElem _⟩
  have hb:=km_ hc
  have hlt:c.toNat < 256:=c.toNat_lt
  have hst:bOr .i64 (IntKind.i64.wrap (rdI (r.take k) * 2 ^ 8)) (c.toNat:Int)=rdI (r.take (k + 1)):=by rw [bE_ hc];exact qA_ _ _
  have R:=hb
  refine r_ ?_
  iterate 3 refine s_ ?_
  refine aa_ ?_
  refine r_ ?_
  iterate 6 refine s_ ?_
  refine aa_ ?_
  refine r_ ?_
  iterate 2 refine s_ ?_
  refine aa_ ?_
  refine bb_ (ι:=Nat) (i:=k) (k + 1) ?_ ?_ ?_ ?_
  ·omega
  ·omega
  ·have R:=hst;exact cv_
  ·exact Store.Wk.refl _
 ·refine ay_ ?_
  refine af_ ?_
  refine af_ ?_
  refine aq_ ?_
  refine rr_ ?_
  iterate 2 refine s_ ?_
  refine aa_ ?_
  refine ac_ ?_
  refine aE_ v_ (Store.Wk.refl _) ?_
  rw [List.take_of_length_le (by omega)]
  exact ⟨by rw [← hr];rfl,rfl⟩
end Go.Proofs.YtkjfpgjpeofndaaGreatDoor
end

section
set_option linter.all false
namespace Go.Ab
structure Seen where
 node:ByteArray
 base:Int
 more:List Int
structure Sib where
 node:ByteArray
 n:Int
 value:ByteArray
 gone:Bool
 time:Int
structure Obj' where
 ctx:List Seen
 sibs:List Sib
@[reducible] def aM_ (x:Seen):AVal:=.agg [.lit (.string x.node),vInt x.base,.sl 1 (x.more.map vInt) false]
@[reducible] def sSib (x:Sib):AVal:=.agg [.lit (.string x.node),vInt x.n,.lit (.string x.value),.lit (.bool x.gone),vInt x.time]
@[reducible] def sObj (x:Obj'):AVal:=.agg [.sl 3 (x.ctx.map aM_) false,.sl 5 (x.sibs.map sSib) false]
end Go.Ab
end

section
set_option linter.all false
set_option maxRecDepth 100000
namespace Go.Proofs.YtkjfpgjpeofndaaGreatDoor
open Go.Ab
theorem fd_ {o:Nat} {x:Rd} {σ:Store} (ho:σ.heap o=some (rdO x)):ACalls Tryz.prog 312 [.ref o 0] σ fun v σ'=>v=gL_ (!x.2)∧σ=σ':=uz_ ho
theorem wg_ {o n:Nat} {x:Rd} {σ:Store} (ho:σ.heap o=some (rdO x)):ACalls Tryz.prog 360 [.ref o 0,vInt n] σ fun v σ'=>v=vStr (B (bG_ x n).1)∧σ'=σ.set o (rdO (bG_ x n).2):=rM_ ho
theorem hW_ {o n:Nat} {x:Rd} {σ:Store} (ho:σ.heap o=some (rdO x)) (hn:n≤8):ACalls Tryz.prog 260 [.ref o 0,vInt n] σ fun v σ'=>v=vInt (aV_ x n).1∧σ'=σ.set o (rdO (aV_ x n).2):=ql_ ho hn
theorem xd_ {s:List UInt8} {σ:Store}:ACalls Tryz.prog 130 [vStr (B s)] σ fun v σ'=>∃ o,σ.heap o=none∧v=.ref o 0∧σ'=σ.set o (rdO (s,true)):=by
 refine en_ Tryz.func130 Tryz.ntmps130 Tryz.results130 ?_
 refine rr_ ?_
 refine s_ ?_
 refine aa_ ?_
 refine rr_ ?_
 iterate 2 refine s_ ?_
 refine bx_ fun o5 ho5=>?_
 repeat (rw [ad_] at ho5;obtain ⟨_,ho5⟩:=ho5)
 refine s_ ?_
 refine aa_ ?_
 refine ac_ ?_
 refine aE_ v_ (Store.Wk.refl _) ?_
 exact ⟨o5,ho5,rfl,rfl⟩
theorem fL_ {o:Nat} {x:Rd} {σ:Store} (ho:σ.heap o=some (rdO x)):ACalls Tryz.prog 198 [.ref o 0] σ fun v σ'=>v=vInt (aV_ x 1).1∧σ'=σ.set o (rdO (aV_ x 1).2):=by
 refine en_ Tryz.func198 Tryz.ntmps198 Tryz.results198 ?_
 refine rr_ ?_
 refine s_ ?_
 refine aa_ ?_
 refine rr_ ?_
 refine s_ ?_
 refine x_ g_ va_ (hW_ (n:=1) ho (by decide)) ?_;rintro _ _ ⟨rfl,rfl⟩
 refine s_ ?_
 refine aa_ ?_
 refine ac_ ?_
 refine aE_ v_ (Store.Wk.refl _) ?_
 exact ⟨rfl,rfl⟩
theorem cz_ {o:Nat} {x:Rd} {σ:Store} (ho:σ.heap o=some (rdO x)):ACalls Tryz.prog 206 [.ref o 0] σ fun v σ'=>v=vInt (aV_ x 8).1∧σ'=σ.set o (rdO (aV_ x 8).2):=by
 refine en_ Tryz.func206 Tryz.ntmps206 Tryz.results206 ?_
 refine rr_ ?_
 refine s_ ?_
 refine aa_ ?_
 refine rr_ ?_
 refine s_ ?_
 refine x_ g_ va_ (hW_ (n:=8) ho (by decide)) ?_;rintro _ _ ⟨rfl,rfl⟩
 refine s_ ?_
 refine aa_ ?_
 refine ac_ ?_
 refine aE_ v_ (Store.Wk.refl _) ?_
 exact ⟨rfl,rfl⟩
def b7_ (x:Rd) (m:Nat):Nat × Rd:=if m < natB (bG_ x 4).1 then (0,(bG_ x 4).2.1,false) else (natB (bG_ x 4).1,(bG_ x 4).2)
theorem dp_ (x:Rd) (m:Nat):(b7_ x m).1≤m:=by unfold b7_;split;exact Nat.zero_le _;omega
theorem vX_ (x:Rd):(aV_ x 4).1=natB (bG_ x 4).1:=ow_ _ (Nat.le_trans hl_ (by decide))
theorem cw_ {o m:Nat} {x:Rd} {σ:Store} (ho:σ.heap o=some (rdO x)):ACalls Tryz.prog 132 [.ref o 0,vInt m] σ fun v σ'=>v=vInt (b7_ x m).1∧σ'=σ.set o (rdO (b7_ x m).2):=by
 have h4:=vX_ x
 refine en_ Tryz.func132 Tryz.ntmps132 Tryz.results132 ?_
 refine rr_ ?_
 refine s_ ?_
 refine aa_ ?_
 refine rr_ ?_
 refine s_ ?_
 refine x_ g_ va_ (hW_ (n:=4) ho (by decide)) ?_;rintro _ _ ⟨rfl,rfl⟩
 refine s_ ?_
 refine aa_ ?_
 refine ab_ ?_
 refine ab_ ?_
 have R:=h4
 refine r_ ?_
 iterate 3 refine s_ ?_
 refine aa_ ?_
 refine cd_ (fun hc2=>?_) (fun hc2=>?_)
 ·refine rr_ ?_
  refine s_ ?_
  refine x_ g_ va_ (oZ_ (s:=(bG_ x 4).2.1) (g:=(bG_ x 4).2.2) (Store.set_get ..)) ?_;rintro _ _ ⟨rfl,rfl⟩
  refine aa_ ?_
  refine rr_ ?_
  refine s_ ?_
  refine aa_ ?_
  refine ac_ ?_
  refine aE_ v_ (Store.Wk.refl _) ?_
  rw [b7_,if_pos (by omega),Store.set_set];exact ⟨rfl,rfl⟩
 ·refine ae_ ?_
  refine rr_ ?_
  iterate 2 refine s_ ?_
  refine aa_ ?_
  refine ac_ ?_
  refine aE_ v_ (Store.Wk.refl _) ?_
  rw [b7_,if_neg (by omega)];exact ⟨rfl,rfl⟩
def al_ (x:Rd):List UInt8 × Rd:=bG_ (b7_ x 1048576).2 (b7_ x 1048576).1
theorem a9_ {o:Nat} {x:Rd} {σ:Store} (ho:σ.heap o=some (rdO x)):ACalls Tryz.prog 199 [.ref o 0] σ fun v σ'=>v=vStr (B (al_ x).1)∧σ'=σ.set o (rdO (al_ x).2):=by
 refine en_ Tryz.func199 Tryz.ntmps199 Tryz.results199 ?_
 refine rr_ ?_
 refine s_ ?_
 refine aa_ ?_
 refine rr_ ?_
 iterate 2 refine s_ ?_
 refine x_ g_ va_ (cw_ (m:=1048576) ho) ?_;rintro _ _ ⟨rfl,rfl⟩
 refine x_ g_ va_ (wg_ (Store.set_get ..)) ?_;rintro _ _ ⟨rfl,rfl⟩
 refine s_ ?_
 refine aa_ ?_
 refine ac_ ?_
 refine aE_ v_ (Store.Wk.refl _) ?_
 rw [Store.set_set];exact ⟨rfl,rfl⟩
theorem qy_ {o:Nat} {x:Rd} {σ:Store} (ho:σ.heap o=some (rdO x)):ACalls Tryz.prog 161 [.ref o 0] σ fun v σ'=>v=gL_ (x.2 && decide (x.1=[]))∧σ=σ':=by
 obtain ⟨s,g⟩:=x
 have he:(B s=⟨#[]⟩) ↔ s=[]:=by rw [show (⟨#[]⟩:ByteArray)=B [] from rfl,hx_]
 refine en_ Tryz.func161 Tryz.ntmps161 Tryz.results161 ?_
 refine ab_ ?_
 have R:=And.intro ho he
 refine r_ ?_
 refine s_ ?_
 refine aa_ ?_
 refine ab_ ?_
 have R:=And.intro ho he
 refine r_ ?_
 refine s_ ?_
 refine x_ g_ va_ (uz_ ho) ?_;rintro _ _ ⟨rfl,rfl⟩
 iterate 2 refine s_ ?_
 refine gt_ ?_
 refine gt_ ?_
 refine gt_ ?_
 refine gt_ ?_
 refine gt_ ?_
 iterate 2 refine s_ ?_
 refine aa_ ?_
 refine ac_ ?_
 refine er_ σ ?_
 exact ⟨by cases g <;> simp [he],rfl⟩
def aK_ {α:Type} (f:Rd→α × Rd):Nat→Rd→List α × Rd
 |0,x=>([],x)
 |n + 1,x=>if x.2 then ((f x).1 :: (aK_ f n (f x).2).1,(aK_ f n (f x).2).2) else ([],x)
theorem cM_ {α:Type} (f:Rd→α × Rd) {n:Nat} {x:Rd} (h:x.2=false):aK_ f n x=([],x):=by
 cases n with
 |zero=>rfl
 |succ n=>rw [aK_,h];rfl
def bd_ {α:Type} (f:Rd→α × Rd) (x:Rd):List α × Rd :=
 let r:=aK_ f (b7_ x 65536).1 (b7_ x 65536).2
 if r.2.2 then r else ([],r.2)
theorem SubX.trans {l:List Nat} {a b c:Store} (h:SubX l a b) (k:SubX l b c):SubX l a c:=⟨fun i x hi hx=>k.1 i x hi (h.1 i x hi hx),fun t n ht=>k.2 t n (h.2 t n ht)⟩
theorem SubX.self {o:Nat} {σ:Store} {x:AObj}:SubX [o] σ (σ.set o x):=az_ (.head _) a5_
theorem SubX.newTok {l:List Nat} {a b:Store} (h:SubX l a b) {old:Option Nat} {k:Nat} {p:TypeId × Nat} (ho:∀ j,old=some j→a.tok j=none) (hk:b.tok k=none):SubX l a (b.newTok old k p):=⟨h.1,fun t n ht=>by
 have h1:=h.2 t n ht
 simp only [Store.newTok]
 rw [if_neg (fun hh=>by rw [hh,hk] at h1;cases h1),if_neg (fun hh=>by rw [ho t hh.symm] at ht;cases ht)]
 exact h1⟩
theorem SubX.noTok {l:List Nat} {a b:Store} (h:SubX l a b) {k:Nat} (hk:b.tok k=none):a.tok k=none:=by
 cases ht:a.tok k with
 |none=>rfl
 |some n=>have:=h.2 k n ht;rw [hk] at this;cases this
theorem h8_ {o G:Nat} {x:Rd} {σ:Store} {fs cp:List AVal} {f:Rd→Int × Rd} (Kp:Store→Prop) (hgo:isGo Tryz.prog G=true) (hK:∀ τ τ',Kp τ→SubX [o] τ τ'→Kp τ') (ho:σ.heap o=some (rdO x)) (hKσ:Kp σ)
  (hf:∀ τ y,τ.heap o=some (rdO y)→Kp τ→ACalls Tryz.prog G (fs ++ [] ++ cp) τ fun v τ'=>v=vInt (f y).1∧τ'.heap o=some (rdO (f y).2)∧SubX [o] τ τ') :
  ACalls Tryz.prog 486 [.ref o 0,.fn (.func G) fs cp] σ fun v σ'=>v=.sl 1 ((bd_ f x).1.map vInt) false∧σ'.heap o=some (rdO (bd_ f x).2)∧SubX [o] σ σ':=by
 obtain ⟨N,hN⟩:∃ N,(b7_ x 65536).1=N:=⟨_,rfl⟩
 obtain ⟨x0,hx0⟩:∃ x0,(b7_ x 65536).2=x0:=⟨_,rfl⟩
 have hNb:N≤65536:=by rw [← hN];exact dp_ _ _
 refine en_ Tryz.func486 Tryz.ntmps486 Tryz.results486 ?_
 refine rr_ ?_
 refine s_ ?_
 refine aa_ ?_
 refine rr_ ?_
 refine cq_ 3 1 rfl rfl rfl (by rfl) fun k5 hk5=>?_
 refine aa_ ?_
 refine ab_ ?_
 refine ab_ ?_
 have R:=And.intro hN hx0
 refine r_ ?_
 refine s_ ?_
 refine x_ g_ va_ (cw_ (m:=65536) ho) ?_;rintro _ _ ⟨rfl,rfl⟩
 refine s_ ?_
 refine aa_ ?_
 refine ah_ ?_
 refine ak_ (ι:=Store × Nat × List Int × Rd × Nat) (fun ⟨τ,n,L,y,k⟩=>n) (fun ⟨τ,n,L,y,k⟩=>aK_ f N x0=(L ++ (aK_ f n y).1,(aK_ f n y).2)∧L.length + n≤65536∧τ.heap o=some (rdO y)∧SubX [o] σ τ∧τ.tok k=some (3,1)∧σ.tok k=none) (fun ⟨τ,n,L,y,k⟩=>[(0,.ref o 0),(1,.fn (.func G) fs cp),(5,.own k 1 (L.map vInt)),(6,vInt n)]) (fun ⟨τ,n,L,y,k⟩=>τ) ((σ.newTok none k5 (3,1)).set o (rdO x0),N,[],x0,k5) ?_ ?_ ?_ ?_
 ·exact ⟨rfl,by simpa using hNb,Store.set_get ..,SubX.trans (bz_ hk5 a5_) SubX.self,by rw [Store.set_tok];exact Store.newTok_get ..,hk5⟩
 ·have R:=hN;exact cv_
 ·rw [hx0];exact Store.Wk.refl _
 rintro ⟨τ,n,L,y,k⟩ ⟨h1,h2,h3,h4,h5,h6⟩
 simp only [ar_,av_]
 refine ab_ ?_
 refine ab_ ?_
 have R:=h3
 refine r_ ?_
 iterate 3 refine s_ ?_
 refine gt_ ?_
 refine bQ_ rfl rfl v_ rfl (fun hb=>aw_ (by rfl) (by rfl) (.inr ⟨by rfl,by rfl,by rfl⟩) g_ cg_ (fd_ h3)) ?_
 refine gt_ ?_
 refine s_ ?_
 refine aa_ ?_
 refine cd_ (fun hc3=>?_) (fun hc3=>?_)
 ·refine ae_ ?_
  refine ab_ ?_
  refine ah_ ?_
  have hn0:0 < n∧y.2=true:=by simpa using hc3
  have hn1:n=(n - 1) + 1:=by omega
  have hn2:(n:Int) - 1=((n - 1:Nat):Int):=by omega
  have hy:=hn0.2
  refine r_ ?_
  iterate 2 refine s_ ?_
  refine aL_X rfl rfl (bu_ rfl rfl (.inl v_) g_ va_ (hf _ _ h3 (hK _ _ hKσ h4)) ?_);rintro _ υ ⟨rfl,hu1,hu2⟩
  refine aJ_ rfl rfl rfl g_ g_ rfl rfl h_ c2_ (by decide) ?_
  have R:=hu2.2 _ _ h5
  refine cp_ rfl rfl rfl g_ g_ v_ h_ v_ c_ (by simp;omega) fun k22 hk22=>?_
  refine s_ ?_
  refine aa_ ?_
  refine r_ ?_
  iterate 3 refine s_ ?_
  refine aa_ ?_
  refine bb_ (ι:=Store × Nat × List Int × Rd × Nat) (i:=⟨τ,n,L,y,k⟩) (υ.newTok (some k) k22 (3,1),n - 1,L ++ [(f y).1],(f y).2,k22) ?_ ?_ ?_ ?_
  ·show n - 1 < n;omega
  ·exact ⟨by rw [h1,hn1,aK_,hy];simp,by simp;omega,hu1,SubX.newTok (SubX.trans h4 hu2) (fun j hj=>by cases hj;exact h6) hk22,Store.newTok_get ..,SubX.noTok (SubX.trans h4 hu2) hk22⟩
  ·have R:=hn2;exact cv_
  ·exact Store.Wk.refl _
 ·refine ay_ ?_
  refine af_ ?_
  refine af_ ?_
  refine aq_ ?_
  refine ab_ ?_
  refine ab_ ?_
  skip
  have hs:bd_ f x=if y.2 then (L ++ (aK_ f n y).1,(aK_ f n y).2) else ([],y):=by
   unfold bd_
   rw [hN,hx0]
   dsimp only
   rw [h1]
   cases hy:y.2 with
   |false=>rw [cM_ f hy];simp [hy]
   |true =>
    have:n=0:=by rw [hy] at hc3;simp at hc3;omega
    subst this
    simp [aK_,hy]
  refine r_ ?_
  refine s_ ?_
  refine x_ g_ va_ (fd_ h3) ?_;rintro _ _ ⟨rfl,rfl⟩
  refine aa_ ?_
  refine cd_ (fun hc6=>?_) (fun hc6=>?_)
  ·refine rr_ ?_
   refine s_ ?_
   refine aa_ ?_
   refine ac_ ?_
   rw [hc6] at hs
   refine a2_ (v:=.sl 1 ((bd_ f x).1.map vInt) false) (v':=.lit (.slice none 0 0)) (σ':=τ) va_ ?_ (Store.Wk.refl _) ⟨rfl,?_,h4⟩
   ·rw [hs];exact .nil _ _
   ·rw [hs];exact h3
  ·refine ae_ ?_
   refine rr_ ?_
   iterate 2 refine s_ ?_
   refine aa_ ?_
   refine ac_ ?_
   rw [hc6] at hs
   have hn:n=0:=by rw [hc6] at hc3;simp at hc3;omega
   subst hn
   refine a2_ (v:=.sl 1 ((bd_ f x).1.map vInt) false) (v':=.own k 1 (L.map vInt)) (σ':=τ) va_ ?_ (Store.Wk.refl _) ⟨rfl,?_,h4⟩
   ·rw [hs];simp [aK_];exact .own1 _ _ _
   ·rw [hs];exact h3
theorem oP_ {o G:Nat} {x:Rd} {σ:Store} {fs cp:List AVal} {f:Rd→Seen × Rd} (Kp:Store→Prop) (hgo:isGo Tryz.prog G=true) (hK:∀ τ τ',Kp τ→SubX [o] τ τ'→Kp τ') (ho:σ.heap o=some (rdO x)) (hKσ:Kp σ)
  (hf:∀ τ y,τ.heap o=some (rdO y)→Kp τ→ACalls Tryz.prog G (fs ++ [] ++ cp) τ fun v τ'=>v=aM_ (f y).1∧τ'.heap o=some (rdO (f y).2)∧SubX [o] τ τ') :
  ACalls Tryz.prog 484 [.ref o 0,.fn (.func G) fs cp] σ fun v σ'=>v=.sl 3 ((bd_ f x).1.map aM_) false∧σ'.heap o=some (rdO (bd_ f x).2)∧SubX [o] σ σ':=by
 obtain ⟨N,hN⟩:∃ N,(b7_ x 65536).1=N:=⟨_,rfl⟩
 obtain ⟨x0,hx0⟩:∃ x0,(b7_ x 65536).2=x0:=⟨_,rfl⟩
 have hNb:N≤65536:=by rw [← hN];exact dp_ _ _
 refine en_ Tryz.func484 Tryz.ntmps484 Tryz.results484 ?_
 refine rr_ ?_
 refine s_ ?_
 refine aa_ ?_
 refine rr_ ?_
 refine cq_ 212 3 rfl rfl rfl (by rfl) fun k5 hk5=>?_
 refine aa_ ?_
 refine ab_ ?_
 refine ab_ ?_
 have R:=And.intro hN hx0
 refine r_ ?_
 refine s_ ?_
 refine x_ g_ va_ (cw_ (m:=65536) ho) ?_;rintro _ _ ⟨rfl,rfl⟩
 refine s_ ?_
 refine aa_ ?_
 refine ah_ ?_
 refine ak_ (ι:=Store × Nat × List Seen × Rd × Nat) (fun ⟨τ,n,L,y,k⟩=>n) (fun ⟨τ,n,L,y,k⟩=>aK_ f N x0=(L ++ (aK_ f n y).1,(aK_ f n y).2)∧L.length + n≤65536∧τ.heap o=some (rdO y)∧SubX [o] σ τ∧τ.tok k=some (212,3)∧σ.tok k=none) (fun ⟨τ,n,L,y,k⟩=>[(0,.ref o 0),(1,.fn (.func G) fs cp),(5,.own k 3 (L.map aM_)),(6,vInt n)]) (fun ⟨τ,n,L,y,k⟩=>τ) ((σ.newTok none k5 (212,3)).set o (rdO x0),N,[],x0,k5) ?_ ?_ ?_ ?_
 ·exact ⟨rfl,by simpa using hNb,Store.set_get ..,SubX.trans (bz_ hk5 a5_) SubX.self,by rw [Store.set_tok];exact Store.newTok_get ..,hk5⟩
 ·have R:=hN;exact cv_
 ·rw [hx0];exact Store.Wk.refl _
 rintro ⟨τ,n,L,y,k⟩ ⟨h1,h2,h3,h4,h5,h6⟩
 simp only [ar_,av_]
 refine ab_ ?_
 refine ab_ ?_
 have R:=h3
 refine r_ ?_
 iterate 3 refine s_ ?_
 refine gt_ ?_
 refine bQ_ rfl rfl v_ rfl (fun hb=>aw_ (by rfl) (by rfl) (.inr ⟨by rfl,by rfl,by rfl⟩) g_ cg_ (fd_ h3)) ?_
 refine gt_ ?_
 refine s_ ?_
 refine aa_ ?_
 refine cd_ (fun hc3=>?_) (fun hc3=>?_)
 ·refine ae_ ?_
  refine ab_ ?_
  refine ah_ ?_
  have hn0:0 < n∧y.2=true:=by simpa using hc3
  have hn1:n=(n - 1) + 1:=by omega
  have hn2:(n:Int) - 1=((n - 1:Nat):Int):=by omega
  have hy:=hn0.2
  refine r_ ?_
  iterate 2 refine s_ ?_
  refine aL_X rfl rfl (bu_ rfl rfl (.inl v_) g_ va_ (hf _ _ h3 (hK _ _ hKσ h4)) ?_);rintro _ υ ⟨rfl,hu1,hu2⟩
  refine aJ_ rfl rfl rfl g_ g_ rfl rfl h_ c2_ (by decide) ?_
  have R:=hu2.2 _ _ h5
  refine cp_ rfl rfl rfl g_ g_ v_ h_ v_ c_ (by simp;omega) fun k22 hk22=>?_
  refine s_ ?_
  refine aa_ ?_
  refine r_ ?_
  iterate 3 refine s_ ?_
  refine aa_ ?_
  refine bb_ (ι:=Store × Nat × List Seen × Rd × Nat) (i:=⟨τ,n,L,y,k⟩) (υ.newTok (some k) k22 (212,3),n - 1,L ++ [(f y).1],(f y).2,k22) ?_ ?_ ?_ ?_
  ·show n - 1 < n;omega
  ·exact ⟨by rw [h1,hn1,aK_,hy];simp,by simp;omega,hu1,SubX.newTok (SubX.trans h4 hu2) (fun j hj=>by cases hj;exact h6) hk22,Store.newTok_get ..,SubX.noTok (SubX.trans h4 hu2) hk22⟩
  ·have R:=hn2;exact cv_
  ·exact Store.Wk.refl _
 ·refine ay_ ?_
  refine af_ ?_
  refine af_ ?_
  refine aq_ ?_
  refine ab_ ?_
  refine ab_ ?_
  skip
  have hs:bd_ f x=if y.2 then (L ++ (aK_ f n y).1,(aK_ f n y).2) else ([],y):=by
   unfold bd_
   rw [hN,hx0]
   dsimp only
   rw [h1]
   cases hy:y.2 with
   |false=>rw [cM_ f hy];simp [hy]
   |true =>
    have:n=0:=by rw [hy] at hc3;simp at hc3;omega
    subst this
    simp [aK_,hy]
  refine r_ ?_
  refine s_ ?_
  refine x_ g_ va_ (fd_ h3) ?_;rintro _ _ ⟨rfl,rfl⟩
  refine aa_ ?_
  refine cd_ (fun hc6=>?_) (fun hc6=>?_)
  ·refine rr_ ?_
   refine s_ ?_
   refine aa_ ?_
   refine ac_ ?_
   rw [hc6] at hs
   refine a2_ (v:=.sl 3 ((bd_ f x).1.map aM_) false) (v':=.lit (.slice none 0 0)) (σ':=τ) va_ ?_ (Store.Wk.refl _) ⟨rfl,?_,h4⟩
   ·rw [hs];exact .nil _ _
   ·rw [hs];exact h3
  ·refine ae_ ?_
   refine rr_ ?_
   iterate 2 refine s_ ?_
   refine aa_ ?_
   refine ac_ ?_
   rw [hc6] at hs
   have hn:n=0:=by rw [hc6] at hc3;simp at hc3;omega
   subst hn
   refine a2_ (v:=.sl 3 ((bd_ f x).1.map aM_) false) (v':=.own k 3 (L.map aM_)) (σ':=τ) va_ ?_ (Store.Wk.refl _) ⟨rfl,?_,h4⟩
   ·rw [hs];simp [aK_];exact .own1 _ _ _
   ·rw [hs];exact h3
theorem qL_ {o G:Nat} {x:Rd} {σ:Store} {fs cp:List AVal} {f:Rd→Sib × Rd} (Kp:Store→Prop) (hgo:isGo Tryz.prog G=true) (hK:∀ τ τ',Kp τ→SubX [o] τ τ'→Kp τ') (ho:σ.heap o=some (rdO x)) (hKσ:Kp σ)
  (hf:∀ τ y,τ.heap o=some (rdO y)→Kp τ→ACalls Tryz.prog G (fs ++ [] ++ cp) τ fun v τ'=>v=sSib (f y).1∧τ'.heap o=some (rdO (f y).2)∧SubX [o] τ τ') :
  ACalls Tryz.prog 362 [.ref o 0,.fn (.func G) fs cp] σ fun v σ'=>v=.sl 5 ((bd_ f x).1.map sSib) false∧σ'.heap o=some (rdO (bd_ f x).2)∧SubX [o] σ σ':=by
 obtain ⟨N,hN⟩:∃ N,(b7_ x 65536).1=N:=⟨_,rfl⟩
 obtain ⟨x0,hx0⟩:∃ x0,(b7_ x 65536).2=x0:=⟨_,rfl⟩
 have hNb:N≤65536:=by rw [← hN];exact dp_ _ _
 refine en_ Tryz.func362 Tryz.ntmps362 Tryz.results362 ?_
 refine rr_ ?_
 refine s_ ?_
 refine aa_ ?_
 refine rr_ ?_
 refine cq_ 268 5 rfl rfl rfl (by rfl) fun k5 hk5=>?_
 refine aa_ ?_
 refine ab_ ?_
 refine ab_ ?_
 have R:=And.intro hN hx0
 refine r_ ?_
 refine s_ ?_
 refine x_ g_ va_ (cw_ (m:=65536) ho) ?_;rintro _ _ ⟨rfl,rfl⟩
 refine s_ ?_
 refine aa_ ?_
 refine ah_ ?_
 refine ak_ (ι:=Store × Nat × List Sib × Rd × Nat) (fun ⟨τ,n,L,y,k⟩=>n) (fun ⟨τ,n,L,y,k⟩=>aK_ f N x0=(L ++ (aK_ f n y).1,(aK_ f n y).2)∧L.length + n≤65536∧τ.heap o=some (rdO y)∧SubX [o] σ τ∧τ.tok k=some (268,5)∧σ.tok k=none) (fun ⟨τ,n,L,y,k⟩=>[(0,.ref o 0),(1,.fn (.func G) fs cp),(5,.own k 5 (L.map sSib)),(6,vInt n)]) (fun ⟨τ,n,L,y,k⟩=>τ) ((σ.newTok none k5 (268,5)).set o (rdO x0),N,[],x0,k5) ?_ ?_ ?_ ?_
 ·exact ⟨rfl,by simpa using hNb,Store.set_get ..,SubX.trans (bz_ hk5 a5_) SubX.self,by rw [Store.set_tok];exact Store.newTok_get ..,hk5⟩
 ·have R:=hN;exact cv_
 ·rw [hx0];exact Store.Wk.refl _
 rintro ⟨τ,n,L,y,k⟩ ⟨h1,h2,h3,h4,h5,h6⟩
 simp only [ar_,av_]
 refine ab_ ?_
 refine ab_ ?_
 have R:=h3
 refine r_ ?_
 iterate 3 refine s_ ?_
 refine gt_ ?_
 refine bQ_ rfl rfl v_ rfl (fun hb=>aw_ (by rfl) (by rfl) (.inr ⟨by rfl,by rfl,by rfl⟩) g_ cg_ (fd_ h3)) ?_
 refine gt_ ?_
 refine s_ ?_
 refine aa_ ?_
 refine cd_ (fun hc3=>?_) (fun hc3=>?_)
 ·refine ae_ ?_
  refine ab_ ?_
  refine ah_ ?_
  have hn0:0 < n∧y.2=true:=by simpa using hc3
  have hn1:n=(n - 1) + 1:=by omega
  have hn2:(n:Int) - 1=((n - 1:Nat):Int):=by omega
  have hy:=hn0.2
  refine r_ ?_
  iterate 2 refine s_ ?_
  refine aL_X rfl rfl (bu_ rfl rfl (.inl v_) g_ va_ (hf _ _ h3 (hK _ _ hKσ h4)) ?_);rintro _ υ ⟨rfl,hu1,hu2⟩
  refine aJ_ rfl rfl rfl g_ g_ rfl rfl h_ c2_ (by decide) ?_
  have R:=hu2.2 _ _ h5
  refine cp_ rfl rfl rfl g_ g_ v_ h_ v_ c_ (by simp;omega) fun k22 hk22=>?_
  refine s_ ?_
  refine aa_ ?_
  refine r_ ?_
  iterate 3 refine s_ ?_
  refine aa_ ?_
  refine bb_ (ι:=Store × Nat × List Sib × Rd × Nat) (i:=⟨τ,n,L,y,k⟩) (υ.newTok (some k) k22 (268,5),n - 1,L ++ [(f y).1],(f y).2,k22) ?_ ?_ ?_ ?_
  ·show n - 1 < n;omega
  ·exact ⟨by rw [h1,hn1,aK_,hy];simp,by simp;omega,hu1,SubX.newTok (SubX.trans h4 hu2) (fun j hj=>by cases hj;exact h6) hk22,Store.newTok_get ..,SubX.noTok (SubX.trans h4 hu2) hk22⟩
  ·have R:=hn2;exact cv_
  ·exact Store.Wk.refl _
 ·refine ay_ ?_
  refine af_ ?_
  refine af_ ?_
  refine aq_ ?_
  refine ab_ ?_
  refine ab_ ?_
  skip
  have hs:bd_ f x=if y.2 then (L ++ (aK_ f n y).1,(aK_ f n y).2) else ([],y):=by
   unfold bd_
   rw [hN,hx0]
   dsimp only
   rw [h1]
   cases hy:y.2 with
   |false=>rw [cM_ f hy];simp [hy]
   |true =>
    have:n=0:=by rw [hy] at hc3;simp at hc3;omega
    subst this
    simp [aK_,hy]
  refine r_ ?_
  refine s_ ?_
  refine x_ g_ va_ (fd_ h3) ?_;rintro _ _ ⟨rfl,rfl⟩
  refine aa_ ?_
  refine cd_ (fun hc6=>?_) (fun hc6=>?_)
  ·refine rr_ ?_
   refine s_ ?_
   refine aa_ ?_
   refine ac_ ?_
   rw [hc6] at hs
   refine a2_ (v:=.sl 5 ((bd_ f x).1.map sSib) false) (v':=.lit (.slice none 0 0)) (σ':=τ) va_ ?_ (Store.Wk.refl _) ⟨rfl,?_,h4⟩
   ·rw [hs];exact .nil _ _
   ·rw [hs];exact h3
  ·refine ae_ ?_
   refine rr_ ?_
   iterate 2 refine s_ ?_
   refine aa_ ?_
   refine ac_ ?_
   rw [hc6] at hs
   have hn:n=0:=by rw [hc6] at hc3;simp at hc3;omega
   subst hn
   refine a2_ (v:=.sl 5 ((bd_ f x).1.map sSib) false) (v':=.own k 5 (L.map sSib)) (σ':=τ) va_ ?_ (Store.Wk.refl _) ⟨rfl,?_,h4⟩
   ·rw [hs];simp [aK_];exact .own1 _ _ _
   ·rw [hs];exact h3
def rdI8 (x:Rd):Int × Rd:=aV_ x 8
def eP_ (x:Rd):Seen × Rd :=
 let a:=al_ x;let b:=aV_ a.2 8;let c:=bd_ rdI8 b.2
 (⟨B a.1,b.1,c.1⟩,c.2)
def dq_ (x:Rd):List Seen × Rd:=bd_ eP_ x
def d0_ (x:Rd):Sib × Rd :=
 let a:=al_ x;let b:=aV_ a.2 8;let c:=al_ b.2;let d:=aV_ c.2 1;let e:=aV_ d.2 8
 (⟨B a.1,b.1,B c.1,!decide (d.1=0),e.1⟩,e.2)
def c7_ (x:Rd):Obj' × Rd :=
 let c:=dq_ x;let l:=bd_ d0_ c.2
 if l.2.2 then (⟨c.1,l.1⟩,l.2) else (⟨[],[]⟩,l.2)
theorem keep {l:List Nat} {a b:Store} {i:Nat} {x:AObj} (h:SubX l a b) (hx:a.heap i=some x) (hi:i ∉ l):b.heap i=some x:=h.1 i x hi hx
theorem jX_ {o:Nat} {x:Rd} {σ:Store} (ho:σ.heap o=some (rdO x)):ACalls Tryz.prog 206 ([.ref o 0] ++ [] ++ []) σ fun v σ'=>v=vInt (rdI8 x).1∧σ'.heap o=some (rdO (rdI8 x).2)∧SubX [o] σ σ' :=
 (cz_ ho).mono fun v τ ⟨h1,h2⟩=>⟨h1,by rw [h2];exact Store.set_get ..,by rw [h2];exact SubX.self⟩
theorem md_ {o ob:Nat} {x:Rd} {σ:Store} (ho:σ.heap o=some (rdO x)) (hb:σ.heap ob=some (.cells [.ref o 0])):ACalls Tryz.prog 485 [.ref ob 0] σ fun v σ'=>v=aM_ (eP_ x).1∧σ'.heap o=some (rdO (eP_ x).2)∧SubX [o] σ σ':=by
 have hne:ob≠o:=fun hh=>by rw [hh,ho] at hb;cases hb
 refine en_ Tryz.func485 Tryz.ntmps485 Tryz.results485 ?_
 refine rr_ ?_
 refine lc_ fun o1 ho1=>?_
 repeat (rw [ad_] at ho1;obtain ⟨_,ho1⟩:=ho1)
 refine aa_ ?_
 have n1:=an_ ho ho1
 have n1b:=an_ hb ho1
 refine rr_ ?_
 refine lc_ fun o2 ho2=>?_
 repeat (rw [ad_] at ho2;obtain ⟨_,ho2⟩:=ho2)
 refine aa_ ?_
 have n2:=an_ ho ho2
 have n2b:=an_ hb ho2
 refine ab_ ?_
 have R:=hb
 refine aL_ (.alt 0 2 (.alt 1 2 (.op 4 0 (.op 2 2 (.op 3 2 (.op 5 2 (.op 6 0 (.op 7 2 .nil)))))) (.op 2 2 (.op 1 2 (.op 4 0 (.op 3 2 (.op 5 2 (.op 6 0 (.op 7 2 .nil)))))))) (.op 2 2 (.op 0 2 (.op 1 2 (.op 4 0 (.op 3 2 (.op 5 2 (.op 6 0 (.op 7 2 .nil))))))))) Tryz.mixed kr_ ?_
 refine a3_ ?_ ?_
 ·refine dR_T o_ (by rfl) (by rfl) (ao_ v_ ?_)
  refine a3_ ?_ ?_
  ·refine tx_ o_ g_ va_ (a9_ (x:=x) (by first | exact ho | simp (disch:=omega) only [Store.set_ne,ho])) ?_;rintro _ _ ⟨rfl,rfl⟩
   refine ds_ ?_
   refine dR_T o_ (by rfl) (by rfl) (ao_ v_ ?_)
   refine tx_ o_ g_ va_ (cz_ (Store.set_get ..)) ?_;rintro _ _ ⟨rfl,rfl⟩
   refine dst_ ?_
   refine ds_ ?_
   refine dst_ ?_
   refine aG_ ?_
   refine ab_ ?_
   have R:=hb
   refine r_ ?_
   iterate 3 refine s_ ?_
   refine x_ g_ va_ (h8_ (x:=(aV_ (al_ x).2 8).2) (f:=rdI8) (fun _=>True) kr_ (fun _ _ _ _=>trivial) h_ trivial (fun _ _ h _=>jX_ h)) ?_;rintro _ υ ⟨rfl,u1,u2⟩
   have R:=And.intro (keep (i:=o1) u2 h_ (by simp;omega)) (keep (i:=o2) u2 h_ (by simp;omega))
   refine s_ ?_
   refine st_ ?_
   refine aa_ ?_
   refine ab_ ?_
   have R:=And.intro @R.1 @R.2
   refine r_ ?_
   refine s_ ?_
   refine st_ ?_
   refine aa_ ?_
   refine ac_ ?_
   refine aE_ v_ (Store.Wk.refl _) ?_
   refine ⟨rfl,by simp (disch:=omega) only [Store.set_ne,u1];rfl,?_⟩
   exact ai_ ho1 (ai_ ho2 (SubX.trans sub_ u2))
  refine dR_T o_ (by rfl) (by rfl) (ao_ v_ ?_)
  refine tx_ o_ g_ va_ (a9_ (x:=x) (by first | exact ho | simp (disch:=omega) only [Store.set_ne,ho])) ?_;rintro _ _ ⟨rfl,rfl⟩
  refine ds_ ?_
  refine tx_ o_ g_ va_ (cz_ (Store.set_get ..)) ?_;rintro _ _ ⟨rfl,rfl⟩
  refine dst_ ?_
  refine ds_ ?_
  refine dst_ ?_
  refine aG_ ?_
  refine ab_ ?_
  have R:=hb
  refine r_ ?_
  iterate 3 refine s_ ?_
  refine x_ g_ va_ (h8_ (x:=(aV_ (al_ x).2 8).2) (f:=rdI8) (fun _=>True) kr_ (fun _ _ _ _=>trivial) h_ trivial (fun _ _ h _=>jX_ h)) ?_;rintro _ υ ⟨rfl,u1,u2⟩
  have R:=And.intro (keep (i:=o1) u2 h_ (by simp;omega)) (keep (i:=o2) u2 h_ (by simp;omega))
  refine s_ ?_
  refine st_ ?_
  refine aa_ ?_
  refine ab_ ?_
  have R:=And.intro @R.1 @R.2
  refine r_ ?_
  refine s_ ?_
  refine st_ ?_
  refine aa_ ?_
  refine ac_ ?_
  refine aE_ v_ (Store.Wk.refl _) ?_
  refine ⟨rfl,by simp (disch:=omega) only [Store.set_ne,u1];rfl,?_⟩
  exact ai_ ho1 (ai_ ho2 (SubX.trans sub_ u2))
 refine dR_T o_ (by rfl) (by rfl) (ao_ v_ ?_)
 refine dR_T o_ (by rfl) (by rfl) (ao_ v_ ?_)
 refine tx_ o_ g_ va_ (a9_ (x:=x) (by first | exact ho | simp (disch:=omega) only [Store.set_ne,ho])) ?_;rintro _ _ ⟨rfl,rfl⟩
 refine ds_ ?_
 refine tx_ o_ g_ va_ (cz_ (Store.set_get ..)) ?_;rintro _ _ ⟨rfl,rfl⟩
 refine dst_ ?_
 refine ds_ ?_
 refine dst_ ?_
 refine aG_ ?_
 refine ab_ ?_
 have R:=hb
 refine r_ ?_
 iterate 3 refine s_ ?_
 refine x_ g_ va_ (h8_ (x:=(aV_ (al_ x).2 8).2) (f:=rdI8) (fun _=>True) kr_ (fun _ _ _ _=>trivial) h_ trivial (fun _ _ h _=>jX_ h)) ?_;rintro _ υ ⟨rfl,u1,u2⟩
 have R:=And.intro (keep (i:=o1) u2 h_ (by simp;omega)) (keep (i:=o2) u2 h_ (by simp;omega))
 refine s_ ?_
 refine st_ ?_
 refine aa_ ?_
 refine ab_ ?_
 have R:=And.intro @R.1 @R.2
 refine r_ ?_
 refine s_ ?_
 refine st_ ?_
 refine aa_ ?_
 refine ac_ ?_
 refine aE_ v_ (Store.Wk.refl _) ?_
 refine ⟨rfl,by simp (disch:=omega) only [Store.set_ne,u1];rfl,?_⟩
 exact ai_ ho1 (ai_ ho2 (SubX.trans sub_ u2))
theorem oC_ {o:Nat} {x:Rd} {σ:Store} (ho:σ.heap o=some (rdO x)):ACalls Tryz.prog 361 [.ref o 0] σ fun v σ'=>v=.sl 3 ((dq_ x).1.map aM_) false∧σ'.heap o=some (rdO (dq_ x).2)∧SubX [o] σ σ':=by
 refine en_ Tryz.func361 Tryz.ntmps361 Tryz.results361 ?_
 refine rr_ ?_
 refine bx_ fun o1 ho1=>?_
 repeat (rw [ad_] at ho1;obtain ⟨_,ho1⟩:=ho1)
 refine s_ ?_
 refine aa_ ?_
 have n1:=an_ ho ho1
 refine ab_ ?_
 have R:=ho
 refine r_ ?_
 iterate 2 refine s_ ?_
 refine x_ g_ va_ (oP_ (x:=x) (f:=eP_) (fun τ=>τ.heap o1=some (.cells [.ref o 0])) kr_ (fun _ _ h k=>keep k h (by simp;omega)) h_ h_ (fun _ _ h k=>md_ h k)) ?_;rintro _ υ ⟨rfl,u1,u2⟩
 refine s_ ?_
 refine aa_ ?_
 refine ac_ ?_
 refine aE_ v_ (Store.Wk.refl _) ?_
 exact ⟨rfl,u1,SubX.trans (ai_ ho1 a5_) u2⟩
theorem oF_ {o ob:Nat} {x:Rd} {σ:Store} (ho:σ.heap o=some (rdO x)) (hb:σ.heap ob=some (.cells [.ref o 0])):ACalls Tryz.prog 363 [.ref ob 0] σ fun v σ'=>v=sSib (d0_ x).1∧σ'.heap o=some (rdO (d0_ x).2)∧SubX [o] σ σ':=by
 have hne:ob≠o:=fun hh=>by rw [hh,ho] at hb;cases hb
 obtain ⟨z,hz⟩:∃ z,AObj.cells [.lit (.string ⟨#[]⟩),.lit (.int .i64 0),.lit (.string ⟨#[]⟩),.lit (.bool false),.lit (.int .i64 0)]=z:=⟨_,rfl⟩
 obtain ⟨x1,e1⟩:∃ x1,aV_ (al_ x).2 8=x1:=⟨_,rfl⟩
 obtain ⟨x2,e2⟩:∃ x2,al_ x1.2=x2:=⟨_,rfl⟩
 obtain ⟨x3,e3⟩:∃ x3,aV_ x2.2 1=x3:=⟨_,rfl⟩
 refine en_ Tryz.func363 Tryz.ntmps363 Tryz.results363 ?_
 refine rr_ ?_
 refine lc_ fun o1 ho1=>?_
 repeat (rw [ad_] at ho1;obtain ⟨_,ho1⟩:=ho1)
 refine aa_ ?_
 have n1:=an_ ho ho1
 have n1b:=an_ hb ho1
 refine rr_ ?_
 refine lc_ fun o2 ho2=>?_
 repeat (rw [ad_] at ho2;obtain ⟨_,ho2⟩:=ho2)
 refine aa_ ?_
 have n2:=an_ ho ho2
 have n2b:=an_ hb ho2
 refine bw_ (ι:=Store) (fun υ=>υ.heap o=some (rdO x1.2)∧υ.heap ob=some (.cells [.ref o 0])∧υ.heap o1=some z∧υ.heap o2=some (.cells [vStr (B (al_ x).1),vInt x1.1,.lit (.string ⟨#[]⟩),.lit (.bool false),.lit (.int .i64 0)])∧SubX [o] σ υ) (fun υ=>[(0,.ref ob 0),(1,.ref o1 0),(2,.ref o2 0)]) (fun υ=>υ) ?_ ?_
 ·have R:=hb
  refine aL_ (.alt 0 2 (.alt 1 2 (.op 4 0 (.op 5 0 (.op 2 2 (.op 3 2 (.op 6 2 (.op 7 0 (.op 8 0 (.op 9 2 .nil)))))))) (.op 2 2 (.op 1 2 (.op 4 0 (.op 5 0 (.op 3 2 (.op 6 2 (.op 7 0 (.op 8 0 (.op 9 2 .nil)))))))))) (.op 2 2 (.op 0 2 (.op 1 2 (.op 4 0 (.op 5 0 (.op 3 2 (.op 6 2 (.op 7 0 (.op 8 0 (.op 9 2 .nil))))))))))) Tryz.mixed kr_ ?_
  refine a3_ ?_ ?_
  ·refine dR_T o_ (by rfl) (by rfl) (ao_ v_ ?_)
   refine a3_ ?_ ?_
   ·refine tx_ o_ g_ va_ (a9_ (x:=x) (by first | exact ho | simp (disch:=omega) only [Store.set_ne,ho])) ?_;rintro _ _ ⟨rfl,rfl⟩
    iterate 2 refine ds_ ?_
    refine dR_T o_ (by rfl) (by rfl) (ao_ v_ ?_)
    refine tx_ o_ g_ va_ (cz_ (Store.set_get ..)) ?_;rintro _ _ ⟨rfl,rfl⟩
    refine dst_ ?_
    iterate 2 refine ds_ ?_
    refine dst_ ?_
    refine aG_ ?_
    refine ⟨((((((σ.set o1 (AObj.cells [.lit (.string ⟨#[]⟩),.lit (.int .i64 0),.lit (.string ⟨#[]⟩),.lit (.bool false),.lit (.int .i64 0)])).set o2 (AObj.cells [.lit (.string ⟨#[]⟩),.lit (.int .i64 0),.lit (.string ⟨#[]⟩),.lit (.bool false),.lit (.int .i64 0)])).set o (rdO (al_ x).2)).set o (rdO (aV_ (al_ x).2 8).2)).set o2 (.cells [vStr (B (al_ x).1),.lit (.int .i64 0),.lit (.string ⟨#[]⟩),.lit (.bool false),.lit (.int .i64 0)])).set o2 (.cells [vStr (B (al_ x).1),vInt (aV_ (al_ x).2 8).1,.lit (.string ⟨#[]⟩),.lit (.bool false),.lit (.int .i64 0)])),?_,?_,?_⟩
    ·rw [← e1,← hz];exact ⟨h_,h_,h_,h_,sub_⟩
    ·exact cv_
    ·exact Store.Wk.refl _
   refine dR_T o_ (by rfl) (by rfl) (ao_ v_ ?_)
   refine tx_ o_ g_ va_ (a9_ (x:=x) (by first | exact ho | simp (disch:=omega) only [Store.set_ne,ho])) ?_;rintro _ _ ⟨rfl,rfl⟩
   iterate 2 refine ds_ ?_
   refine tx_ o_ g_ va_ (cz_ (Store.set_get ..)) ?_;rintro _ _ ⟨rfl,rfl⟩
   refine dst_ ?_
   iterate 2 refine ds_ ?_
   refine dst_ ?_
   refine aG_ ?_
   refine ⟨((((((σ.set o1 (AObj.cells [.lit (.string ⟨#[]⟩),.lit (.int .i64 0),.lit (.string ⟨#[]⟩),.lit (.bool false),.lit (.int .i64 0)])).set o2 (AObj.cells [.lit (.string ⟨#[]⟩),.lit (.int .i64 0),.lit (.string ⟨#[]⟩),.lit (.bool false),.lit (.int .i64 0)])).set o (rdO (al_ x).2)).set o (rdO (aV_ (al_ x).2 8).2)).set o2 (.cells [vStr (B (al_ x).1),.lit (.int .i64 0),.lit (.string ⟨#[]⟩),.lit (.bool false),.lit (.int .i64 0)])).set o2 (.cells [vStr (B (al_ x).1),vInt (aV_ (al_ x).2 8).1,.lit (.string ⟨#[]⟩),.lit (.bool false),.lit (.int .i64 0)])),?_,?_,?_⟩
   ·rw [← e1,← hz];exact ⟨h_,h_,h_,h_,sub_⟩
   ·exact cv_
   ·exact Store.Wk.refl _
  refine dR_T o_ (by rfl) (by rfl) (ao_ v_ ?_)
  refine dR_T o_ (by rfl) (by rfl) (ao_ v_ ?_)
  refine tx_ o_ g_ va_ (a9_ (x:=x) (by first | exact ho | simp (disch:=omega) only [Store.set_ne,ho])) ?_;rintro _ _ ⟨rfl,rfl⟩
  iterate 2 refine ds_ ?_
  refine tx_ o_ g_ va_ (cz_ (Store.set_get ..)) ?_;rintro _ _ ⟨rfl,rfl⟩
  refine dst_ ?_
  iterate 2 refine ds_ ?_
  refine dst_ ?_
  refine aG_ ?_
  refine ⟨((((((σ.set o1 (AObj.cells [.lit (.string ⟨#[]⟩),.lit (.int .i64 0),.lit (.string ⟨#[]⟩),.lit (.bool false),.lit (.int .i64 0)])).set o2 (AObj.cells [.lit (.string ⟨#[]⟩),.lit (.int .i64 0),.lit (.string ⟨#[]⟩),.lit (.bool false),.lit (.int .i64 0)])).set o (rdO (al_ x).2)).set o (rdO (aV_ (al_ x).2 8).2)).set o2 (.cells [vStr (B (al_ x).1),.lit (.int .i64 0),.lit (.string ⟨#[]⟩),.lit (.bool false),.lit (.int .i64 0)])).set o2 (.cells [vStr (B (al_ x).1),vInt (aV_ (al_ x).2 8).1,.lit (.string ⟨#[]⟩),.lit (.bool false),.lit (.int .i64 0)])),?_,?_,?_⟩
  ·rw [← e1,← hz];exact ⟨h_,h_,h_,h_,sub_⟩
  ·exact cv_
  ·exact Store.Wk.refl _
 ·rintro υ ⟨u1,u2,u3,u4,u5⟩
  simp only [ar_,av_]
  refine bw_ (ι:=Store) (fun φ=>φ.heap o=some (rdO x3.2)∧φ.heap ob=some (.cells [.ref o 0])∧φ.heap o1=some z∧φ.heap o2=some (.cells [vStr (B (al_ x).1),vInt x1.1,vStr (B x2.1),.lit (.bool (!decide (x3.1=0))),.lit (.int .i64 0)])∧SubX [o] σ φ) (fun φ=>[(0,.ref ob 0),(1,.ref o1 0),(2,.ref o2 0)]) (fun φ=>φ) ?_ ?_
  ·have R:=And.intro u2 u4
   refine aL_ (.alt 0 2 (.alt 1 2 (.op 5 0 (.op 2 2 (.op 3 2 (.alt 4 2 (.op 6 2 (.op 7 0 (.op 8 2 .nil))) (.op 6 2 (.op 4 2 (.op 7 0 (.op 8 2 .nil)))))))) (.op 2 2 (.op 1 2 (.op 5 0 (.op 3 2 (.alt 4 2 (.op 6 2 (.op 7 0 (.op 8 2 .nil))) (.op 6 2 (.op 4 2 (.op 7 0 (.op 8 2 .nil)))))))))) (.op 2 2 (.op 0 2 (.op 1 2 (.op 5 0 (.op 3 2 (.alt 4 2 (.op 6 2 (.op 7 0 (.op 8 2 .nil))) (.op 6 2 (.op 4 2 (.op 7 0 (.op 8 2 .nil))))))))))) Tryz.mixed kr_ ?_
   refine a3_ ?_ ?_
   ·refine dR_T o_ (by rfl) (by rfl) (ao_ v_ ?_)
    refine a3_ ?_ ?_
    ·refine tx_ o_ g_ va_ (a9_ (x:=x1.2) (by simp (disch:=omega) only [Store.set_ne,u1])) ?_;rintro _ _ ⟨rfl,rfl⟩
     refine ds_ ?_
     refine dR_T o_ (by rfl) (by rfl) (ao_ v_ ?_)
     refine tx_ o_ g_ va_ (fL_ (Store.set_get ..)) ?_;rintro _ _ ⟨rfl,rfl⟩
     refine a3_ ?_ ?_
     ·refine dR_T o_ (by rfl) (by rfl) (ao_ v_ ?_)
      refine dst_ ?_
      refine ds_ ?_
      refine dst_ ?_
      refine aG_ ?_
      refine ⟨((((υ.set o (rdO (al_ x1.2).2)).set o (rdO (aV_ (al_ x1.2).2 1).2)).set o2 (.cells [vStr (B (al_ x).1),vInt x1.1,vStr (B (al_ x1.2).1),.lit (.bool false),.lit (.int .i64 0)])).set o2 (.cells [vStr (B (al_ x).1),vInt x1.1,vStr (B (al_ x1.2).1),.lit (.bool (!decide ((aV_ (al_ x1.2).2 1).1=0))),.lit (.int .i64 0)])),?_,?_,?_⟩
      ·rw [← e3,← e2];exact ⟨by simp (disch:=omega) only [Store.set_ne,Store.set_get],by simp (disch:=omega) only [Store.set_ne,u2],by simp (disch:=omega) only [Store.set_ne,u3],h_,ai_ ho2 (ai_ ho2 (az_ (.head _) (az_ (.head _) u5)))⟩
      ·exact cv_
      ·exact Store.Wk.refl _
     refine dst_ ?_
     refine dR_T o_ (by rfl) (by rfl) (ao_ v_ ?_)
     refine ds_ ?_
     refine dst_ ?_
     refine aG_ ?_
     refine ⟨((((υ.set o (rdO (al_ x1.2).2)).set o (rdO (aV_ (al_ x1.2).2 1).2)).set o2 (.cells [vStr (B (al_ x).1),vInt x1.1,vStr (B (al_ x1.2).1),.lit (.bool false),.lit (.int .i64 0)])).set o2 (.cells [vStr (B (al_ x).1),vInt x1.1,vStr (B (al_ x1.2).1),.lit (.bool (!decide ((aV_ (al_ x1.2).2 1).1=0))),.lit (.int .i64 0)])),?_,?_,?_⟩
     ·rw [← e3,← e2];exact ⟨by simp (disch:=omega) only [Store.set_ne,Store.set_get],by simp (disch:=omega) only [Store.set_ne,u2],by simp (disch:=omega) only [Store.set_ne,u3],h_,ai_ ho2 (ai_ ho2 (az_ (.head _) (az_ (.head _) u5)))⟩
     ·exact cv_
     ·exact Store.Wk.refl _
    refine dR_T o_ (by rfl) (by rfl) (ao_ v_ ?_)
    refine tx_ o_ g_ va_ (a9_ (x:=x1.2) (by simp (disch:=omega) only [Store.set_ne,u1])) ?_;rintro _ _ ⟨rfl,rfl⟩
    refine ds_ ?_
    refine tx_ o_ g_ va_ (fL_ (Store.set_get ..)) ?_;rintro _ _ ⟨rfl,rfl⟩
    refine a3_ ?_ ?_
    ·refine dR_T o_ (by rfl) (by rfl) (ao_ v_ ?_)
     refine dst_ ?_
     refine ds_ ?_
     refine dst_ ?_
     refine aG_ ?_
     refine ⟨((((υ.set o (rdO (al_ x1.2).2)).set o (rdO (aV_ (al_ x1.2).2 1).2)).set o2 (.cells [vStr (B (al_ x).1),vInt x1.1,vStr (B (al_ x1.2).1),.lit (.bool false),.lit (.int .i64 0)])).set o2 (.cells [vStr (B (al_ x).1),vInt x1.1,vStr (B (al_ x1.2).1),.lit (.bool (!decide ((aV_ (al_ x1.2).2 1).1=0))),.lit (.int .i64 0)])),?_,?_,?_⟩
     ·rw [← e3,← e2];exact ⟨by simp (disch:=omega) only [Store.set_ne,Store.set_get],by simp (disch:=omega) only [Store.set_ne,u2],by simp (disch:=omega) only [Store.set_ne,u3],h_,ai_ ho2 (ai_ ho2 (az_ (.head _) (az_ (.head _) u5)))⟩
     ·exact cv_
     ·exact Store.Wk.refl _
    refine dst_ ?_
    refine dR_T o_ (by rfl) (by rfl) (ao_ v_ ?_)
    refine ds_ ?_
    refine dst_ ?_
    refine aG_ ?_
    refine ⟨((((υ.set o (rdO (al_ x1.2).2)).set o (rdO (aV_ (al_ x1.2).2 1).2)).set o2 (.cells [vStr (B (al_ x).1),vInt x1.1,vStr (B (al_ x1.2).1),.lit (.bool false),.lit (.int .i64 0)])).set o2 (.cells [vStr (B (al_ x).1),vInt x1.1,vStr (B (al_ x1.2).1),.lit (.bool (!decide ((aV_ (al_ x1.2).2 1).1=0))),.lit (.int .i64 0)])),?_,?_,?_⟩
    ·rw [← e3,← e2];exact ⟨by simp (disch:=omega) only [Store.set_ne,Store.set_get],by simp (disch:=omega) only [Store.set_ne,u2],by simp (disch:=omega) only [Store.set_ne,u3],h_,ai_ ho2 (ai_ ho2 (az_ (.head _) (az_ (.head _) u5)))⟩
    ·exact cv_
    ·exact Store.Wk.refl _
   refine dR_T o_ (by rfl) (by rfl) (ao_ v_ ?_)
   refine dR_T o_ (by rfl) (by rfl) (ao_ v_ ?_)
   refine tx_ o_ g_ va_ (a9_ (x:=x1.2) (by simp (disch:=omega) only [Store.set_ne,u1])) ?_;rintro _ _ ⟨rfl,rfl⟩
   refine ds_ ?_
   refine tx_ o_ g_ va_ (fL_ (Store.set_get ..)) ?_;rintro _ _ ⟨rfl,rfl⟩
   refine a3_ ?_ ?_
   ·refine dR_T o_ (by rfl) (by rfl) (ao_ v_ ?_)
    refine dst_ ?_
    refine ds_ ?_
    refine dst_ ?_
    refine aG_ ?_
    refine ⟨((((υ.set o (rdO (al_ x1.2).2)).set o (rdO (aV_ (al_ x1.2).2 1).2)).set o2 (.cells [vStr (B (al_ x).1),vInt x1.1,vStr (B (al_ x1.2).1),.lit (.bool false),.lit (.int .i64 0)])).set o2 (.cells [vStr (B (al_ x).1),vInt x1.1,vStr (B (al_ x1.2).1),.lit (.bool (!decide ((aV_ (al_ x1.2).2 1).1=0))),.lit (.int .i64 0)])),?_,?_,?_⟩
    ·rw [← e3,← e2];exact ⟨by simp (disch:=omega) only [Store.set_ne,Store.set_get],by simp (disch:=omega) only [Store.set_ne,u2],by simp (disch:=omega) only [Store.set_ne,u3],h_,ai_ ho2 (ai_ ho2 (az_ (.head _) (az_ (.head _) u5)))⟩
    ·exact cv_
    ·exact Store.Wk.refl _
   refine dst_ ?_
   refine dR_T o_ (by rfl) (by rfl) (ao_ v_ ?_)
   refine ds_ ?_
   refine dst_ ?_
   refine aG_ ?_
   refine ⟨((((υ.set o (rdO (al_ x1.2).2)).set o (rdO (aV_ (al_ x1.2).2 1).2)).set o2 (.cells [vStr (B (al_ x).1),vInt x1.1,vStr (B (al_ x1.2).1),.lit (.bool false),.lit (.int .i64 0)])).set o2 (.cells [vStr (B (al_ x).1),vInt x1.1,vStr (B (al_ x1.2).1),.lit (.bool (!decide ((aV_ (al_ x1.2).2 1).1=0))),.lit (.int .i64 0)])),?_,?_,?_⟩
   ·rw [← e3,← e2];exact ⟨by simp (disch:=omega) only [Store.set_ne,Store.set_get],by simp (disch:=omega) only [Store.set_ne,u2],by simp (disch:=omega) only [Store.set_ne,u3],h_,ai_ ho2 (ai_ ho2 (az_ (.head _) (az_ (.head _) u5)))⟩
   ·exact cv_
   ·exact Store.Wk.refl _
  ·rintro φ ⟨q1,q2,q3,q4,q5⟩
   simp only [ar_,av_]
   refine ab_ ?_
   have R:=And.intro q2 q4
   refine r_ ?_
   refine s_ ?_
   refine x_ g_ va_ (cz_ (x:=x3.2) q1) ?_;rintro _ _ ⟨rfl,rfl⟩
   refine s_ ?_
   refine st_ ?_
   refine aa_ ?_
   refine ab_ ?_
   have q3':φ.heap o1=some (.cells [.lit (.string ⟨#[]⟩),.lit (.int .i64 0),.lit (.string ⟨#[]⟩),.lit (.bool false),.lit (.int .i64 0)]):=by rw [q3,hz]
   have R:=And.intro q3' q4
   refine r_ ?_
   refine s_ ?_
   refine st_ ?_
   refine aa_ ?_
   refine ac_ ?_
   refine aE_ v_ (Store.Wk.refl _) ?_
   refine ⟨by rw [← e1] at e2;subst e2;subst e1;subst e3;rfl,by simp (disch:=omega) only [Store.set_ne,Store.set_get];rw [← e3,← e2,← e1];rfl,ai_ ho1 (ai_ ho2 (az_ (.head _) q5))⟩
theorem oE_ {o:Nat} {x:Rd} {σ:Store} (ho:σ.heap o=some (rdO x)):ACalls Tryz.prog 201 [.ref o 0] σ fun v σ'=>v=sObj (c7_ x).1∧σ'.heap o=some (rdO (c7_ x).2)∧SubX [o] σ σ':=by
 refine en_ Tryz.func201 Tryz.ntmps201 Tryz.results201 ?_
 refine rr_ ?_
 refine bx_ fun o1 ho1=>?_
 repeat (rw [ad_] at ho1;obtain ⟨_,ho1⟩:=ho1)
 refine lc_ fun o2 ho2=>?_
 repeat (rw [ad_] at ho2;obtain ⟨_,ho2⟩:=ho2)
 refine aa_ ?_
 have n1:=an_ ho ho1
 have n2:=an_ ho ho2
 refine ab_ ?_
 have R:=ho
 refine r_ ?_
 refine s_ ?_
 refine x_ g_ va_ (oC_ (x:=x) h_) ?_;rintro _ υ ⟨rfl,u1,u2⟩
 have k1:=keep (i:=o1) (x:=.cells [.ref o 0]) u2 h_ (by simp;omega)
 have k2:=keep (i:=o2) (x:=.cells [.lit (.slice none 0 0),.lit (.slice none 0 0)]) u2 h_ (by simp;omega)
 have R:=And.intro k1 k2
 refine s_ ?_
 refine lc_ fun o3 ho3=>?_
 repeat (rw [ad_] at ho3;obtain ⟨_,ho3⟩:=ho3)
 refine st_ ?_
 refine aa_ ?_
 have m1:=an_ k1 ho3
 have m2:=an_ k2 ho3
 have m3:=an_ u1 ho3
 refine ab_ ?_
 have R:=And.intro k1 (And.intro k2 u1)
 refine r_ ?_
 iterate 2 refine s_ ?_
 refine x_ g_ va_ (qL_ (x:=(dq_ x).2) (f:=d0_) (fun τ=>τ.heap o1=some (.cells [.ref o 0])) kr_ (fun _ _ h k=>keep k h (by simp;omega)) h_ h_ (fun _ _ h k=>oF_ h k)) ?_;rintro _ φ ⟨rfl,q1,q2⟩
 have l1:=keep (i:=o1) (x:=.cells [.ref o 0]) q2 h_ (by simp;omega)
 have l2:=keep (i:=o2) (x:=.cells [.lit (.slice none 0 0),.lit (.slice none 0 0)]) q2 h_ (by simp;omega)
 have l3:=keep (i:=o3) (x:=.cells [.sl 3 ((dq_ x).1.map aM_) false,.lit (.slice none 0 0)]) q2 h_ (by simp;omega)
 have R:=l3
 refine s_ ?_
 refine st_ ?_
 refine aa_ ?_
 refine ab_ ?_
 refine ab_ ?_
 have hs0:SubX [o] σ φ:=SubX.trans (SubX.trans (ai_ ho2 (ai_ ho1 a5_)) u2) (SubX.trans (ai_ ho3 (ai_ ho3 a5_)) q2)
 have hn3:σ.heap o3=none:=by
  cases hh:σ.heap o3 with
  |none=>rfl
  |some y =>
   have h1:((σ.set o1 (.cells [.ref o 0])).set o2 (.cells [.lit (.slice none 0 0),.lit (.slice none 0 0)])).heap o3=some y:=by simp (disch:=omega) only [Store.set_ne,hh]
   have:=u2.1 o3 y (by simp;omega) h1
   rw [ho3] at this;cases this
 have R:=l1
 refine r_ ?_
 have hr:c7_ x=if (bd_ d0_ (dq_ x).2).2.2 then (⟨(dq_ x).1,(bd_ d0_ (dq_ x).2).1⟩,(bd_ d0_ (dq_ x).2).2) else (⟨[],[]⟩,(bd_ d0_ (dq_ x).2).2):=rfl
 refine s_ ?_
 refine x_ g_ va_ (fd_ (x:=(bd_ d0_ (dq_ x).2).2) (by simp (disch:=omega) only [Store.set_ne,q1])) ?_;rintro _ _ ⟨rfl,rfl⟩
 refine aa_ ?_
 refine cd_ (fun hc3=>?_) (fun hc3=>?_)
 ·refine ab_ ?_
  have R:=And.intro l2 l3
  refine r_ ?_
  refine s_ ?_
  refine st_ ?_
  refine aa_ ?_
  refine ac_ ?_
  rw [hc3] at hr
  have hr1:c7_ x=(⟨[],[]⟩,(bd_ d0_ (dq_ x).2).2):=by rw [hr];rfl
  rw [hr1]
  exact a2_ (v:=sObj ⟨[],[]⟩) (v':=.agg [.lit (.slice none 0 0),.lit (.slice none 0 0)]) va_ (.agg _ _ rfl (fun i hi hi'=>by match i,hi with | 0,_=>exact .nil _ _ | 1,_=>exact .nil _ _)) (Store.Wk.refl _) ⟨rfl,by simp (disch:=omega) only [Store.set_ne,q1],ai_ ho2 (ai_ hn3 hs0)⟩
 ·refine ae_ ?_
  refine ab_ ?_
  have R:=And.intro l2 l3
  refine r_ ?_
  refine s_ ?_
  refine st_ ?_
  refine aa_ ?_
  refine ac_ ?_
  rw [hc3] at hr
  have hr1:c7_ x=(⟨(dq_ x).1,(bd_ d0_ (dq_ x).2).1⟩,(bd_ d0_ (dq_ x).2).2):=by rw [hr];rfl
  rw [hr1]
  exact aE_ va_ (Store.Wk.refl _) ⟨rfl,by simp (disch:=omega) only [Store.set_ne,q1],ai_ ho2 (ai_ hn3 hs0)⟩
def b8_ (σ:Store) (e:TypeId) (sz:Nat) (l:List AVal) (a:AVal) (old:Option Nat):Prop:=(∃ k,a=.own k sz l∧σ.tok k=some (e,sz)∧old=some k)∨(a=.lit (.slice none 0 0)∧l=[]∧old=none)
theorem b8_.wk {σ:Store} {e:TypeId} {sz:Nat} {l:List AVal} {a:AVal} {old:Option Nat} (h:b8_ σ e sz l a old):Wk a (.sl sz l false):=by
 rcases h with ⟨k,rfl,_⟩ | ⟨rfl,rfl,_⟩
 ·exact .own1 _ _ _
 ·exact .nil _ _
theorem b8_.of {σ:Store} {e:TypeId} {sz:Nat} {l:List AVal} {a b:AVal} {old:Option Nat} (h:b8_ σ e sz l a old) (hb:b=a):b8_ σ e sz l b old:=hb ▸ h
theorem SubX.noObj {l:List Nat} {a b:Store} (h:SubX l a b) {i:Nat} (hi:b.heap i=none) (hl:i ∉ l):a.heap i=none:=by
 cases hh:a.heap i with
 |none=>rfl
 |some y=>have:=h.1 i y hl hh;rw [hi] at this;cases this
theorem em_ {α:Type} (f:Rd→α × Rd) {n:Nat} {x:Rd} (h:n=0∨x.2=false):aK_ f n x=([],x):=by
 rcases h with rfl | h
 ·rfl
 ·exact cM_ f h
def WA (o:Nat) (a:AVal):Prop:=a=.ref o 0∨a=.nilp o 331 2
def WR (σ:Store) (o:Nat) (l:List UInt8):Prop:=∃ a b old,σ.heap o=some (.cells [a,b])∧WA o a∧b8_ σ 5 1 (aA_ (B l)) b old
def Hld (σ:Store) (o t:Nat):Prop:=∃ a sz l,σ.heap o=some (.cells [a,.own t sz l])
def WF (o:Nat) (σ σ':Store):Prop:=(∀ i x,i≠o→σ.heap i=some x→σ'.heap i=some x)∧∀ t n,σ.tok t=some n→¬ Hld σ o t→σ'.tok t=some n∧¬ Hld σ' o t
theorem WF.refl {o:Nat} {σ:Store}:WF o σ σ:=⟨fun _ _ _ h=>h,fun _ _ h k=>⟨h,k⟩⟩
theorem WF.trans {o:Nat} {a b c:Store} (h:WF o a b) (k:WF o b c):WF o a c :=
 ⟨fun i x hi hx=>k.1 i x hi (h.1 i x hi hx),fun t n ht hn=>k.2 t n (h.2 t n ht hn).1 (h.2 t n ht hn).2⟩
theorem WF.sub {o:Nat} {σ σ':Store} {x:AObj} (ho:σ.heap o=none) (h:WF o (σ.set o x) σ') (hx:∀ a t sz l,x≠.cells [a,.own t sz l]):σ.Sub σ' :=
 ⟨fun i y hy=>h.1 i y (fun hh=>by rw [hh,ho] at hy;cases hy) (by rw [Store.set_ne _ _ (fun hh=>by rw [hh,ho] at hy;cases hy)];exact hy),fun t n ht=>(h.2 t n ht fun ⟨a,sz,l,hh⟩=>by
  rw [Store.set_get] at hh
  exact hx _ _ _ _ (Option.some.inj hh)).1⟩
theorem WF.put {σ:Store} {o k:Nat} {a b c:AVal} {l l':List AVal} {old:Option Nat} {p:TypeId × Nat} {e:TypeId} {sz sz':Nat} (ho:σ.heap o=some (.cells [a,b])) (hb:b8_ σ e sz l b old) (hk:σ.tok k=none) :
  WF o σ ((σ.newTok old k p).set o (.cells [c,.own k sz' l'])):=by
 refine ⟨fun i x hi hx=>by rw [Store.set_ne _ _ hi];exact hx,fun t n ht hn=>?_⟩
 have hkt:t≠k:=fun hh=>by rw [hh,hk] at ht;cases ht
 refine ⟨?_,?_⟩
 ·rw [Store.set_tok]
  simp only [Store.newTok]
  rw [if_neg hkt,if_neg (fun hh=>?_)]
  ·exact ht
  ·rcases hb with ⟨j,rfl,_,hj⟩ | ⟨rfl,_,hj⟩
   ·rw [hj] at hh
    obtain rfl:=Option.some.inj hh
    exact hn ⟨_,_,_,ho⟩
   ·rw [hj] at hh;cases hh
 ·rintro ⟨a',sz2,l2,hh⟩
  rw [Store.set_get] at hh
  simp only [Option.some.injEq,AObj.cells.injEq,List.cons.injEq,AVal.own.injEq,and_true] at hh
  exact hkt hh.2.1.symm
theorem k6_ {σ:Store} {c:Bool} {o:Nat}:abin Tryz.prog σ .neq 327 c (.ref o 0) (.ref o 0)=some (.lit (.bool false)):=by
 simp only [abin,aeq,go_sem]
theorem f2_ {o:Nat} {b:AVal} {σ:Store} (ho:σ.heap o=some (.cells [.ref o 0,b])):ACalls Tryz.prog 501 [.ref o 0] σ fun v σ'=>v=.tup []∧σ'=σ.set o (.cells [.ref o 0,b]):=by
 refine en_ Tryz.func501 Tryz.ntmps501 Tryz.results501 ?_
 refine ab_ ?_
 have R:=And.intro ho @k6_
 refine r_ ?_
 iterate 5 refine s_ ?_
 refine aa_ ?_
 refine cd_ (fun hc0=>?_) (fun hc0=>?_)
 ·cases hc0
 ·refine ab_ ?_
  have R:=And.intro ho @k6_
  refine r_ ?_
  iterate 6 refine s_ ?_
  refine aa_ ?_
  refine cd_ (fun hc2=>?_) (fun hc2=>?_)
  ·cases hc2
  ·refine ae_ ?_
   refine aD_ v_ (Store.Wk.refl _) ?_
   exact ⟨rfl,(Store.set_self ho).symm⟩
theorem jB_ {o:Nat} {b:AVal} {σ:Store} (ho:σ.heap o=some (.cells [.nilp o 331 2,b])):ACalls Tryz.prog 501 [.ref o 0] σ fun v σ'=>v=.tup []∧σ'=σ.set o (.cells [.ref o 0,b]):=by
 refine en_ Tryz.func501 Tryz.ntmps501 Tryz.results501 ?_
 refine ab_ ?_
 have R:=ho
 refine r_ ?_
 iterate 5 refine s_ ?_
 refine aa_ ?_
 refine cd_ (fun hc0=>?_) (fun hc0=>?_)
 ·have R:=ho
  refine r_ ?_
  iterate 2 refine s_ ?_
  refine aL_X rfl rfl (AOp_toUnsafe (t:=329) rfl Tryz.underlying327 Tryz.underlying596 kr_ g_ ho (by decide) ?_)
  refine aL_X rfl rfl (AOp_extern rfl (e:=Extern.AbiNoEscape.same) kr_ g_ (fun κ ev _ h=>h7_ (h _ (by simp))) ?_)
  refine aL_X rfl rfl (AOp_fromUnsafe (u:=329) rfl Tryz.underlying596 Tryz.underlying327 kr_ g_ ho kr_ ?_)
  iterate 2 refine s_ ?_
  refine st_ ?_
  refine aa_ ?_
  refine aD_ v_ (Store.Wk.refl _) ?_
  exact ⟨rfl,rfl⟩
 ·cases hc0
theorem f3_ {o:Nat} {a b:AVal} {σ:Store} (ho:σ.heap o=some (.cells [a,b])) (ha:WA o a):ACalls Tryz.prog 501 [.ref o 0] σ fun v σ'=>v=.tup []∧σ'=σ.set o (.cells [.ref o 0,b]):=by
 rcases ha with rfl | rfl
 ·exact f2_ ho
 ·exact jB_ ho
theorem kd_ {o:Nat} {a b:AVal} {σ:Store} {c:UInt8} {l:List UInt8} {old:Option Nat} (ho:σ.heap o=some (.cells [a,b])) (ha:WA o a) (hb:b8_ σ 5 1 (aA_ (B l)) b old) (hl:l.length≤1099511627776) :
  ACalls Tryz.prog 503 [.ref o 0,.lit (.int .u8 (c.toNat:Int))] σ fun v σ'=>∃ k,v=.lit .nilIface∧σ.tok k=none∧σ'=(σ.newTok old k (5,1)).set o (.cells [.ref o 0,.own k 1 (aA_ (B (l ++ [c])))]):=by
 have e1:aA_ (B (l ++ [c]))=aA_ (B l) ++ [.lit (.int .u8 (c.toNat:Int))]:=by rw [hK_,hK_,List.map_append];rfl
 have hbl:(aA_ (B l)).length=l.length:=by rw [aF_,bI_]
 refine en_ Tryz.func503 Tryz.ntmps503 Tryz.results503 ?_
 refine rr_ ?_
 refine s_ ?_
 refine aa_ ?_
 refine rr_ ?_
 refine s_ ?_
 refine x_ g_ va_ (f3_ ho ha) ?_;rintro _ _ ⟨rfl,rfl⟩
 refine aa_ ?_
 refine rr_ ?_
 iterate 6 refine s_ ?_
 refine aJ_ rfl rfl rfl g_ g_ rfl rfl h_ c2_ (by decide) ?_
 refine aL_X rfl rfl (AOp_appendS rfl g_ g_ (b8_.of hb va_) (.inl ⟨⟨_,g_⟩,.inl v_,c_⟩) (by simp;omega) fun k14 hk14=>?_)
 iterate 2 refine s_ ?_
 refine st_ ?_
 refine aa_ ?_
 refine rr_ ?_
 refine s_ ?_
 refine aa_ ?_
 refine ac_ ?_
 refine aE_ v_ (Store.Wk.refl _) ?_
 exact ⟨k14,rfl,hk14,by rw [e1,Store.newTok_set,Store.set_set]⟩
theorem e5_ {o:Nat} {a b:AVal} {σ:Store} {s:ByteArray} {l:List UInt8} {old:Option Nat} (ho:σ.heap o=some (.cells [a,b])) (ha:WA o a) (hb:b8_ σ 5 1 (aA_ (B l)) b old) (hl:l.length≤1099511627776) (hs:s.size≤1099511627776) :
  ACalls Tryz.prog 387 [.ref o 0,vStr s] σ fun v σ'=>∃ k,v=.tup [vInt s.size,.lit .nilIface]∧σ.tok k=none∧σ'=(σ.newTok old k (5,1)).set o (.cells [.ref o 0,.own k 1 (aA_ (B (l ++ Lb s)))]):=by
 have e1:aA_ (B l) ++ aA_ s=aA_ (B (l ++ Lb s)):=by rw [dk_,← hw_,B_Lb]
 have hbl:(aA_ (B l)).length=l.length:=by rw [aF_,bI_]
 have hsl:=aF_ s
 refine en_ Tryz.func387 Tryz.ntmps387 Tryz.results387 ?_
 refine rr_ ?_
 iterate 2 refine s_ ?_
 refine aa_ ?_
 refine rr_ ?_
 refine s_ ?_
 refine x_ g_ va_ (f3_ ho ha) ?_;rintro _ _ ⟨rfl,rfl⟩
 refine aa_ ?_
 refine rr_ ?_
 iterate 6 refine s_ ?_
 refine aL_X rfl rfl (AOp_appendS rfl g_ g_ (b8_.of hb va_) (ke_ g_) (by simp;omega) fun k14 hk14=>?_);rw [e1]
 iterate 2 refine s_ ?_
 refine st_ ?_
 refine aa_ ?_
 refine rr_ ?_
 iterate 4 refine s_ ?_
 refine aa_ ?_
 refine ac_ ?_
 refine aE_ v_ (Store.Wk.refl _) ?_
 exact ⟨k14,rfl,hk14,by rw [Store.newTok_set,Store.set_set]⟩
theorem ll_ {o k:Nat} {s:ByteArray} {σ:Store} {a:AVal} (ho:σ.heap o=some (.cells [a,.own k 1 (aA_ s)])) (hk:σ.tok k=some (5,1)) (hs:s.size≤1099511627776):ACalls Tryz.prog 385 [.ref o 0] σ fun v σ'=>v=vStr s∧σ'=σ.delTok k:=by
 have hsl:=aF_ s
 refine en_ Tryz.func385 Tryz.ntmps385 Tryz.results385 ?_
 refine ab_ ?_
 have R:=And.intro ho hsl
 refine r_ ?_
 refine s_ ?_
 refine aa_ ?_
 refine ab_ ?_
 have R:=And.intro ho hsl
 refine aL_ (.op 0 0 (.op 1 0 (.op 2 0 (.op 3 0 (.op 5 0 (.op 6 0 (.op 7 0 (.op 8 0 (.op 9 0 (.op 4 1 (.op 10 2 (.op 11 0 .nil)))))))))))) Tryz.mixed kr_ ?_
 iterate 9 refine ds_ ?_
 refine dR_X o_ (by rfl) (by rfl) (AOp_sliceData (by rfl) g_ (.inl ⟨va_,hk⟩) ⟨sub_,?_⟩)
 refine dR_T o_ (by rfl) (by rfl) (AOp_unsafeString (by rfl) g_ kr_ va_ va_ (.inr hk) (by omega) ?_)
 refine ds_ ?_
 refine aG_ ?_
 refine ac_ ?_
 refine aE_ v_ (Store.Wk.refl _) ?_
 exact ⟨rfl,rfl⟩
theorem id_ {o:Nat} {σ:Store} {a:AVal} (ho:σ.heap o=some (.cells [a,.lit (.slice none 0 0)])):ACalls Tryz.prog 385 [.ref o 0] σ fun v σ'=>v=vStr (B [])∧σ=σ':=by
 refine en_ Tryz.func385 Tryz.ntmps385 Tryz.results385 ?_
 refine ab_ ?_
 have R:=ho
 refine r_ ?_
 refine s_ ?_
 refine aa_ ?_
 refine ab_ ?_
 have R:=ho
 refine aL_ (.op 0 0 (.op 1 0 (.op 2 0 (.op 3 0 (.op 5 0 (.op 6 0 (.op 7 0 (.op 8 0 (.op 9 0 (.op 4 1 (.op 10 2 (.op 11 0 .nil)))))))))))) Tryz.mixed kr_ ?_
 iterate 9 refine ds_ ?_
 refine dR_X o_ (by rfl) (by rfl) (AOp_sliceData (k:=0) (l:=[]) (e0:=0) (by rfl) g_ (.inr ⟨va_,rfl⟩) ⟨sub_,?_⟩)
 refine dR_T o_ (by rfl) (by rfl) (e6_ (by rfl) va_ va_ ?_)
 refine ds_ ?_
 refine aG_ ?_
 refine ac_ ?_
 refine er_ σ ?_
 exact ⟨rfl,rfl⟩
theorem pN_ (n:Int) (k:Nat):n / 2 ^ (8 * k)=n / 256 ^ k:=by
 rw [show (256:Int)=2 ^ 8 from rfl,← Int.pow_mul]
theorem qV_ (n:Int) (k j:Nat) (h:j < k):(beI k n)[j]?=some (lG_ (n / 256 ^ (k - 1 - j))):=by
 induction k generalizing j with
 |zero=>omega
 |succ k ih =>
  rw [beI]
  cases j with
  |zero=>simp
  |succ j=>rw [List.getElem?_cons_succ,ih j (by omega)];congr 4;omega
theorem sX_ {o k:Nat} {n:Int} {l:List UInt8} {σ:Store} (ho:WR σ o l) (hk:k≤8) (hl:l.length≤1000000000000):ACalls Tryz.prog 388 [.ref o 0,vInt n,vInt k] σ fun v σ'=>v=.tup []∧WR σ' o (l ++ beI k n)∧WF o σ σ':=by
 have h00:(k:Int) - 1 - ((0:Nat):Int)=(k:Int) - 1:=by omega
 refine en_ Tryz.func388 Tryz.ntmps388 Tryz.results388 ?_
 refine ab_ ?_
 refine rr_ ?_
 iterate 2 refine s_ ?_
 refine aa_ ?_
 refine cd_ (fun hc0=>?_) (fun hc0=>?_)
 ·cases hc0
 ·refine ae_ ?_
  refine rr_ ?_
  iterate 3 refine s_ ?_
  refine aa_ ?_
  refine ah_ ?_
  refine ak_ (ι:=Store × Nat) (fun ⟨τ,j⟩=>k - j) (fun ⟨τ,j⟩=>j≤k∧WR τ o (l ++ (beI k n).take j)∧WF o σ τ) (fun ⟨τ,j⟩=>[(0,.ref o 0),(1,vInt n),(6,vInt ((k:Int) - 1 - j))]) (fun ⟨τ,j⟩=>τ) (σ,0) ?_ ?_ ?_ ?_
  ·exact ⟨Nat.zero_le _,by simpa using ho,WF.refl⟩
  ·have R:=h00;exact cv_
  ·exact Store.Wk.refl _
  rintro ⟨τ,j⟩ ⟨h1,h2,h3⟩
  simp only [ar_,av_]
  refine ab_ ?_
  refine rr_ ?_
  iterate 2 refine s_ ?_
  refine aa_ ?_
  refine cd_ (fun hc2=>?_) (fun hc2=>?_)
  ·refine ae_ ?_
   refine ab_ ?_
   refine ah_ ?_
   have hj:j < k:=by omega
   have hbj:=qV_ n k j hj
   obtain ⟨a,b,old,hw,ha,hb⟩:=h2
   have hll:(l ++ (beI k n).take j).length≤1099511627776:=by rw [List.length_append,List.length_take];omega
   have hcv:(k:Int) - 1 - j - 1=(k:Int) - 1 - ((j + 1:Nat):Int):=by omega
   have hsh:((8:Int) * ((k:Int) - 1 - j)).toNat=8 * (k - 1 - j):=by omega
   have hby:=(mV_ (n / 256 ^ (k - 1 - j))).symm
   have R:=And.intro hsh (And.intro pN_ (And.intro t7_ hby))
   refine aL_ (.op 0 0 (.op 1 0 (.op 2 0 (.op 3 0 (.op 4 0 (.op 5 0 (.op 6 0 (.op 7 0 (.op 8 2 .nil))))))))) Tryz.mixed kr_ ?_
   iterate 8 refine ds_ ?_
   refine tx_ o_ g_ va_ (kd_ (c:=lG_ (n / 256 ^ (k - 1 - j))) hw ha hb hll) ?_;rintro _ _ ⟨k23,rfl,hk23,rfl⟩
   refine aG_ ?_
   refine r_ ?_
   iterate 3 refine s_ ?_
   refine aa_ ?_
   refine bb_ (ι:=Store × Nat) (i:=⟨τ,j⟩) ((τ.newTok old k23 (5,1)).set o (.cells [.ref o 0,.own k23 1 (aA_ (B (l ++ (beI k n).take j ++ [lG_ (n / 256 ^ (k - 1 - j))])))]),j + 1) ?_ ?_ ?_ ?_
   ·show k - (j + 1) < k - j;omega
   ·exact ⟨by show j + 1≤k;omega,⟨_,_,some k23,Store.set_get ..,.inl rfl,.inl ⟨k23,by rw [bE_ hbj,List.append_assoc],by rw [Store.set_tok];exact Store.newTok_get ..,rfl⟩⟩,h3.trans (WF.put hw hb hk23)⟩
   ·have R:=hcv;exact cv_
   ·exact Store.Wk.refl _
  ·refine ay_ ?_
   refine af_ ?_
   refine af_ ?_
   refine aq_ ?_
   refine aD_ v_ (Store.Wk.refl _) ?_
   exact ⟨rfl,by rwa [List.take_of_length_le (by rw [am_];omega)] at h2,h3⟩
theorem ij_ {o:Nat} {n:Int} {l:List UInt8} {σ:Store} (ho:WR σ o l) (hl:l.length≤1000000000000):ACalls Tryz.prog 314 [.ref o 0,vInt n] σ fun v σ'=>v=.tup []∧WR σ' o (l ++ beI 1 n)∧WF o σ σ':=by
 refine en_ Tryz.func314 Tryz.ntmps314 Tryz.results314 ?_
 refine r_ ?_
 iterate 2 refine s_ ?_
 refine x_ g_ va_ (sX_ (k:=1) ho (by decide) hl) ?_;rintro _ τ ⟨rfl,h1,h2⟩
 refine aa_ ?_
 refine aD_ v_ (Store.Wk.refl _) ?_
 exact ⟨rfl,h1,h2⟩
theorem fk_ {o:Nat} {n:Int} {l:List UInt8} {σ:Store} (ho:WR σ o l) (hl:l.length≤1000000000000):ACalls Tryz.prog 316 [.ref o 0,vInt n] σ fun v σ'=>v=.tup []∧WR σ' o (l ++ beI 8 n)∧WF o σ σ':=by
 refine en_ Tryz.func316 Tryz.ntmps316 Tryz.results316 ?_
 refine r_ ?_
 iterate 2 refine s_ ?_
 refine x_ g_ va_ (sX_ (k:=8) ho (by decide) hl) ?_;rintro _ τ ⟨rfl,h1,h2⟩
 refine aa_ ?_
 refine aD_ v_ (Store.Wk.refl _) ?_
 exact ⟨rfl,h1,h2⟩
theorem ch_ {o:Nat} {n:Int} {l:List UInt8} {σ:Store} (ho:WR σ o l) (hl:l.length≤1000000000000):ACalls Tryz.prog 243 [.ref o 0,vInt n] σ fun v σ'=>v=.tup []∧WR σ' o (l ++ beI 4 n)∧WF o σ σ':=by
 refine en_ Tryz.func243 Tryz.ntmps243 Tryz.results243 ?_
 refine r_ ?_
 iterate 2 refine s_ ?_
 refine x_ g_ va_ (sX_ (k:=4) ho (by decide) hl) ?_;rintro _ τ ⟨rfl,h1,h2⟩
 refine aa_ ?_
 refine aD_ v_ (Store.Wk.refl _) ?_
 exact ⟨rfl,h1,h2⟩
def cj_ (s:ByteArray):List UInt8:=beI 4 s.size ++ Lb s
theorem ap_ (s:ByteArray):(cj_ s).length=4 + s.size:=by rw [cj_,List.length_append,am_,aX_]
theorem bW_ {o:Nat} {s:ByteArray} {l:List UInt8} {σ:Store} (ho:WR σ o l) (hl:l.length≤999999999990) (hs:s.size≤1000000000):ACalls Tryz.prog 315 [.ref o 0,vStr s] σ fun v σ'=>v=.tup []∧WR σ' o (l ++ cj_ s)∧WF o σ σ':=by
 refine en_ Tryz.func315 Tryz.ntmps315 Tryz.results315 ?_
 refine rr_ ?_
 iterate 3 refine s_ ?_
 refine x_ g_ va_ (ch_ ho (by omega)) ?_;rintro _ τ ⟨rfl,h1,h2⟩
 refine aa_ ?_
 refine rr_ ?_
 iterate 2 refine s_ ?_
 refine aa_ ?_
 refine cd_ (fun hc1=>?_) (fun hc1=>?_)
 ·obtain ⟨a,b,old,hw,ha,hb⟩:=h1
  have hll:(l ++ beI 4 s.size).length≤1099511627776:=by rw [List.length_append,am_];omega
  refine r_ ?_
  iterate 4 refine s_ ?_
  refine x_ g_ va_ (e5_ hw ha hb hll (by omega)) ?_;rintro _ _ ⟨k14,rfl,hk14,rfl⟩
  refine aa_ ?_
  refine aD_ v_ (Store.Wk.refl _) ?_
  exact ⟨rfl,⟨_,_,some k14,Store.set_get ..,.inl rfl,.inl ⟨k14,by rw [cj_,← List.append_assoc],by rw [Store.set_tok];exact Store.newTok_get ..,rfl⟩⟩,h2.trans (WF.put hw hb hk14)⟩
 ·cases hc1
theorem WF.del {σ:Store} {o k:Nat} {a:AVal} {l:List AVal} {sz:Nat} (ho:σ.heap o=some (.cells [a,.own k sz l])):WF o σ (σ.delTok k):=by
 refine ⟨fun i x _ hx=>hx,fun t n ht hn=>⟨?_,hn⟩⟩
 have:t≠k:=fun hh=>hn ⟨_,_,_,by rw [hh];exact ho⟩
 simp [Store.delTok,this,ht]
theorem pd_ {o k:Nat} {s:ByteArray} {σ:Store} {a:AVal} (ho:σ.heap o=some (.cells [a,.own k 1 (aA_ s)])) (hk:σ.tok k=some (5,1)) (hs:s.size≤1099511627776):ACalls Tryz.prog 241 [.ref o 0] σ fun v σ'=>v=vStr s∧WF o σ σ':=by
 refine en_ Tryz.func241 Tryz.ntmps241 Tryz.results241 ?_
 refine rr_ ?_
 refine s_ ?_
 refine aa_ ?_
 refine ab_ ?_
 refine rr_ ?_
 iterate 2 refine s_ ?_
 refine aa_ ?_
 refine cd_ (fun hc1=>?_) (fun hc1=>?_)
 ·cases hc1
 ·refine ae_ ?_
  refine rr_ ?_
  iterate 3 refine s_ ?_
  refine x_ g_ va_ (ll_ ho hk hs) ?_;rintro _ _ ⟨rfl,rfl⟩
  refine s_ ?_
  refine aa_ ?_
  refine ac_ ?_
  refine aE_ v_ (Store.Wk.refl _) ?_
  exact ⟨rfl,WF.del ho⟩
theorem pe_ {o:Nat} {σ:Store} {a:AVal} (ho:σ.heap o=some (.cells [a,.lit (.slice none 0 0)])):ACalls Tryz.prog 241 [.ref o 0] σ fun v σ'=>v=vStr (B [])∧WF o σ σ':=by
 refine en_ Tryz.func241 Tryz.ntmps241 Tryz.results241 ?_
 refine rr_ ?_
 refine s_ ?_
 refine aa_ ?_
 refine ab_ ?_
 refine rr_ ?_
 iterate 2 refine s_ ?_
 refine aa_ ?_
 refine cd_ (fun hc1=>?_) (fun hc1=>?_)
 ·cases hc1
 ·refine ae_ ?_
  refine rr_ ?_
  iterate 3 refine s_ ?_
  refine x_ g_ va_ (id_ ho) ?_;rintro _ _ ⟨rfl,rfl⟩
  refine s_ ?_
  refine aa_ ?_
  refine ac_ ?_
  refine aE_ v_ (Store.Wk.refl _) ?_
  exact ⟨rfl,WF.refl⟩
theorem gN_ {o:Nat} {l:List UInt8} {σ:Store} (ho:WR σ o l) (hl:l.length≤1000000000000):ACalls Tryz.prog 241 [.ref o 0] σ fun v σ'=>v=vStr (B l)∧WF o σ σ':=by
 obtain ⟨a,b,old,hw,ha,hb⟩:=ho
 rcases hb with ⟨k,rfl,hk,_⟩ | ⟨rfl,hl0,_⟩
 ·refine pd_ hw hk (by rw [bI_];omega)
 ·have:l=[]:=by
   have:=congrArg List.length hl0
   rw [aF_,bI_] at this
   exact List.eq_nil_of_length_eq_zero this
  subst this
  exact pe_ hw
def bq_ {α:Type} (f:α→List UInt8) (l:List α):List UInt8:=beI 4 l.length ++ l.flatMap f
def eW_ (x:Seen):List UInt8:=cj_ x.node ++ beI 8 x.base ++ bq_ (beI 8) x.more
def ctxB (c:List Seen):List UInt8:=bq_ eW_ c
def pU_ (b:Bool):Int:=if b then 1 else 0
def sibB (x:Sib):List UInt8:=cj_ x.node ++ beI 8 x.n ++ cj_ x.value ++ beI 1 (pU_ x.gone) ++ beI 8 x.time
def objB (o:Obj'):List UInt8:=ctxB o.ctx ++ bq_ sibB o.sibs
theorem aY_ {α β:Type} {f:α→List β} {l:List α} {i:Nat} {x:α} (h:l[i]?=some x):(l.take (i + 1)).flatMap f=(l.take i).flatMap f ++ f x:=by
 rw [bE_ h,List.flatMap_append];simp
theorem aS_ {α β:Type} {f:α→List β} (l:List α) (i:Nat):((l.take i).flatMap f).length≤(l.flatMap f).length:=by
 conv=>rhs;rw [← List.take_append_drop i l,List.flatMap_append,List.length_append]
 omega
theorem WF.keep {o i:Nat} {a b:Store} {x:AObj} (h:WF o a b) (hx:a.heap i=some x) (hi:i≠o):b.heap i=some x:=h.1 i x hi hx
theorem WF.alloc {o i:Nat} {a b:Store} {x:AObj} (h:WF o a b) (hi:b.heap i=none) (ho:i≠o):WF o a (b.set i x) :=
 ⟨fun j y hj hy=>by rw [Store.set_ne _ _ (fun hh=>by have:=h.1 j y hj hy;rw [hh,hi] at this;cases this)];exact h.1 j y hj hy,fun t n ht hn=>⟨(h.2 t n ht hn).1,fun ⟨a,sz,l,hh⟩=>(h.2 t n ht hn).2 ⟨a,sz,l,by rw [Store.set_ne _ _ (Ne.symm ho)] at hh;exact hh⟩⟩⟩
theorem WR.alloc {o i:Nat} {l:List UInt8} {σ:Store} {x:AObj} (h:WR σ o l) (hi:i≠o):WR (σ.set i x) o l:=by
 obtain ⟨a,b,old,h1,h2,h3⟩:=h
 exact ⟨a,b,old,by rw [Store.set_ne _ _ (Ne.symm hi)];exact h1,h2,h3⟩
theorem WR.alloc2 {o i:Nat} {l:List UInt8} {σ:Store} {x y:AObj} (h:WR σ o l) (hi:i≠o):WR ((σ.set i x).set i y) o l:=(h.alloc hi).alloc hi
theorem WF.alloc2 {o i:Nat} {a b:Store} {x y:AObj} (h:WF o a b) (hi:b.heap i=none) (ho:i≠o):WF o a ((b.set i x).set i y):=by
 rw [Store.set_set];exact h.alloc hi ho
theorem WR.some {o:Nat} {l:List UInt8} {σ:Store} (h:WR σ o l):∃ x,σ.heap o=some x:=by obtain ⟨a,b,old,h1,_⟩:=h;exact ⟨_,h1⟩
theorem nd_ {o G:Nat} {l:List UInt8} {L:List Int} {t:Bool} {σ:Store} {fs cp:List AVal} {wb:Int→List UInt8} (Kp:Store→Prop) (hgo:isGo Tryz.prog G=true) (hK:∀ τ τ',Kp τ→WF o τ τ'→Kp τ') (ho:WR σ o l) (hKσ:Kp σ)
  (hL:l.length + 4 + (L.flatMap wb).length≤999999999000) (hLb:L.length≤1000000)
  (hf:∀ τ l x,x∈L→WR τ o l→Kp τ→l.length + (wb x).length≤999999999000→ACalls Tryz.prog G (fs ++ [vInt x] ++ cp) τ fun v τ'=>v=.tup []∧WR τ' o (l ++ wb x)∧WF o τ τ') :
  ACalls Tryz.prog 546 [.ref o 0,.sl 1 (L.map vInt) t,.fn (.func G) fs cp] σ fun v σ'=>v=.tup []∧WR σ' o (l ++ bq_ wb L)∧WF o σ σ':=by
 refine en_ Tryz.func546 Tryz.ntmps546 Tryz.results546 ?_
 refine rr_ ?_
 iterate 3 refine s_ ?_
 refine x_ g_ va_ (ch_ (n:=(L.length:Int)) ho (by omega)) ?_;rintro _ τ0 ⟨rfl,g1,g2⟩
 refine aa_ ?_
 refine rr_ ?_
 iterate 3 refine s_ ?_
 refine aa_ ?_
 refine ah_ ?_
 refine ak_ (ι:=Store × Nat) (fun ⟨τ,i⟩=>L.length - i) (fun ⟨τ,i⟩=>i≤L.length∧WR τ o (l ++ beI 4 L.length ++ (L.take i).flatMap wb)∧WF o σ τ) (fun ⟨τ,i⟩=>[(2,.fn (.func G) fs cp),(12,.sl 1 (L.map vInt) t),(13,vInt L.length),(14,vInt i)]) (fun ⟨τ,i⟩=>τ) (τ0,0) ?_ ?_ ?_ ?_
 ·exact ⟨Nat.zero_le _,by simpa using g1,g2⟩
 ·exact cv_
 ·exact Store.Wk.refl _
 rintro ⟨τ,i⟩ ⟨h1,h2,h3⟩
 simp only [ar_,av_]
 refine rr_ ?_
 refine s_ ?_
 refine aa_ ?_
 refine ab_ ?_
 refine cd_ (fun hc2=>?_) (fun hc2=>?_)
 ·refine ae_ ?_
  refine ab_ ?_
  refine ah_ ?_
  refine ab_ ?_
  obtain ⟨x,hx⟩:∃ x,L[i]?=some x:=⟨L[i]'(by omega),List.getElem?_eq_getElem _⟩
  have hle:=aS_ (f:=wb) L (i + 1)
  rw [aY_ hx,List.length_append] at hle
  have hb:(l ++ beI 4 L.length ++ (L.take i).flatMap wb).length + (wb x).length≤999999999000:=by rw [List.length_append,List.length_append,am_];omega
  have hxm:=List.mem_of_getElem? hx
  have R:=hx
  refine r_ ?_
  iterate 3 refine s_ ?_
  refine aa_ ?_
  skip
  refine r_ ?_
  iterate 2 refine s_ ?_
  refine aL_X rfl rfl (bu_ rfl rfl (.inl v_) g_ va_ (hf _ _ x hxm h2 (hK _ _ hKσ h3) hb) ?_);rintro _ υ ⟨rfl,u1,u2⟩
  refine aa_ ?_
  refine r_ ?_
  iterate 2 refine s_ ?_
  refine aa_ ?_
  refine bb_ (ι:=Store × Nat) (i:=⟨τ,i⟩) (υ,i + 1) ?_ ?_ ?_ ?_
  ·show L.length - (i + 1) < L.length - i;omega
  ·exact ⟨by show i + 1≤L.length;omega,by rw [aY_ hx,← List.append_assoc];exact u1,WF.trans h3 u2⟩
  ·exact cv_
  ·exact Store.Wk.refl _
 ·refine ay_ ?_
  refine af_ ?_
  refine af_ ?_
  refine aq_ ?_
  refine aD_ v_ (Store.Wk.refl _) ?_
  exact ⟨rfl,by rw [bq_,← List.append_assoc];rwa [List.take_of_length_le (by omega)] at h2,h3⟩
theorem lP_ {o G:Nat} {l:List UInt8} {L:List Seen} {t:Bool} {σ:Store} {fs cp:List AVal} {wb:Seen→List UInt8} (Kp:Store→Prop) (hgo:isGo Tryz.prog G=true) (hK:∀ τ τ',Kp τ→WF o τ τ'→Kp τ') (ho:WR σ o l) (hKσ:Kp σ)
  (hL:l.length + 4 + (L.flatMap wb).length≤999999999000) (hLb:L.length≤1000000)
  (hf:∀ τ l x,x∈L→WR τ o l→Kp τ→l.length + (wb x).length≤999999999000→ACalls Tryz.prog G (fs ++ [aM_ x] ++ cp) τ fun v τ'=>v=.tup []∧WR τ' o (l ++ wb x)∧WF o τ τ') :
  ACalls Tryz.prog 544 [.ref o 0,.sl 3 (L.map aM_) t,.fn (.func G) fs cp] σ fun v σ'=>v=.tup []∧WR σ' o (l ++ bq_ wb L)∧WF o σ σ':=by
 refine en_ Tryz.func544 Tryz.ntmps544 Tryz.results544 ?_
 refine rr_ ?_
 iterate 3 refine s_ ?_
 refine x_ g_ va_ (ch_ (n:=(L.length:Int)) ho (by omega)) ?_;rintro _ τ0 ⟨rfl,g1,g2⟩
 refine aa_ ?_
 refine rr_ ?_
 iterate 3 refine s_ ?_
 refine aa_ ?_
 refine ah_ ?_
 refine ak_ (ι:=Store × Nat) (fun ⟨τ,i⟩=>L.length - i) (fun ⟨τ,i⟩=>i≤L.length∧WR τ o (l ++ beI 4 L.length ++ (L.take i).flatMap wb)∧WF o σ τ) (fun ⟨τ,i⟩=>[(2,.fn (.func G) fs cp),(12,.sl 3 (L.map aM_) t),(13,vInt L.length),(14,vInt i)]) (fun ⟨τ,i⟩=>τ) (τ0,0) ?_ ?_ ?_ ?_
 ·exact ⟨Nat.zero_le _,by simpa using g1,g2⟩
 ·exact cv_
 ·exact Store.Wk.refl _
 rintro ⟨τ,i⟩ ⟨h1,h2,h3⟩
 simp only [ar_,av_]
 refine rr_ ?_
 refine s_ ?_
 refine aa_ ?_
 refine ab_ ?_
 refine cd_ (fun hc2=>?_) (fun hc2=>?_)
 ·refine ae_ ?_
  refine ab_ ?_
  refine ah_ ?_
  refine ab_ ?_
  obtain ⟨x,hx⟩:∃ x,L[i]?=some x:=⟨L[i]'(by omega),List.getElem?_eq_getElem _⟩
  have hle:=aS_ (f:=wb) L (i + 1)
  rw [aY_ hx,List.length_append] at hle
  have hb:(l ++ beI 4 L.length ++ (L.take i).flatMap wb).length + (wb x).length≤999999999000:=by rw [List.length_append,List.length_append,am_];omega
  have hxm:=List.mem_of_getElem? hx
  have R:=hx
  refine r_ ?_
  iterate 2 refine s_ ?_
  refine lc_ fun o7 ho7=>?_
  repeat (rw [ad_] at ho7;obtain ⟨_,ho7⟩:=ho7)
  refine st_ ?_
  refine aa_ ?_
  obtain ⟨xo,hxo⟩:=WR.some h2;have n7:=(an_ hxo ho7).symm
  refine r_ ?_
  iterate 2 refine s_ ?_
  refine aL_X rfl rfl (bu_ rfl rfl (.inl v_) g_ va_ (hf _ _ x hxm (WR.alloc2 h2 n7) (hK _ _ hKσ (WF.alloc2 h3 ho7 n7)) hb) ?_);rintro _ υ ⟨rfl,u1,u2⟩
  refine aa_ ?_
  refine r_ ?_
  iterate 2 refine s_ ?_
  refine aa_ ?_
  refine bb_ (ι:=Store × Nat) (i:=⟨τ,i⟩) (υ,i + 1) ?_ ?_ ?_ ?_
  ·show L.length - (i + 1) < L.length - i;omega
  ·exact ⟨by show i + 1≤L.length;omega,by rw [aY_ hx,← List.append_assoc];exact u1,WF.trans (WF.alloc2 h3 ho7 n7) u2⟩
  ·exact cv_
  ·exact Store.Wk.refl _
 ·refine ay_ ?_
  refine af_ ?_
  refine af_ ?_
  refine aq_ ?_
  refine aD_ v_ (Store.Wk.refl _) ?_
  exact ⟨rfl,by rw [bq_,← List.append_assoc];rwa [List.take_of_length_le (by omega)] at h2,h3⟩
theorem ne_ {o G:Nat} {l:List UInt8} {L:List Sib} {t:Bool} {σ:Store} {fs cp:List AVal} {wb:Sib→List UInt8} (Kp:Store→Prop) (hgo:isGo Tryz.prog G=true) (hK:∀ τ τ',Kp τ→WF o τ τ'→Kp τ') (ho:WR σ o l) (hKσ:Kp σ)
  (hL:l.length + 4 + (L.flatMap wb).length≤999999999000) (hLb:L.length≤1000000)
  (hf:∀ τ l x,x∈L→WR τ o l→Kp τ→l.length + (wb x).length≤999999999000→ACalls Tryz.prog G (fs ++ [sSib x] ++ cp) τ fun v τ'=>v=.tup []∧WR τ' o (l ++ wb x)∧WF o τ τ') :
  ACalls Tryz.prog 447 [.ref o 0,.sl 5 (L.map sSib) t,.fn (.func G) fs cp] σ fun v σ'=>v=.tup []∧WR σ' o (l ++ bq_ wb L)∧WF o σ σ':=by
 refine en_ Tryz.func447 Tryz.ntmps447 Tryz.results447 ?_
 refine rr_ ?_
 iterate 3 refine s_ ?_
 refine x_ g_ va_ (ch_ (n:=(L.length:Int)) ho (by omega)) ?_;rintro _ τ0 ⟨rfl,g1,g2⟩
 refine aa_ ?_
 refine rr_ ?_
 iterate 3 refine s_ ?_
 refine aa_ ?_
 refine ah_ ?_
 refine ak_ (ι:=Store × Nat) (fun ⟨τ,i⟩=>L.length - i) (fun ⟨τ,i⟩=>i≤L.length∧WR τ o (l ++ beI 4 L.length ++ (L.take i).flatMap wb)∧WF o σ τ) (fun ⟨τ,i⟩=>[(2,.fn (.func G) fs cp),(12,.sl 5 (L.map sSib) t),(13,vInt L.length),(14,vInt i)]) (fun ⟨τ,i⟩=>τ) (τ0,0) ?_ ?_ ?_ ?_
 ·exact ⟨Nat.zero_le _,by simpa using g1,g2⟩
 ·exact cv_
 ·exact Store.Wk.refl _
 rintro ⟨τ,i⟩ ⟨h1,h2,h3⟩
 simp only [ar_,av_]
 refine rr_ ?_
 refine s_ ?_
 refine aa_ ?_
 refine ab_ ?_
 refine cd_ (fun hc2=>?_) (fun hc2=>?_)
 ·refine ae_ ?_
  refine ab_ ?_
  refine ah_ ?_
  refine ab_ ?_
  obtain ⟨x,hx⟩:∃ x,L[i]?=some x:=⟨L[i]'(by omega),List.getElem?_eq_getElem _⟩
  have hle:=aS_ (f:=wb) L (i + 1)
  rw [aY_ hx,List.length_append] at hle
  have hb:(l ++ beI 4 L.length ++ (L.take i).flatMap wb).length + (wb x).length≤999999999000:=by rw [List.length_append,List.length_append,am_];omega
  have hxm:=List.mem_of_getElem? hx
  have R:=hx
  refine r_ ?_
  iterate 2 refine s_ ?_
  refine lc_ fun o7 ho7=>?_
  repeat (rw [ad_] at ho7;obtain ⟨_,ho7⟩:=ho7)
  refine st_ ?_
  refine aa_ ?_
  obtain ⟨xo,hxo⟩:=WR.some h2;have n7:=(an_ hxo ho7).symm
  refine r_ ?_
  iterate 2 refine s_ ?_
  refine aL_X rfl rfl (bu_ rfl rfl (.inl v_) g_ va_ (hf _ _ x hxm (WR.alloc2 h2 n7) (hK _ _ hKσ (WF.alloc2 h3 ho7 n7)) hb) ?_);rintro _ υ ⟨rfl,u1,u2⟩
  refine aa_ ?_
  refine r_ ?_
  iterate 2 refine s_ ?_
  refine aa_ ?_
  refine bb_ (ι:=Store × Nat) (i:=⟨τ,i⟩) (υ,i + 1) ?_ ?_ ?_ ?_
  ·show L.length - (i + 1) < L.length - i;omega
  ·exact ⟨by show i + 1≤L.length;omega,by rw [aY_ hx,← List.append_assoc];exact u1,WF.trans (WF.alloc2 h3 ho7 n7) u2⟩
  ·exact cv_
  ·exact Store.Wk.refl _
 ·refine ay_ ?_
  refine af_ ?_
  refine af_ ?_
  refine aq_ ?_
  refine aD_ v_ (Store.Wk.refl _) ?_
  exact ⟨rfl,by rw [bq_,← List.append_assoc];rwa [List.take_of_length_le (by omega)] at h2,h3⟩
theorem t5_ {o:Nat} {l:List UInt8} {σ:Store} {n:Int} (ho:WR σ o l) (hl:l.length + (beI 8 n).length≤999999999000):ACalls Tryz.prog 316 ([.ref o 0] ++ [vInt n] ++ []) σ fun v σ'=>v=.tup []∧WR σ' o (l ++ beI 8 n)∧WF o σ σ':=fk_ ho (by omega)
theorem fq_ (l:List Int):(l.flatMap (beI 8)).length=8 * l.length:=by
 induction l with
 |nil=>rfl
 |cons x l ih=>rw [List.flatMap_cons,List.length_append,ih,am_,List.length_cons];omega
structure SeenSm (x:Seen):Prop where
 node:x.node.size≤1000000
 more:x.more.length≤1000000
structure SibSm (x:Sib):Prop where
 node:x.node.size≤1000000
 value:x.value.size≤1000000
theorem c4_ (x:Seen):(eW_ x).length=16 + x.node.size + 8 * x.more.length:=by
 simp only [eW_,bq_,List.length_append,ap_,am_,fq_];omega
theorem gE_ (x:Sib):(sibB x).length=25 + x.node.size + x.value.size:=by
 simp only [sibB,List.length_append,ap_,am_];omega
theorem jJ_ {α:Type} {f:α→List UInt8} {n:Nat}:∀ (l:List α),(∀ x∈l,(f x).length≤n)→(l.flatMap f).length≤n * l.length
 |[],_=>by simp
 |x :: l,h=>by
  have h1:=h x (List.mem_cons_self ..)
  have h2:=jJ_ l fun y hy=>h y (List.mem_cons_of_mem _ hy)
  rw [List.flatMap_cons,List.length_append,List.length_cons,Nat.mul_succ];omega
theorem q1_ {o ob:Nat} {l:List UInt8} {x:Seen} {σ:Store} (ho:WR σ o l) (hb:σ.heap ob=some (.cells [.ref o 0])) (hx:SeenSm x) (hl:l.length + (eW_ x).length≤999999999000):ACalls Tryz.prog 545 [aM_ x,.ref ob 0] σ fun v σ'=>v=.tup []∧WR σ' o (l ++ eW_ x)∧WF o σ σ':=by
 have hne:ob≠o:=fun hh=>by obtain ⟨a,b,old,h1,_⟩:=ho;rw [hh,h1] at hb;cases hb
 have h1:=hx.node;have h2:=hx.more
 rw [c4_] at hl
 refine en_ Tryz.func545 Tryz.ntmps545 Tryz.results545 ?_
 refine rr_ ?_
 refine bx_ fun o2 ho2=>?_
 repeat (rw [ad_] at ho2;obtain ⟨_,ho2⟩:=ho2)
 refine aa_ ?_
 obtain ⟨xo,hxo⟩:=WR.some ho
 have n2:=(an_ hxo ho2).symm
 have n2b:=(an_ hb ho2)
 refine ab_ ?_
 have R:=hb
 refine r_ ?_
 iterate 3 refine s_ ?_
 refine x_ g_ va_ (bW_ (WR.alloc ho n2) (by omega) (by omega)) ?_;rintro _ τ1 ⟨rfl,a1,a2⟩
 refine aa_ ?_
 refine ab_ ?_
 have b1:=WF.keep (i:=ob) (x:=.cells [.ref o 0]) a2 (by simp (disch:=omega) only [Store.set_ne,hb]) hne
 have b2:=WF.keep (i:=o2) (x:=.cells (aM_ x).cells) a2 (Store.set_get ..) n2
 have R:=And.intro b1 b2
 refine r_ ?_
 iterate 3 refine s_ ?_
 refine x_ g_ va_ (fk_ a1 (by simp only [List.length_append,ap_];omega)) ?_;rintro _ τ2 ⟨rfl,c1,c2⟩
 refine aa_ ?_
 have d1:=c2.keep b1 hne
 have d2:=c2.keep b2 n2
 have R:=And.intro d1 d2
 refine r_ ?_
 iterate 5 refine s_ ?_
 refine x_ g_ va_ (nd_ (wb:=beI 8) (fun _=>True) kr_ (fun _ _ _ _=>trivial) c1 trivial (by simp only [List.length_append,ap_,am_,fq_];omega) (by omega) (fun _ _ _ _ h _ hl=>t5_ h hl)) ?_;rintro _ τ3 ⟨rfl,e1,e2⟩
 refine aa_ ?_
 refine aD_ v_ (Store.Wk.refl _) ?_
 exact ⟨rfl,by simpa [eW_,List.append_assoc] using e1,(WF.alloc WF.refl ho2 n2).trans (a2.trans (c2.trans e2))⟩
theorem qK_ {x:Seen} (h:SeenSm x):(eW_ x).length≤9000016:=by rw [c4_];have:=h.node;have:=h.more;omega
theorem tE_ {x:Sib} (h:SibSm x):(sibB x).length≤2000025:=by rw [gE_];have:=h.node;have:=h.value;omega
structure ObjSm (x:Obj'):Prop where
 ctx:∀ y∈x.ctx,SeenSm y
 sibs:∀ y∈x.sibs,SibSm y
 nc:x.ctx.length≤1000
 ns:x.sibs.length≤1000
theorem jC_ {c:List Seen} (h:∀ y∈c,SeenSm y) (hn:c.length≤1000):(c.flatMap eW_).length≤9000016000:=by
 have:=jJ_ (f:=eW_) c fun x hx=>qK_ (h x hx)
 have h2:=Nat.mul_le_mul_left 9000016 hn
 omega
theorem lf_ {c:List Sib} (h:∀ y∈c,SibSm y) (hn:c.length≤1000):(c.flatMap sibB).length≤2000025000:=by
 have:=jJ_ (f:=sibB) c fun x hx=>tE_ (h x hx)
 have h2:=Nat.mul_le_mul_left 2000025 hn
 omega
theorem t3_ {o:Nat} {l:List UInt8} {c:List Seen} {t:Bool} {σ:Store} (ho:WR σ o l) (hc:∀ y∈c,SeenSm y) (hn:c.length≤1000) (hl:l.length≤980000000000):ACalls Tryz.prog 446 [.ref o 0,.sl 3 (c.map aM_) t] σ fun v σ'=>v=.tup []∧WR σ' o (l ++ ctxB c)∧WF o σ σ':=by
 have hle:=jC_ hc hn
 refine en_ Tryz.func446 Tryz.ntmps446 Tryz.results446 ?_
 refine rr_ ?_
 refine bx_ fun o2 ho2=>?_
 repeat (rw [ad_] at ho2;obtain ⟨_,ho2⟩:=ho2)
 refine aa_ ?_
 obtain ⟨xo,hxo⟩:=WR.some ho
 have n2:=(an_ hxo ho2).symm
 refine r_ ?_
 iterate 3 refine s_ ?_
 refine x_ g_ va_ (lP_ (wb:=eW_) (fun τ=>τ.heap o2=some (.cells [.ref o 0])) kr_ (fun _ _ h k=>k.keep h n2) (WR.alloc ho n2) (Store.set_get ..) (by omega) (by omega) (fun _ _ _ hm h hb hl=>q1_ h hb (hc _ hm) hl)) ?_;rintro _ τ ⟨rfl,a1,a2⟩
 refine aa_ ?_
 refine aD_ v_ (Store.Wk.refl _) ?_
 exact ⟨rfl,a1,(WF.alloc WF.refl ho2 n2).trans a2⟩
theorem t6_ {o ob:Nat} {l:List UInt8} {x:Sib} {σ:Store} (ho:WR σ o l) (hb:σ.heap ob=some (.cells [.ref o 0])) (hx:SibSm x) (hl:l.length + (sibB x).length≤999999999000):ACalls Tryz.prog 448 [sSib x,.ref ob 0] σ fun v σ'=>v=.tup []∧WR σ' o (l ++ sibB x)∧WF o σ σ':=by
 have hne:ob≠o:=fun hh=>by obtain ⟨a,b,old,h1,_⟩:=ho;rw [hh,h1] at hb;cases hb
 have h1:=hx.node;have h2:=hx.value
 rw [gE_] at hl
 refine en_ Tryz.func448 Tryz.ntmps448 Tryz.results448 ?_
 refine rr_ ?_
 refine bx_ fun o2 ho2=>?_
 repeat (rw [ad_] at ho2;obtain ⟨_,ho2⟩:=ho2)
 refine aa_ ?_
 obtain ⟨xo,hxo⟩:=WR.some ho
 have n2:=(an_ hxo ho2).symm
 have n2b:=(an_ hb ho2)
 refine ab_ ?_
 have R:=hb
 refine r_ ?_
 iterate 4 refine s_ ?_
 refine x_ g_ va_ (bW_ (WR.alloc ho n2) (by omega) (by omega)) ?_;rintro _ τ1 ⟨rfl,a1,a2⟩
 refine aa_ ?_
 refine ab_ ?_
 have b1:=WF.keep (i:=ob) (x:=.cells [.ref o 0]) a2 (by simp (disch:=omega) only [Store.set_ne,hb]) hne
 have b2:=WF.keep (i:=o2) (x:=.cells (sSib x).cells) a2 (Store.set_get ..) n2
 have R:=And.intro b1 b2
 refine r_ ?_
 iterate 4 refine s_ ?_
 refine x_ g_ va_ (fk_ a1 (by simp only [List.length_append,ap_];omega)) ?_;rintro _ τ2 ⟨rfl,c1,c2⟩
 refine aa_ ?_
 refine ab_ ?_
 have d1:=c2.keep b1 hne
 have d2:=c2.keep b2 n2
 have R:=And.intro d1 d2
 refine r_ ?_
 iterate 3 refine s_ ?_
 refine x_ g_ va_ (bW_ c1 (by simp only [List.length_append,ap_,am_];omega) (by omega)) ?_;rintro _ τ3 ⟨rfl,e1,e2⟩
 refine aa_ ?_
 refine ab_ ?_
 have f1:=e2.keep d1 hne
 have f2:=e2.keep d2 n2
 refine r_ ?_
 refine s_ ?_
 refine aa_ ?_
 refine bw_ (ι:=Unit) (fun _=>True) (fun _=>[(1,.ref ob 0),(2,.ref o2 0),(3,vInt (pU_ x.gone))]) (fun _=>τ3) ?_ ?_
 ·refine ab_ ?_
  have R:=f2
  refine r_ ?_
  iterate 2 refine s_ ?_
  refine aa_ ?_
  refine cd_ (fun hc5=>?_) (fun hc5=>?_)
  ·have hg1:pU_ x.gone=1:=by rw [hc5];rfl
   refine r_ ?_
   refine s_ ?_
   refine aa_ ?_
   refine ⟨(),?_,?_,?_⟩
   ·trivial
   ·have R:=hg1;exact cv_
   ·exact Store.Wk.refl _
  ·have hg2:pU_ x.gone=0:=by rw [hc5];rfl
   refine ae_ ?_
   refine ⟨(),?_,?_,?_⟩
   ·trivial
   ·have R:=hg2;exact cv_
   ·exact Store.Wk.refl _
 ·rintro _ _
  simp only [ar_,av_]
  refine ab_ ?_
  have R:=f1
  refine r_ ?_
  iterate 2 refine s_ ?_
  refine x_ g_ va_ (ij_ e1 (by simp only [List.length_append,ap_,am_];omega)) ?_;rintro _ τ4 ⟨rfl,g1,g2⟩
  refine aa_ ?_
  have i1:=g2.keep f1 hne
  have i2:=g2.keep f2 n2
  have R:=And.intro i1 i2
  refine r_ ?_
  iterate 3 refine s_ ?_
  refine x_ g_ va_ (fk_ g1 (by simp only [List.length_append,ap_,am_];omega)) ?_;rintro _ τ5 ⟨rfl,k1,k2⟩
  refine aa_ ?_
  refine aD_ v_ (Store.Wk.refl _) ?_
  exact ⟨rfl,by simpa [sibB,List.append_assoc] using k1,(WF.alloc WF.refl ho2 n2).trans (a2.trans (c2.trans (e2.trans (g2.trans k2))))⟩
theorem pf_ {o:Nat} {l:List UInt8} {x:Obj'} {σ:Store} (ho:WR σ o l) (hx:ObjSm x) (hl:l.length≤900000000000):ACalls Tryz.prog 317 [.ref o 0,sObj x] σ fun v σ'=>v=.tup []∧WR σ' o (l ++ objB x)∧WF o σ σ':=by
 have hle:=jC_ hx.ctx hx.nc
 have hle2:=lf_ hx.sibs hx.ns
 have hn:=hx.ns
 refine en_ Tryz.func317 Tryz.ntmps317 Tryz.results317 ?_
 refine rr_ ?_
 refine bx_ fun o2 ho2=>?_
 repeat (rw [ad_] at ho2;obtain ⟨_,ho2⟩:=ho2)
 refine bx_ fun o3 ho3=>?_
 repeat (rw [ad_] at ho3;obtain ⟨_,ho3⟩:=ho3)
 refine aa_ ?_
 obtain ⟨xo,hxo⟩:=WR.some ho
 have n2:=(an_ hxo ho2).symm
 have n3:=(an_ hxo ho3).symm
 have wf:=WF.alloc (x:=.cells (sObj x).cells) (WF.alloc (x:=.cells [.ref o 0]) WF.refl ho2 n2) (i:=o3) (by simp (disch:=omega) only [Store.set_ne,ho3]) n3
 refine rr_ ?_
 iterate 3 refine s_ ?_
 refine x_ g_ va_ (t3_ (WR.alloc (WR.alloc ho n2) n3) hx.ctx hx.nc (by omega)) ?_;rintro _ τ1 ⟨rfl,a1,a2⟩
 refine aa_ ?_
 have b1:=WF.keep (i:=o2) (x:=.cells [.ref o 0]) a2 h_ n2
 have b2:=WF.keep (i:=o3) (x:=.cells (sObj x).cells) a2 h_ n3
 have R:=And.intro b1 b2
 refine r_ ?_
 iterate 4 refine s_ ?_
 refine x_ g_ va_ (ne_ (wb:=sibB) (fun τ=>τ.heap o2=some (.cells [.ref o 0])) kr_ (fun _ _ h k=>k.keep h n2) a1 b1 (by simp only [List.length_append,ctxB,bq_,am_];omega) (by omega) (fun _ _ _ hm h hb hl=>t6_ h hb (hx.sibs _ hm) hl)) ?_;rintro _ τ2 ⟨rfl,c1,c2⟩
 refine aa_ ?_
 refine aD_ v_ (Store.Wk.refl _) ?_
 exact ⟨rfl,by simpa [objB,List.append_assoc] using c1,wf.trans (a2.trans c2)⟩
end Go.Proofs.YtkjfpgjpeofndaaGreatDoor
end

section
set_option linter.all false
set_option maxRecDepth 100000
namespace Go.Ab
structure Leaf where
 place:ByteArray
 digest:ByteArray
structure Itm where
 place:ByteArray
 obj:Obj'
structure Ent where
 key:ByteArray
 n:Int
 who:ByteArray
 value:ByteArray
structure Msg where
 kind:Int
 frm:ByteArray
 to:ByteArray
 num:Int
 err:Int
 place:ByteArray
 obj:Obj'
 texts:List ByteArray
 leaves:List Leaf
 items:List Itm
 ents:List Ent
@[reducible] def eV_ (x:Leaf):AVal:=.agg [.lit (.string x.place),.lit (.string x.digest)]
@[reducible] def cI_ (x:Itm):AVal:=.agg [.lit (.string x.place),.sl 3 (x.obj.ctx.map aM_) false,.sl 5 (x.obj.sibs.map sSib) false]
@[reducible] def sEnt (x:Ent):AVal:=.agg [.lit (.string x.key),vInt x.n,.lit (.string x.who),.lit (.string x.value)]
@[reducible] def sMsg (m:Msg):AVal:=.agg [vInt m.kind,.lit (.string m.frm),.lit (.string m.to),vInt m.num,vInt m.err,.lit (.string m.place),.sl 3 (m.obj.ctx.map aM_) false,.sl 5 (m.obj.sibs.map sSib) false,.sl 1 (m.texts.map vStr) false,.sl 2 (m.leaves.map eV_) false,.sl 3 (m.items.map cI_) false,.sl 4 (m.ents.map sEnt) false]
end Go.Ab
namespace Go.Proofs.YtkjfpgjpeofndaaGreatDoor
open Go.Ab
def ej_ (x:Leaf):List UInt8:=cj_ x.place ++ cj_ x.digest
def fi_ (x:Itm):List UInt8:=cj_ x.place ++ objB x.obj
def entB (x:Ent):List UInt8:=cj_ x.key ++ beI 8 x.n ++ cj_ x.who ++ cj_ x.value
def pV_ (m:Msg):List UInt8:=beI 1 m.kind ++ cj_ m.frm ++ cj_ m.to ++ beI 8 m.num ++ beI 1 m.err ++ cj_ m.place ++ objB m.obj ++ bq_ cj_ m.texts
def msgB (m:Msg):List UInt8:=pV_ m ++ bq_ ej_ m.leaves ++ bq_ fi_ m.items ++ bq_ entB m.ents
structure LeafSm (x:Leaf):Prop where
 place:x.place.size≤1000000
 digest:x.digest.size≤1000000
structure ItemSm (x:Itm):Prop where
 place:x.place.size≤1000000
 obj:ObjSm x.obj
structure EntSm (x:Ent):Prop where
 key:x.key.size≤1000000
 who:x.who.size≤1000000
 value:x.value.size≤1000000
structure MsgSm (m:Msg):Prop where
 frm:m.frm.size≤1000000
 to:m.to.size≤1000000
 place:m.place.size≤1000000
 obj:ObjSm m.obj
 texts:∀ x∈m.texts,x.size≤1000000
 leaves:∀ x∈m.leaves,LeafSm x
 items:∀ x∈m.items,ItemSm x
 ents:∀ x∈m.ents,EntSm x
 nt:m.texts.length≤1000
 nl:m.leaves.length≤1000
 ni:m.items.length≤1000
 li:(m.items.flatMap fi_).length≤260000000000
 ne:m.ents.length≤5000
theorem pS_ {α:Type} {f:α→List UInt8} {c:Nat}:∀ {l:List α},(∀ x∈l,(f x).length≤c)→(l.flatMap f).length≤c * l.length
 |[],_=>by simp
 |x :: l,h=>by
  have h1:=pS_ (l:=l) fun y hy=>h y (.tail _ hy)
  have h2:=h x (.head _)
  simp only [List.flatMap_cons,List.length_append,List.length_cons,Nat.mul_add,Nat.mul_one];omega
theorem qm_ {x:Obj'} (hx:ObjSm x):(objB x).length≤12000000000:=by
 have h1:=jC_ hx.ctx hx.nc
 have h2:=lf_ hx.sibs hx.ns
 simp only [objB,ctxB,bq_,List.length_append,am_];omega
structure MsgLn (m:Msg):Prop where
 texts:(m.texts.flatMap cj_).length≤1100000000
 leaves:(m.leaves.flatMap ej_).length≤2100000000
 items:(m.items.flatMap fi_).length≤260000000000
 ents:(m.ents.flatMap entB).length≤16000000000
 obj:(objB m.obj).length≤12000000000
theorem MsgSm.ln {m:Msg} (h:MsgSm m):MsgLn m:=by
 have h1:=pS_ (f:=cj_) (c:=1000004) (l:=m.texts) fun x hx=>by have:=h.texts x hx;rw [ap_];omega
 have h2:=pS_ (f:=ej_) (c:=2000008) (l:=m.leaves) fun x hx=>by
  have:=(h.leaves x hx).place;have:=(h.leaves x hx).digest
  simp only [ej_,List.length_append,ap_];omega
 have h4:=pS_ (f:=entB) (c:=3000020) (l:=m.ents) fun x hx=>by
  have:=(h.ents x hx).key;have:=(h.ents x hx).who;have:=(h.ents x hx).value
  simp only [entB,List.length_append,ap_,am_];omega
 have n1:=Nat.mul_le_mul_left 1000004 h.nt
 have n2:=Nat.mul_le_mul_left 2000008 h.nl
 have n4:=Nat.mul_le_mul_left 3000020 h.ne
 exact ⟨by omega,by omega,h.li,by omega,qm_ h.obj⟩
theorem pg_ {o:Nat} {l:List UInt8} {L:List ByteArray} {t:Bool} {σ:Store} (ho:WR σ o l) (hs:∀ x∈L,x.size≤1000000) (hL:l.length + 4 + (L.flatMap cj_).length≤999999999000) (hLb:L.length≤1000000) :
  ACalls Tryz.prog 259 [.ref o 0,.sl 1 (L.map vStr) t] σ fun v σ'=>v=.tup []∧WR σ' o (l ++ bq_ cj_ L)∧WF o σ σ':=by
 refine en_ Tryz.func259 Tryz.ntmps259 Tryz.results259 ?_
 refine rr_ ?_
 iterate 3 refine s_ ?_
 refine x_ g_ va_ (ch_ (n:=(L.length:Int)) ho (by omega)) ?_;rintro _ τ0 ⟨rfl,g1,g2⟩
 refine aa_ ?_
 refine rr_ ?_
 iterate 3 refine s_ ?_
 refine aa_ ?_
 refine ah_ ?_
 refine ak_ (ι:=Store × Nat) (fun ⟨τ,i⟩=>L.length - i) (fun ⟨τ,i⟩=>i≤L.length∧WR τ o (l ++ beI 4 L.length ++ (L.take i).flatMap cj_)∧WF o σ τ) (fun ⟨τ,i⟩=>[(0,.ref o 0),(10,.sl 1 (L.map vStr) t),(11,vInt L.length),(12,vInt i)]) (fun ⟨τ,i⟩=>τ) (τ0,0) ?_ ?_ ?_ ?_
 ·exact ⟨Nat.zero_le _,by simpa using g1,g2⟩
 ·exact cv_
 ·exact Store.Wk.refl _
 rintro ⟨τ,i⟩ ⟨h1,h2,h3⟩
 simp only [ar_,av_]
 refine rr_ ?_
 refine s_ ?_
 refine aa_ ?_
 refine ab_ ?_
 refine cd_ (fun hc2=>?_) (fun hc2=>?_)
 ·refine ae_ ?_
  refine ab_ ?_
  refine ah_ ?_
  refine ab_ ?_
  obtain ⟨x,hx⟩:∃ x,L[i]?=some x:=⟨L[i]'(by omega),List.getElem?_eq_getElem _⟩
  have hle:=aS_ (f:=cj_) L (i + 1)
  rw [aY_ hx,List.length_append,ap_] at hle
  have hxm:=hs x (List.mem_of_getElem? hx)
  have R:=hx
  refine r_ ?_
  iterate 3 refine s_ ?_
  refine aa_ ?_
  refine r_ ?_
  iterate 2 refine s_ ?_
  refine x_ g_ va_ (bW_ h2 (by rw [List.length_append,List.length_append,am_];omega) (by omega)) ?_;rintro _ υ ⟨rfl,u1,u2⟩
  refine aa_ ?_
  refine r_ ?_
  iterate 2 refine s_ ?_
  refine aa_ ?_
  refine bb_ (ι:=Store × Nat) (i:=⟨τ,i⟩) (υ,i + 1) ?_ ?_ ?_ ?_
  ·show L.length - (i + 1) < L.length - i;omega
  ·exact ⟨by show i + 1≤L.length;omega,by rw [aY_ hx,← List.append_assoc];exact u1,WF.trans h3 u2⟩
  ·exact cv_
  ·exact Store.Wk.refl _
 ·refine ay_ ?_
  refine af_ ?_
  refine af_ ?_
  refine aq_ ?_
  refine aD_ v_ (Store.Wk.refl _) ?_
  exact ⟨rfl,by rw [bq_,← List.append_assoc];rwa [List.take_of_length_le (by omega)] at h2,h3⟩
theorem lO_ {o G:Nat} {l:List UInt8} {L:List Leaf} {t:Bool} {σ:Store} {fs cp:List AVal} {wb:Leaf→List UInt8} (Kp:Store→Prop) (hgo:isGo Tryz.prog G=true) (hK:∀ τ τ',Kp τ→WF o τ τ'→Kp τ') (ho:WR σ o l) (hKσ:Kp σ)
  (hL:l.length + 4 + (L.flatMap wb).length≤800000000000) (hLb:L.length≤1000000)
  (hf:∀ τ l x,x∈L→WR τ o l→Kp τ→l.length + (wb x).length≤800000000000→ACalls Tryz.prog G (fs ++ [eV_ x] ++ cp) τ fun v τ'=>v=.tup []∧WR τ' o (l ++ wb x)∧WF o τ τ') :
  ACalls Tryz.prog 318 [.ref o 0,.sl 2 (L.map eV_) t,.fn (.func G) fs cp] σ fun v σ'=>v=.tup []∧WR σ' o (l ++ bq_ wb L)∧WF o σ σ':=by
 refine en_ Tryz.func318 Tryz.ntmps318 Tryz.results318 ?_
 refine rr_ ?_
 iterate 3 refine s_ ?_
 refine x_ g_ va_ (ch_ (n:=(L.length:Int)) ho (by omega)) ?_;rintro _ τ0 ⟨rfl,g1,g2⟩
 refine aa_ ?_
 refine rr_ ?_
 iterate 3 refine s_ ?_
 refine aa_ ?_
 refine ah_ ?_
 refine ak_ (ι:=Store × Nat) (fun ⟨τ,i⟩=>L.length - i) (fun ⟨τ,i⟩=>i≤L.length∧WR τ o (l ++ beI 4 L.length ++ (L.take i).flatMap wb)∧WF o σ τ) (fun ⟨τ,i⟩=>[(2,.fn (.func G) fs cp),(12,.sl 2 (L.map eV_) t),(13,vInt L.length),(14,vInt i)]) (fun ⟨τ,i⟩=>τ) (τ0,0) ?_ ?_ ?_ ?_
 ·exact ⟨Nat.zero_le _,by simpa using g1,g2⟩
 ·exact cv_
 ·exact Store.Wk.refl _
 rintro ⟨τ,i⟩ ⟨h1,h2,h3⟩
 simp only [ar_,av_]
 refine rr_ ?_
 refine s_ ?_
 refine aa_ ?_
 refine ab_ ?_
 refine cd_ (fun hc2=>?_) (fun hc2=>?_)
 ·refine ae_ ?_
  refine ab_ ?_
  refine ah_ ?_
  refine ab_ ?_
  obtain ⟨x,hx⟩:∃ x,L[i]?=some x:=⟨L[i]'(by omega),List.getElem?_eq_getElem _⟩
  have hle:=aS_ (f:=wb) L (i + 1)
  rw [aY_ hx,List.length_append] at hle
  have hb:(l ++ beI 4 L.length ++ (L.take i).flatMap wb).length + (wb x).length≤800000000000:=by rw [List.length_append,List.length_append,am_];omega
  have hxm:=List.mem_of_getElem? hx
  have R:=hx
  refine r_ ?_
  iterate 2 refine s_ ?_
  refine lc_ fun o7 ho7=>?_
  repeat (rw [ad_] at ho7;obtain ⟨_,ho7⟩:=ho7)
  refine st_ ?_
  refine aa_ ?_
  obtain ⟨xo,hxo⟩:=WR.some h2
  have n7:=(an_ hxo ho7).symm
  refine r_ ?_
  iterate 2 refine s_ ?_
  refine aL_X rfl rfl (bu_ rfl rfl (.inl v_) g_ va_ (hf _ _ x hxm (WR.alloc2 h2 n7) (hK _ _ hKσ (WF.alloc2 h3 ho7 n7)) hb) ?_);rintro _ υ ⟨rfl,u1,u2⟩
  refine aa_ ?_
  refine r_ ?_
  iterate 2 refine s_ ?_
  refine aa_ ?_
  refine bb_ (ι:=Store × Nat) (i:=⟨τ,i⟩) (υ,i + 1) ?_ ?_ ?_ ?_
  ·show L.length - (i + 1) < L.length - i;omega
  ·exact ⟨by show i + 1≤L.length;omega,by rw [aY_ hx,← List.append_assoc];exact u1,WF.trans (WF.alloc2 h3 ho7 n7) u2⟩
  ·exact cv_
  ·exact Store.Wk.refl _
 ·refine ay_ ?_
  refine af_ ?_
  refine af_ ?_
  refine aq_ ?_
  refine aD_ v_ (Store.Wk.refl _) ?_
  exact ⟨rfl,by rw [bq_,← List.append_assoc];rwa [List.take_of_length_le (by omega)] at h2,h3⟩
theorem lN_ {o G:Nat} {l:List UInt8} {L:List Itm} {t:Bool} {σ:Store} {fs cp:List AVal} {wb:Itm→List UInt8} (Kp:Store→Prop) (hgo:isGo Tryz.prog G=true) (hK:∀ τ τ',Kp τ→WF o τ τ'→Kp τ') (ho:WR σ o l) (hKσ:Kp σ)
  (hL:l.length + 4 + (L.flatMap wb).length≤800000000000) (hLb:L.length≤1000000)
  (hf:∀ τ l x,x∈L→WR τ o l→Kp τ→l.length + (wb x).length≤800000000000→ACalls Tryz.prog G (fs ++ [cI_ x] ++ cp) τ fun v τ'=>v=.tup []∧WR τ' o (l ++ wb x)∧WF o τ τ') :
  ACalls Tryz.prog 320 [.ref o 0,.sl 3 (L.map cI_) t,.fn (.func G) fs cp] σ fun v σ'=>v=.tup []∧WR σ' o (l ++ bq_ wb L)∧WF o σ σ':=by
 refine en_ Tryz.func320 Tryz.ntmps320 Tryz.results320 ?_
 refine rr_ ?_
 iterate 3 refine s_ ?_
 refine x_ g_ va_ (ch_ (n:=(L.length:Int)) ho (by omega)) ?_;rintro _ τ0 ⟨rfl,g1,g2⟩
 refine aa_ ?_
 refine rr_ ?_
 iterate 3 refine s_ ?_
 refine aa_ ?_
 refine ah_ ?_
 refine ak_ (ι:=Store × Nat) (fun ⟨τ,i⟩=>L.length - i) (fun ⟨τ,i⟩=>i≤L.length∧WR τ o (l ++ beI 4 L.length ++ (L.take i).flatMap wb)∧WF o σ τ) (fun ⟨τ,i⟩=>[(2,.fn (.func G) fs cp),(12,.sl 3 (L.map cI_) t),(13,vInt L.length),(14,vInt i)]) (fun ⟨τ,i⟩=>τ) (τ0,0) ?_ ?_ ?_ ?_
 ·exact ⟨Nat.zero_le _,by simpa using g1,g2⟩
 ·exact cv_
 ·exact Store.Wk.refl _
 rintro ⟨τ,i⟩ ⟨h1,h2,h3⟩
 simp only [ar_,av_]
 refine rr_ ?_
 refine s_ ?_
 refine aa_ ?_
 refine ab_ ?_
 refine cd_ (fun hc2=>?_) (fun hc2=>?_)
 ·refine ae_ ?_
  refine ab_ ?_
  refine ah_ ?_
  refine ab_ ?_
  obtain ⟨x,hx⟩:∃ x,L[i]?=some x:=⟨L[i]'(by omega),List.getElem?_eq_getElem _⟩
  have hle:=aS_ (f:=wb) L (i + 1)
  rw [aY_ hx,List.length_append] at hle
  have hb:(l ++ beI 4 L.length ++ (L.take i).flatMap wb).length + (wb x).length≤800000000000:=by rw [List.length_append,List.length_append,am_];omega
  have hxm:=List.mem_of_getElem? hx
  have R:=hx
  refine r_ ?_
  iterate 2 refine s_ ?_
  refine lc_ fun o7 ho7=>?_
  repeat (rw [ad_] at ho7;obtain ⟨_,ho7⟩:=ho7)
  refine st_ ?_
  refine aa_ ?_
  obtain ⟨xo,hxo⟩:=WR.some h2
  have n7:=(an_ hxo ho7).symm
  refine r_ ?_
  iterate 2 refine s_ ?_
  refine aL_X rfl rfl (bu_ rfl rfl (.inl v_) g_ va_ (hf _ _ x hxm (WR.alloc2 h2 n7) (hK _ _ hKσ (WF.alloc2 h3 ho7 n7)) hb) ?_);rintro _ υ ⟨rfl,u1,u2⟩
  refine aa_ ?_
  refine r_ ?_
  iterate 2 refine s_ ?_
  refine aa_ ?_
  refine bb_ (ι:=Store × Nat) (i:=⟨τ,i⟩) (υ,i + 1) ?_ ?_ ?_ ?_
  ·show L.length - (i + 1) < L.length - i;omega
  ·exact ⟨by show i + 1≤L.length;omega,by rw [aY_ hx,← List.append_assoc];exact u1,WF.trans (WF.alloc2 h3 ho7 n7) u2⟩
  ·exact cv_
  ·exact Store.Wk.refl _
 ·refine ay_ ?_
  refine af_ ?_
  refine af_ ?_
  refine aq_ ?_
  refine aD_ v_ (Store.Wk.refl _) ?_
  exact ⟨rfl,by rw [bq_,← List.append_assoc];rwa [List.take_of_length_le (by omega)] at h2,h3⟩
theorem q0_ {o ob:Nat} {l:List UInt8} {x:Leaf} {σ:Store} (ho:WR σ o l) (hb:σ.heap ob=some (.cells [.ref o 0])) (hx:LeafSm x) (hl:l.length + (ej_ x).length≤999999999000):ACalls Tryz.prog 319 [eV_ x,.ref ob 0] σ fun v σ'=>v=.tup []∧WR σ' o (l ++ ej_ x)∧WF o σ σ':=by
 have hne:ob≠o:=fun hh=>by obtain ⟨a,b,old,h1,_⟩:=ho;rw [hh,h1] at hb;cases hb
 have h1:=hx.place;have h2:=hx.digest
 simp only [ej_,List.length_append,ap_] at hl
 refine en_ Tryz.func319 Tryz.ntmps319 Tryz.results319 ?_
 refine rr_ ?_
 refine bx_ fun o2 ho2=>?_
 repeat (rw [ad_] at ho2;obtain ⟨_,ho2⟩:=ho2)
 refine aa_ ?_
 obtain ⟨xo,hxo⟩:=WR.some ho
 have n2:=(an_ hxo ho2).symm
 have n2b:=(an_ hb ho2)
 refine ab_ ?_
 have R:=hb
 refine r_ ?_
 iterate 3 refine s_ ?_
 refine x_ g_ va_ (bW_ (WR.alloc ho n2) (by omega) (by omega)) ?_;rintro _ τ1 ⟨rfl,a1,a2⟩
 refine aa_ ?_
 have b1:=WF.keep (i:=ob) (x:=.cells [.ref o 0]) a2 (by simp (disch:=omega) only [Store.set_ne,hb]) hne
 have b2:=WF.keep (i:=o2) (x:=.cells (eV_ x).cells) a2 (Store.set_get ..) n2
 have R:=And.intro b1 b2
 refine r_ ?_
 iterate 3 refine s_ ?_
 refine x_ g_ va_ (bW_ a1 (by simp only [List.length_append,ap_];omega) (by omega)) ?_;rintro _ τ2 ⟨rfl,c1,c2⟩
 refine aa_ ?_
 refine aD_ v_ (Store.Wk.refl _) ?_
 exact ⟨rfl,by simpa [ej_,List.append_assoc] using c1,(WF.alloc WF.refl ho2 n2).trans (a2.trans c2)⟩
theorem qZ_ {o ob:Nat} {l:List UInt8} {x:Itm} {σ:Store} (ho:WR σ o l) (hb:σ.heap ob=some (.cells [.ref o 0])) (hx:ItemSm x) (hl:l.length + (fi_ x).length≤800000000000):ACalls Tryz.prog 321 [cI_ x,.ref ob 0] σ fun v σ'=>v=.tup []∧WR σ' o (l ++ fi_ x)∧WF o σ σ':=by
 have hne:ob≠o:=fun hh=>by obtain ⟨a,b,old,h1,_⟩:=ho;rw [hh,h1] at hb;cases hb
 have h1:=hx.place
 refine en_ Tryz.func321 Tryz.ntmps321 Tryz.results321 ?_
 refine rr_ ?_
 refine bx_ fun o2 ho2=>?_
 repeat (rw [ad_] at ho2;obtain ⟨_,ho2⟩:=ho2)
 refine aa_ ?_
 obtain ⟨xo,hxo⟩:=WR.some ho
 have n2:=(an_ hxo ho2).symm
 have n2b:=(an_ hb ho2)
 refine ab_ ?_
 have R:=hb
 refine r_ ?_
 iterate 3 refine s_ ?_
 refine x_ g_ va_ (bW_ (WR.alloc ho n2) (by omega) (by omega)) ?_;rintro _ τ1 ⟨rfl,a1,a2⟩
 refine aa_ ?_
 have b1:=WF.keep (i:=ob) (x:=.cells [.ref o 0]) a2 (by simp (disch:=omega) only [Store.set_ne,hb]) hne
 have b2:=WF.keep (i:=o2) (x:=.cells (cI_ x).cells) a2 (Store.set_get ..) n2
 have R:=And.intro b1 b2
 refine r_ ?_
 iterate 3 refine s_ ?_
 refine x_ g_ va_ (pf_ a1 hx.obj (by simp only [List.length_append,ap_];omega)) ?_;rintro _ τ2 ⟨rfl,c1,c2⟩
 refine aa_ ?_
 refine aD_ v_ (Store.Wk.refl _) ?_
 exact ⟨rfl,by simpa [fi_,List.append_assoc] using c1,(WF.alloc WF.refl ho2 n2).trans (a2.trans c2)⟩
theorem t4_ {o:Nat} {l:List UInt8} {x:Ent} {σ:Store} (ho:WR σ o l) (hx:EntSm x) (hl:l.length + (entB x).length≤999999999000):ACalls Tryz.prog 384 [.agg [.ref o 0],sEnt x] σ fun v σ'=>v=.tup []∧WR σ' o (l ++ entB x)∧WF o σ σ':=by
 have h1:=hx.key;have h2:=hx.who;have h3:=hx.value
 simp only [entB,List.length_append,ap_,am_] at hl
 refine en_ Tryz.func384 Tryz.ntmps384 Tryz.results384 ?_
 refine rr_ ?_
 refine bx_ fun o2 ho2=>?_
 repeat (rw [ad_] at ho2;obtain ⟨_,ho2⟩:=ho2)
 refine bx_ fun o3 ho3=>?_
 repeat (rw [ad_] at ho3;obtain ⟨_,ho3⟩:=ho3)
 refine aa_ ?_
 obtain ⟨xo,hxo⟩:=WR.some ho
 have n2:=(an_ hxo ho2).symm
 have n3:=(an_ hxo ho3).symm
 have wf:=WF.alloc (x:=.cells (sEnt x).cells) (WF.alloc (x:=.cells [.ref o 0]) WF.refl ho2 n2) (i:=o3) (by simp (disch:=omega) only [Store.set_ne,ho3]) n3
 refine rr_ ?_
 iterate 4 refine s_ ?_
 refine x_ g_ va_ (bW_ (WR.alloc (WR.alloc ho n2) n3) (by omega) (by omega)) ?_;rintro _ τ1 ⟨rfl,a1,a2⟩
 refine aa_ ?_
 refine ab_ ?_
 have b1:=WF.keep (i:=o2) (x:=.cells [.ref o 0]) a2 h_ n2
 have b2:=WF.keep (i:=o3) (x:=.cells (sEnt x).cells) a2 h_ n3
 have R:=And.intro b1 b2
 refine r_ ?_
 iterate 5 refine s_ ?_
 refine x_ g_ va_ (fk_ a1 (by simp only [List.length_append,ap_];omega)) ?_;rintro _ τ2 ⟨rfl,c1,c2⟩
 refine aa_ ?_
 refine ab_ ?_
 have d1:=c2.keep b1 n2
 have d2:=c2.keep b2 n3
 have R:=And.intro d1 d2
 refine r_ ?_
 iterate 5 refine s_ ?_
 refine x_ g_ va_ (bW_ c1 (by simp only [List.length_append,ap_,am_];omega) (by omega)) ?_;rintro _ τ3 ⟨rfl,e1,e2⟩
 refine aa_ ?_
 have f1:=e2.keep d1 n2
 have f2:=e2.keep d2 n3
 have R:=And.intro f1 f2
 refine r_ ?_
 iterate 5 refine s_ ?_
 refine x_ g_ va_ (bW_ e1 (by simp only [List.length_append,ap_,am_];omega) (by omega)) ?_;rintro _ τ4 ⟨rfl,g1,g2⟩
 refine aa_ ?_
 refine aD_ v_ (Store.Wk.refl _) ?_
 exact ⟨rfl,by simpa [entB,List.append_assoc] using g1,wf.trans (a2.trans (c2.trans (e2.trans g2)))⟩
theorem lt_ {o:Nat} {l:List UInt8} {L:List Ent} {t:Bool} {σ:Store} (ho:WR σ o l) (hs:∀ x∈L,EntSm x) (hL:l.length + 4 + (L.flatMap entB).length≤999999999000) (hLb:L.length≤1000000) :
  ACalls Tryz.prog 240 [.ref o 0,.sl 4 (L.map sEnt) t] σ fun v σ'=>v=.tup []∧WR σ' o (l ++ bq_ entB L)∧WF o σ σ':=by
 refine en_ Tryz.func240 Tryz.ntmps240 Tryz.results240 ?_
 refine rr_ ?_
 iterate 3 refine s_ ?_
 refine x_ g_ va_ (ch_ (n:=(L.length:Int)) ho (by omega)) ?_;rintro _ τ0 ⟨rfl,g1,g2⟩
 refine aa_ ?_
 refine rr_ ?_
 iterate 4 refine s_ ?_
 refine aa_ ?_
 refine rr_ ?_
 iterate 3 refine s_ ?_
 refine aa_ ?_
 refine ah_ ?_
 refine ak_ (ι:=Store × Nat) (fun ⟨τ,i⟩=>L.length - i) (fun ⟨τ,i⟩=>i≤L.length∧WR τ o (l ++ beI 4 L.length ++ (L.take i).flatMap entB)∧WF o σ τ) (fun ⟨τ,i⟩=>[(4,.fn (.func 384) [.agg [.ref o 0]] []),(14,.sl 4 (L.map sEnt) t),(15,vInt L.length),(16,vInt i)]) (fun ⟨τ,i⟩=>τ) (τ0,0) ?_ ?_ ?_ ?_
 ·exact ⟨Nat.zero_le _,by simpa using g1,g2⟩
 ·exact cv_
 ·exact Store.Wk.refl _
 rintro ⟨τ,i⟩ ⟨h1,h2,h3⟩
 simp only [ar_,av_]
 refine rr_ ?_
 refine s_ ?_
 refine aa_ ?_
 refine ab_ ?_
 refine cd_ (fun hc3=>?_) (fun hc3=>?_)
 ·refine ae_ ?_
  refine ab_ ?_
  refine ah_ ?_
  refine ab_ ?_
  obtain ⟨x,hx⟩:∃ x,L[i]?=some x:=⟨L[i]'(by omega),List.getElem?_eq_getElem _⟩
  have hle:=aS_ (f:=entB) L (i + 1)
  rw [aY_ hx,List.length_append] at hle
  have hb:(l ++ beI 4 L.length ++ (L.take i).flatMap entB).length + (entB x).length≤999999999000:=by rw [List.length_append,List.length_append,am_];omega
  have hxm:=hs x (List.mem_of_getElem? hx)
  have R:=hx
  refine r_ ?_
  iterate 2 refine s_ ?_
  refine lc_ fun o6 ho6=>?_
  repeat (rw [ad_] at ho6;obtain ⟨_,ho6⟩:=ho6)
  refine st_ ?_
  refine aa_ ?_
  obtain ⟨xo,hxo⟩:=WR.some h2
  have n6:=(an_ hxo ho6).symm
  refine r_ ?_
  iterate 2 refine s_ ?_
  refine aL_X rfl rfl (bu_ rfl rfl (.inl v_) g_ va_ (t4_ (WR.alloc2 h2 n6) hxm hb) ?_);rintro _ υ ⟨rfl,u1,u2⟩
  refine aa_ ?_
  refine r_ ?_
  iterate 2 refine s_ ?_
  refine aa_ ?_
  refine bb_ (ι:=Store × Nat) (i:=⟨τ,i⟩) (υ,i + 1) ?_ ?_ ?_ ?_
  ·show L.length - (i + 1) < L.length - i;omega
  ·exact ⟨by show i + 1≤L.length;omega,by rw [aY_ hx,← List.append_assoc];exact u1,WF.trans (WF.alloc2 h3 ho6 n6) u2⟩
  ·exact cv_
  ·exact Store.Wk.refl _
 ·refine ay_ ?_
  refine af_ ?_
  refine af_ ?_
  refine aq_ ?_
  refine aD_ v_ (Store.Wk.refl _) ?_
  exact ⟨rfl,by rw [bq_,← List.append_assoc];rwa [List.take_of_length_le (by omega)] at h2,h3⟩
end Go.Proofs.YtkjfpgjpeofndaaGreatDoor
end

section
set_option linter.all false
set_option maxRecDepth 100000
namespace Go.Proofs.YtkjfpgjpeofndaaGreatDoor
open Go.Ab
def lett (c:Int):Bool:=decide (97≤c) && decide (c≤122) || (decide (48≤c) && decide (c≤57)) || decide (c=45)
def letB (b:UInt8):Bool:=lett b.toNat
def bX_ (s:ByteArray):Bool:=decide (1≤s.size) && decide (s.size≤16) && (Lb s).all letB
theorem mv_ {s:ByteArray} {p:Nat} (h:p < s.size):(Lb s)[p]?=some (s[p]'h):=by
 rw [List.getElem?_eq_getElem (by rw [aX_];exact h)]
 rfl
theorem ty_ {s:ByteArray} {p:Nat} (h:p < s.size) (ha:(s[p]'h).toNat < 128):cX_ s p=((s[p]'h).toNat:Int)∧h5_ s p=1:=by
 have:=decode_ascii s p h ha
 exact ⟨by rw [cX_,this],by rw [h5_,this]⟩
theorem k9_ {s:ByteArray} {p:Nat} (h:p < s.size):lett (cX_ s p)=letB (s[p]'h)∧(letB (s[p]'h)=true→h5_ s p=1):=by
 by_cases ha:(s[p]'h).toNat < 128
 ·obtain ⟨h1,h2⟩:=ty_ h ha
  exact ⟨by rw [h1];rfl,fun _=>h2⟩
 ·have h1:=(decode_high s p h (by omega)).1
  have e1:lett (cX_ s p)=false:=by
   have:(128:Int)≤cX_ s p:=by unfold cX_;omega
   unfold lett
   rw [decide_eq_false (show ¬ cX_ s p≤122 by omega),decide_eq_false (show ¬ cX_ s p≤57 by omega),decide_eq_false (show ¬ cX_ s p=45 by omega)]
   simp
  have e2:letB (s[p]'h)=false:=by
   unfold letB lett
   rw [decide_eq_false (show ¬ (((s[p]'h).toNat:Nat):Int)≤122 by omega),decide_eq_false (show ¬ (((s[p]'h).toNat:Nat):Int)≤57 by omega),decide_eq_false (show ¬ (((s[p]'h).toNat:Nat):Int)=45 by omega)]
   simp
  exact ⟨by rw [e1,e2],fun hh=>by rw [e2] at hh;cases hh⟩
theorem dg_ {l:List UInt8} {p:Nat} {c:UInt8} (f:UInt8→Bool) (h:l[p]?=some c) (ha:(l.take p).all f=true) (hc:f c=true):(l.take (p + 1)).all f=true:=by
 rw [bE_ h,List.all_append,ha];simp [hc]
theorem mC_ {l:List UInt8} {p:Nat} {c:UInt8} (f:UInt8→Bool) (h:l[p]?=some c) (hc:f c=false):l.all f=false:=by
 rw [List.all_eq_false]
 exact ⟨c,List.mem_of_getElem? h,by simp [hc]⟩
theorem hc_ {c:Int} {σ:Store}:ACalls Tryz.prog 122 [.lit (.int .i32 c)] σ fun v σ'=>v=.lit (.bool (lett c))∧σ=σ':=by
 refine en_ Tryz.func122 Tryz.ntmps122 Tryz.results122 ?_
 refine rr_ ?_
 refine s_ ?_
 refine aa_ ?_
 refine rr_ ?_
 iterate 3 refine s_ ?_
 refine gt_ ?_
 refine gt_ ?_
 iterate 2 refine s_ ?_
 refine gf_ ?_
 refine gf_ ?_
 refine gf_ ?_
 refine c0_ rfl rfl v_ rfl vg_ ?_
 refine c0_ rfl rfl v_ rfl vg_ ?_
 refine gf_ ?_
 iterate 2 refine s_ ?_
 refine gf_ ?_
 refine gf_ ?_
 iterate 2 refine s_ ?_
 refine aa_ ?_
 refine ac_ ?_
 refine er_ σ ?_
 refine ⟨?_,rfl⟩
 try unfold lett
 by_cases h1:97≤c <;> by_cases h2:c≤122 <;> by_cases h3:48≤c <;> by_cases h4:c≤57 <;> by_cases h5:c=45 <;> simp [h1,h2,h3,h4,h5]
theorem cF_ {s:ByteArray} {σ:Store} (hs:s.size≤1000000000000):ACalls Tryz.prog 58 [vStr s] σ fun v σ'=>v=.lit (.bool (bX_ s))∧σ=σ':=by
 have h0:s=⟨#[]⟩ ↔ s.size=0:=⟨fun h=>by rw [h];rfl,fun h=>by apply ByteArray.ext;exact Array.eq_empty_of_size_eq_zero h⟩
 refine en_ Tryz.func58 Tryz.ntmps58 Tryz.results58 ?_
 refine rr_ ?_
 refine s_ ?_
 refine aa_ ?_
 refine ab_ ?_
 refine ab_ ?_
 have R:=h0
 refine r_ ?_
 iterate 3 refine s_ ?_
 refine gf_ ?_
 refine gf_ ?_
 refine gf_ ?_
 refine s_ ?_
 refine aa_ ?_
 refine cd_ (fun hc1=>?_) (fun hc1=>?_)
 ·refine rr_ ?_
  refine s_ ?_
  refine aa_ ?_
  refine ac_ ?_
  refine er_ σ ?_
  refine ⟨?_,rfl⟩
  simp only [bX_]
  rcases hc1 with h | h
  ·rw [decide_eq_false (show ¬ 1≤s.size by omega)];rfl
  ·rw [decide_eq_false (show ¬ s.size≤16 by omega)];simp
 ·refine ae_ ?_
  refine ab_ ?_
  refine rr_ ?_
  refine s_ ?_
  refine aL_X rfl rfl (AOp_rangeS rfl g_ va_ fun o13 ho13=>?_)
  refine aa_ ?_
  refine ah_ ?_
  refine ak_ (ι:=Nat) (fun p=>s.size - p) (fun p=>p≤s.size∧((Lb s).take p).all letB=true) (fun p=>[(13,.ref o13 0)]) (fun p=>(σ.set o13 (.raw (.stringIter s p)))) 0 ?_ ?_ ?_ ?_
  ·exact ⟨Nat.zero_le _,rfl⟩
  ·exact cv_
  ·exact Store.Wk.refl _
  rintro p ⟨hp,ha⟩
  simp only [ar_,av_]
  refine ab_ ?_
  by_cases hs4:p < s.size
  ·refine r_ ?_
   first | (refine aL_X rfl rfl (AOp_nextS rfl va_ (Store.set_get ..) (fun _=>?_) (fun hp=>absurd hs4 hp))) | (refine aL_X rfl rfl (AOp_nextS rfl va_ (Store.set_get ..) (fun hp=>absurd hp hs4) (fun _=>?_)))
   refine s_ ?_
   refine aa_ ?_
   refine ab_ ?_
   refine cd_ (fun hc4=>?_) (fun hc4=>?_)
   ·first
     |(exfalso;revert hc4;decide)
     |skip
      refine ae_ ?_
      refine ah_ ?_
      refine ab_ ?_
      obtain ⟨hl,hl2⟩:=k9_ hs4
      have hg:=mv_ hs4
      refine r_ ?_
      iterate 2 refine s_ ?_
      refine aa_ ?_
      refine rr_ ?_
      refine s_ ?_
      refine x_ g_ va_ (hc_) ?_;rintro _ _ ⟨rfl,rfl⟩
      refine s_ ?_
      refine aa_ ?_
      refine cd_ (fun hc6=>?_) (fun hc6=>?_)
      ·refine rr_ ?_
       refine s_ ?_
       refine aa_ ?_
       refine ac_ ?_
       refine er_ σ ?_
       refine ⟨?_,rfl⟩
       have hlf:letB (s[p]'hs4)=false:=by rw [← hl];simpa using hc6
       simp only [bX_]
       rw [mC_ letB hg hlf];simp
      ·have hlt:letB (s[p]'hs4)=true:=by rw [← hl];simpa using hc6
       have hw:=hl2 hlt
       have hnx:=dg_ letB hg ha hlt
       refine ae_ ?_
       refine bb_ (ι:=Nat) (i:=p) (p + 1) ?_ ?_ ?_ ?_
       ·omega
       ·exact ⟨by omega,hnx⟩
       ·exact cv_
       ·rw [Store.set_set,hw];exact Store.Wk.refl _
   ·first
     |(exfalso;revert hc4;decide)
     |skip
      refine ay_ ?_
      refine af_ ?_
      refine af_ ?_
      refine aq_ ?_
      refine rr_ ?_
      refine s_ ?_
      refine aa_ ?_
      refine ac_ ?_
      refine er_ σ ?_
      exact ⟨rfl,rfl⟩
  ·refine r_ ?_
   first | (refine aL_X rfl rfl (AOp_nextS rfl va_ (Store.set_get ..) (fun _=>?_) (fun hp=>absurd hs4 hp))) | (refine aL_X rfl rfl (AOp_nextS rfl va_ (Store.set_get ..) (fun hp=>absurd hp hs4) (fun _=>?_)))
   refine s_ ?_
   refine aa_ ?_
   refine ab_ ?_
   refine cd_ (fun hc4=>?_) (fun hc4=>?_)
   ·first
     |(exfalso;revert hc4;decide)
     |skip
      refine ae_ ?_
      refine ah_ ?_
      refine ab_ ?_
      obtain ⟨hl,hl2⟩:=k9_ hs4
      have hg:=mv_ hs4
      refine r_ ?_
      iterate 2 refine s_ ?_
      refine aa_ ?_
      refine rr_ ?_
      refine s_ ?_
      refine x_ g_ va_ (hc_) ?_;rintro _ _ ⟨rfl,rfl⟩
      refine s_ ?_
      refine aa_ ?_
      refine cd_ (fun hc6=>?_) (fun hc6=>?_)
      ·refine rr_ ?_
       refine s_ ?_
       refine aa_ ?_
       refine ac_ ?_
       refine er_ σ ?_
       exact ⟨rfl,rfl⟩
      ·have hlt:letB (s[p]'hs4)=true:=by rw [← hl];simpa using hc6
       have hw:=hl2 hlt
       have hnx:=dg_ letB hg ha hlt
       refine ae_ ?_
       refine bb_ (ι:=Nat) (i:=p) (p + 1) ?_ ?_ ?_ ?_
       ·omega
       ·exact ⟨by omega,hnx⟩
       ·exact cv_
       ·rw [Store.set_set,hw];exact Store.Wk.refl _
   ·first
     |(exfalso;revert hc4;decide)
     |skip
      refine ay_ ?_
      refine af_ ?_
      refine af_ ?_
      refine aq_ ?_
      refine rr_ ?_
      refine s_ ?_
      refine aa_ ?_
      refine ac_ ?_
      refine er_ σ ?_
      refine ⟨?_,rfl⟩
      obtain rfl:p=s.size:=by omega
      rw [List.take_of_length_le (by rw [aX_];exact Nat.le_refl _)] at ha
      simp only [bX_]
      rw [ha,decide_eq_true (show 1≤s.size by omega),decide_eq_true (show s.size≤16 by omega)];rfl
theorem qb_ (c:UInt8):letB c=true ↔ ((97≤((c.toNat:Nat):Int)∧((c.toNat:Nat):Int)≤122)∨(48≤((c.toNat:Nat):Int)∧((c.toNat:Nat):Int)≤57))∨((c.toNat:Nat):Int)=45:=by simp [letB,lett]
theorem xY_ {s:ByteArray} {σ:Store} (hs:s.size≤1000000000000):ACalls Tryz.prog 246 [vStr s] σ fun v σ'=>v=.lit (.bool (bX_ s))∧σ=σ':=by
 refine en_ Tryz.func246 Tryz.ntmps246 Tryz.results246 ?_
 refine rr_ ?_
 refine s_ ?_
 refine aa_ ?_
 refine ab_ ?_
 refine rr_ ?_
 refine s_ ?_
 refine aa_ ?_
 refine ah_ ?_
 refine ak_ (ι:=Nat) (fun p=>s.size - p) (fun p=>p≤s.size∧((Lb s).take p).all letB=true) (fun p=>[(0,vStr s),(3,vInt p)]) (fun p=>σ) 0 ?_ ?_ ?_ ?_
 ·exact ⟨Nat.zero_le _,rfl⟩
 ·exact cv_
 ·exact sub_
 rintro p ⟨hp,ha⟩
 simp only [ar_,av_]
 refine ab_ ?_
 refine rr_ ?_
 iterate 4 refine s_ ?_
 refine aa_ ?_
 refine cd_ (fun hc2=>?_) (fun hc2=>?_)
 ·refine ae_ ?_
  refine ab_ ?_
  refine ah_ ?_
  refine ab_ ?_
  have hp':p < s.size:=by omega
  have hg:=mv_ hp'
  have hg2:s[p]?=some (s[p]'hp'):=getElem?_pos s p hp'
  obtain ⟨c,hc⟩:∃ c,s[p]'hp'=c:=⟨_,rfl⟩
  rw [hc] at hg hg2
  have hcl:=qb_ c
  have R:=hg2
  refine r_ ?_
  iterate 5 refine s_ ?_
  refine gf_ ?_
  refine gf_ ?_
  refine gf_ ?_
  refine gf_ ?_
  iterate 2 refine s_ ?_
  refine gt_ ?_
  refine gt_ ?_
  refine gt_ ?_
  refine gt_ ?_
  refine gt_ ?_
  refine bJ_ rfl rfl v_ rfl vg_ ?_
  refine bJ_ rfl rfl v_ rfl vg_ ?_
  refine bJ_ rfl rfl v_ rfl vg_ ?_
  refine bJ_ rfl rfl v_ rfl vg_ ?_
  refine gt_ ?_
  iterate 2 refine s_ ?_
  refine gt_ ?_
  refine gt_ ?_
  refine gt_ ?_
  refine gt_ ?_
  refine s_ ?_
  refine aa_ ?_
  refine cd_ (fun hc4=>?_) (fun hc4=>?_)
  ·skip
   have hlf:letB c=false:=by
    cases h:letB c with
    |false=>rfl
    |true=>rw [hcl] at h;omega
   refine rr_ ?_
   refine s_ ?_
   refine aa_ ?_
   refine ac_ ?_
   refine er_ σ ?_
   refine ⟨?_,rfl⟩
   simp only [bX_]
   rw [mC_ letB hg hlf];simp
  ·have hnx:=dg_ letB hg ha (hcl.2 (by omega))
   refine ae_ ?_
   refine r_ ?_
   iterate 3 refine s_ ?_
   refine aa_ ?_
   refine bb_ (ι:=Nat) (i:=p) (p + 1) ?_ ?_ ?_ ?_
   ·omega
   ·exact ⟨by omega,hnx⟩
   ·exact cv_
   ·exact sub_
 ·refine ay_ ?_
  refine af_ ?_
  refine af_ ?_
  refine aq_ ?_
  refine rr_ ?_
  iterate 4 refine s_ ?_
  refine gt_ ?_
  refine gt_ ?_
  refine gt_ ?_
  iterate 2 refine s_ ?_
  refine aa_ ?_
  refine ac_ ?_
  refine er_ σ ?_
  refine ⟨?_,rfl⟩
  obtain rfl:p=s.size:=by omega
  rw [List.take_of_length_le (by rw [aX_];exact Nat.le_refl _)] at ha
  simp only [bX_]
  rw [ha,Bool.and_true]
  congr 2
  rw [Bool.eq_iff_iff];simp;omega
def d9_:Int→List Int→Bool
 |_,[]=>true
 |last,n :: l=>decide (last < n) && decide (n≤9007199254740992) && d9_ n l
def eb_ (x:Seen):Bool:=bX_ x.node && decide (0≤x.base) && decide (x.base≤9007199254740992) && !(decide (x.base=0) && decide (x.more.length=0))
def cY_ (x:Seen):Bool:=eb_ x && d9_ (x.base + 1) x.more
def ca_ (pv:Option ByteArray) (s:ByteArray):Bool:=match pv with | none=>true | some p=>sLt p s
def fB_:Option ByteArray→Int→List Seen→Bool
 |_,_,[]=>true
 |pv,room,x :: l=>cY_ x && ca_ pv x.node && decide ((x.more.length:Int)≤room) && fB_ (some x.node) (room - x.more.length) l
def ew_ (c:List Seen):Bool:=fB_ none 4096 c
theorem dc_ {α:Type} {l:List α} {k:Nat} {x:α} (h:l[k]?=some x):l.drop k=x :: l.drop (k + 1):=by
 obtain ⟨hk,rfl⟩:=List.getElem?_eq_some_iff.1 h
 exact List.drop_eq_getElem_cons hk
theorem a0_ {α:Type} {l:List α} {k:Nat} (h:k < l.length):∃ x,l[k]?=some x:=⟨l[k],List.getElem?_eq_getElem h⟩
theorem jb_ {x:Seen} (h:eb_ x=false):cY_ x=false:=by simp [cY_,h]
theorem mm_ {x:Seen} (h:((bX_ x.node=true∧0≤x.base)∧x.base≤9007199254740992)∧(¬ x.base=0∨¬ (x.more.length:Int)=0)):eb_ x=true:=by
 obtain ⟨⟨⟨h1,h2⟩,h3⟩,h4⟩:=h
 unfold eb_
 rw [h1,decide_eq_true h2,decide_eq_true h3]
 rcases h4 with h | h
 ·rw [decide_eq_false h];rfl
 ·rw [decide_eq_false (show ¬ x.more.length=0 by omega)];simp
theorem ml_ {x:Seen} (h:((bX_ x.node=false∨x.base < 0)∨9007199254740992 < x.base)∨x.base=0∧(x.more.length:Int)=0):eb_ x=false:=by
 unfold eb_
 rcases h with ((h | h) | h) | ⟨h,h'⟩
 ·rw [h];rfl
 ·rw [decide_eq_false (show ¬ 0≤x.base by omega)];simp
 ·rw [decide_eq_false (show ¬ x.base≤9007199254740992 by omega)];simp
 ·rw [decide_eq_true h,decide_eq_true (show x.more.length=0 by omega)];simp
theorem p1_ {x:Seen} {σ:Store} (hx:SeenSm x):ACalls Tryz.prog 529 [aM_ x] σ fun v σ'=>v=.lit (.bool (cY_ x))∧σ=σ':=by
 have h1:=hx.node;have h2:=hx.more
 refine en_ Tryz.func529 Tryz.ntmps529 Tryz.results529 ?_
 refine rr_ ?_
 refine bx_ fun o1 ho1=>?_
 repeat (rw [ad_] at ho1;obtain ⟨_,ho1⟩:=ho1)
 refine s_ ?_
 refine aa_ ?_
 refine ab_ ?_
 refine rr_ ?_
 iterate 2 refine s_ ?_
 refine x_ g_ va_ (cF_ (by omega)) ?_;rintro _ _ ⟨rfl,rfl⟩
 iterate 2 refine s_ ?_
 refine gf_ ?_
 refine gf_ ?_
 refine gf_ ?_
 iterate 2 refine s_ ?_
 refine gf_ ?_
 refine gf_ ?_
 refine gf_ ?_
 iterate 2 refine s_ ?_
 refine gf_ ?_
 refine gf_ ?_
 refine gf_ ?_
 refine gf_ ?_
 refine c0_ rfl rfl v_ rfl vg_ ?_
 refine c0_ rfl rfl v_ rfl vg_ ?_
 refine c0_ rfl rfl v_ rfl vg_ ?_
 refine c0_ rfl rfl v_ rfl vg_ ?_
 refine gf_ ?_
 refine s_ ?_
 refine aa_ ?_
 refine cd_ (fun hc1=>?_) (fun hc1=>?_)
 ·skip
  have hf:cY_ x=false:=by
   refine jb_ ?_
   exact ml_ hc1
  refine rr_ ?_
  refine s_ ?_
  refine aa_ ?_
  refine ac_ ?_
  refine er_ σ ?_
  exact ⟨by rw [hf],rfl⟩
 ·skip
  have hf:eb_ x=true:=mm_ hc1
  have hb:0≤x.base∧x.base≤9007199254740992:=by omega
  refine ae_ ?_
  refine rr_ ?_
  iterate 4 refine s_ ?_
  refine aa_ ?_
  refine ab_ ?_
  refine rr_ ?_
  iterate 4 refine s_ ?_
  refine aa_ ?_
  refine ah_ ?_
  refine ak_ (ι:=Nat × Int) (fun ⟨k,z⟩=>x.more.length - k) (fun ⟨k,z⟩=>k≤x.more.length∧d9_ z (x.more.drop k)=d9_ (x.base + 1) x.more) (fun ⟨k,z⟩=>[(3,vInt z),(35,.sl 1 (x.more.map vInt) false),(36,vInt x.more.length),(37,vInt k)]) (fun ⟨k,z⟩=>(σ.set o1 (.cells (aM_ x).cells))) (0,x.base + 1) ?_ ?_ ?_ ?_
  ·exact ⟨Nat.zero_le _,rfl⟩
  ·exact cv_
  ·exact Store.Wk.refl _
  rintro ⟨k,z⟩ ⟨hk,hr⟩
  simp only [ar_,av_]
  refine rr_ ?_
  refine s_ ?_
  refine aa_ ?_
  refine ab_ ?_
  refine cd_ (fun hc5=>?_) (fun hc5=>?_)
  ·refine ae_ ?_
   refine ab_ ?_
   refine ah_ ?_
   refine ab_ ?_
   obtain ⟨n,hn⟩:=a0_ (l:=x.more) (k:=k) (by omega)
   have hrn:d9_ z (x.more.drop k)=(decide (z < n) && decide (n≤9007199254740992) && d9_ n (x.more.drop (k + 1))):=by rw [dc_ hn];rfl
   have R:=hn
   refine r_ ?_
   iterate 3 refine s_ ?_
   refine aa_ ?_
   refine ab_ ?_
   refine rr_ ?_
   iterate 4 refine s_ ?_
   refine gf_ ?_
   refine gf_ ?_
   refine s_ ?_
   refine aa_ ?_
   refine cd_ (fun hc7=>?_) (fun hc7=>?_)
   ·refine rr_ ?_
    refine s_ ?_
    refine aa_ ?_
    refine ac_ ?_
    refine er_ σ ?_
    refine ⟨?_,rfl⟩
    have:cY_ x=false:=by
     unfold cY_
     rw [← hr,hrn]
     rcases hc7 with h | h
     ·rw [decide_eq_false (show ¬ z < n by omega)];simp
     ·rw [decide_eq_false (show ¬ n≤9007199254740992 by omega)];simp
    rw [this]
   ·refine ae_ ?_
    refine r_ ?_
    iterate 2 refine s_ ?_
    refine aa_ ?_
    refine r_ ?_
    iterate 2 refine s_ ?_
    refine aa_ ?_
    refine bb_ (ι:=Nat × Int) (i:=⟨k,z⟩) (k + 1,n) ?_ ?_ ?_ ?_
    ·show x.more.length - (k + 1) < x.more.length - k;omega
    ·exact ⟨by show k + 1≤x.more.length;omega,by rw [← hr,hrn,decide_eq_true (show z < n by omega),decide_eq_true (show n≤9007199254740992 by omega)];rfl⟩
    ·exact cv_
    ·exact Store.Wk.refl _
  ·refine ay_ ?_
   refine af_ ?_
   refine af_ ?_
   refine aq_ ?_
   refine rr_ ?_
   refine s_ ?_
   refine aa_ ?_
   refine ac_ ?_
   refine er_ σ ?_
   refine ⟨?_,rfl⟩
   have:cY_ x=true:=by
    unfold cY_
    rw [← hr,hf,List.drop_eq_nil_of_le (by omega)];rfl
   rw [this]
def pvOf (c:List Seen) (k:Nat):Option ByteArray:=if k=0 then none else (c[k - 1]?).map (·.node)
theorem tf_ {c:List Seen} {k:Nat} {x:Seen} (h:c[k]?=some x):pvOf c (k + 1)=some x.node:=by simp [pvOf,h]
theorem tg_ (c:List Seen) (k:Nat) (hk:k < c.length):∃ y:Seen,(0 < k→c[((k:Int) - 1).toNat]?=some y)∧∀ s,ca_ (pvOf c k) s=(decide (k=0) || sLt y.node s):=by
 by_cases h0:k=0
 ·subst h0
  exact ⟨⟨.empty,0,[]⟩,fun h=>by omega,fun s=>rfl⟩
 ·obtain ⟨y,hy⟩:=a0_ (l:=c) (k:=k - 1) (by omega)
  have e:((k:Int) - 1).toNat=k - 1:=by omega
  exact ⟨y,fun _=>by rw [e];exact hy,fun s=>by simp [pvOf,h0,hy,ca_]⟩
theorem uF_ {a b:Bool} {n room:Int} {r:Bool} {k:Nat} {s:Bool} (hb:b=(decide (k=0) || s)) (h:(a=false∨0 < (k:Int)∧s=false)∨room < n):(a && b && decide (n≤room) && r)=false:=by
 rcases h with (h | ⟨h,h'⟩) | h
 ·rw [h];rfl
 ·rw [hb,h',decide_eq_false (show ¬ k=0 by omega)];simp
 ·rw [decide_eq_false (show ¬ n≤room by omega)];simp
theorem si_ {a b:Bool} {n room:Int} {r:Bool} {k:Nat} {s:Bool} (hb:b=(decide (k=0) || s)) (h:(a=true∧((k:Int)≤0∨s=true))∧n≤room):(a && b && decide (n≤room) && r)=r:=by
 obtain ⟨⟨h1,h2⟩,h3⟩:=h
 have:b=true:=by
  rw [hb]
  rcases h2 with h | h
  ·rw [decide_eq_true (show k=0 by omega)];rfl
  ·rw [h];simp
 rw [h1,this,decide_eq_true h3];rfl
theorem hL_ {c:List Seen} {t:Bool} {σ:Store} (hx:∀ x∈c,SeenSm x) (hn:c.length≤1000000):ACalls Tryz.prog 420 [.sl 3 (c.map aM_) t] σ fun v σ'=>v=vInt (if ew_ c then 0 else 1)∧σ=σ':=by
 refine en_ Tryz.func420 Tryz.ntmps420 Tryz.results420 ?_
 refine rr_ ?_
 refine s_ ?_
 refine aa_ ?_
 refine rr_ ?_
 refine s_ ?_
 refine aa_ ?_
 refine ab_ ?_
 refine rr_ ?_
 iterate 3 refine s_ ?_
 refine aa_ ?_
 refine ah_ ?_
 refine ak_ (ι:=Nat × Int) (fun ⟨k,room⟩=>c.length - k) (fun ⟨k,room⟩=>k≤c.length∧fB_ (pvOf c k) room (c.drop k)=ew_ c∧(room≤4096∧0≤room)) (fun ⟨k,room⟩=>[(0,.sl 3 (c.map aM_) t),(3,vInt room),(6,.sl 3 (c.map aM_) t),(7,vInt c.length),(8,vInt k)]) (fun ⟨k,room⟩=>σ) (0,4096) ?_ ?_ ?_ ?_
 ·exact ⟨Nat.zero_le _,rfl,by decide⟩
 ·exact cv_
 ·exact sub_
 rintro ⟨k,room⟩ ⟨hk,hr,hrm⟩
 simp only [ar_,av_]
 refine rr_ ?_
 refine s_ ?_
 refine aa_ ?_
 refine ab_ ?_
 refine cd_ (fun hc3=>?_) (fun hc3=>?_)
 ·refine ae_ ?_
  refine ab_ ?_
  refine ah_ ?_
  refine ab_ ?_
  obtain ⟨x,hxk⟩:=a0_ (l:=c) (k:=k) (by omega)
  have hsx:=hx x (List.mem_of_getElem? hxk)
  have hlm:=hsx.more
  obtain ⟨y,hy,hah⟩:=tg_ c k (by omega)
  have hst:fB_ (pvOf c k) room (c.drop k)=(cY_ x && ca_ (pvOf c k) x.node && decide ((x.more.length:Int)≤room) && fB_ (some x.node) (room - x.more.length) (c.drop (k + 1))):=by rw [dc_ hxk];rfl
  have R:=hxk
  refine r_ ?_
  iterate 3 refine s_ ?_
  refine lc_ fun o5 ho5=>?_
  repeat (rw [ad_] at ho5;obtain ⟨_,ho5⟩:=ho5)
  refine s_ ?_
  refine st_ ?_
  refine aa_ ?_
  refine ab_ ?_
  refine ab_ ?_
  have R:=hy
  refine aL_ (.op 0 0 (.op 1 1 (.op 2 0 (.op 3 0 (.op 4 0 (.op 5 0 (.op 6 0 (.op 7 0 (.op 8 0 (.op 9 0 (.op 10 0 (.op 11 0 (.op 12 0 (.op 13 0 (.op 14 0 (.op 15 0 (.op 16 0 (.op 17 0 (.op 18 0 (.op 19 0 (.op 20 0 (.op 21 0 (.op 22 0 (.op 23 0 (.op 24 0 .nil))))))))))))))))))))))))) Tryz.mixed kr_ ?_
  refine ds_ ?_
  refine dx_ o_ g_ va_ (p1_ hsx) ?_;rintro _ _ ⟨rfl,rfl⟩;refine ⟨sub_,?_⟩
  iterate 2 refine ds_ ?_
  refine dgf_ ?_
  refine dgf_ ?_
  refine dgf_ ?_
  refine bl_ ?_
  refine bl_ ?_
  refine bl_ ?_
  refine bl_ ?_
  refine bl_ ?_
  refine bl_ ?_
  refine bl_ ?_
  refine bl_ ?_
  refine bl_ ?_
  refine dgf_ ?_
  iterate 2 refine ds_ ?_
  refine dgf_ ?_
  refine dgf_ ?_
  refine dgf_ ?_
  refine dgf_ ?_
  refine dgf_ ?_
  refine ds_ ?_
  refine aG_ ?_
  refine cd_ (fun hc5=>?_) (fun hc5=>?_)
  ·refine rr_ ?_
   refine s_ ?_
   refine aa_ ?_
   refine ac_ ?_
   refine er_ σ ?_
   refine ⟨?_,rfl⟩
   rw [← hr,hst,uF_ (hah _) hc5];rfl
  ·have hnx:fB_ (pvOf c (k + 1)) (room - x.more.length) (c.drop (k + 1))=ew_ c:=by rw [tf_ hxk,← hr,hst,si_ (hah _) hc5]
   have hrm2:room - (x.more.length:Int)≤4096∧0≤room - (x.more.length:Int):=by omega
   refine ae_ ?_
   refine r_ ?_
   iterate 6 refine s_ ?_
   refine aa_ ?_
   refine r_ ?_
   iterate 2 refine s_ ?_
   refine aa_ ?_
   refine bb_ (ι:=Nat × Int) (i:=⟨k,room⟩) (k + 1,room - x.more.length) ?_ ?_ ?_ ?_
   ·show c.length - (k + 1) < c.length - k;omega
   ·exact ⟨by show k + 1≤c.length;omega,hnx,hrm2⟩
   ·exact cv_
   ·exact sub_
 ·refine ay_ ?_
  refine af_ ?_
  refine af_ ?_
  refine aq_ ?_
  refine rr_ ?_
  refine s_ ?_
  refine aa_ ?_
  refine ac_ ?_
  refine er_ σ ?_
  refine ⟨?_,rfl⟩
  rw [← hr,List.drop_eq_nil_of_le (by omega)];rfl
end Go.Proofs.YtkjfpgjpeofndaaGreatDoor
end

section
set_option linter.all false
namespace Go.Ab
open Go.RowKit (Below)
open Go.ChangeShapes Go.WideShapes
inductive Sh where
 |int (k:IntKind)
 |bool
 |str
 |sl (g:Bool) (e:Sh)
 |unit
 |pair (a b:Sh)
def Sh.size:Sh→Nat
 |.unit=>0
 |.pair a b=>a.size + b.size
 |_=>1
def Sh.ok:Sh→List AVal→Prop
 |.int k,cs=>∃ n,cs=[.lit (.int k n)]∧(Lit.int k n).wf=true
 |.bool,cs=>∃ b,cs=[.lit (.bool b)]
 |.str,cs=>∃ s,cs=[.lit (.string s)]∧s.size≤maxLen
 |.sl g e,cs=>∃ l:List AVal,cs=[.sl e.size l false]∧l.length≤maxLen∧∀ x∈l,∃ c,e.ok c∧(if g then x=.agg c else c=[x])
 |.unit,cs=>cs=[]
 |.pair a b,cs=>∃ c d,cs=c ++ d∧a.ok c∧b.ok d
def Sh.okv (s:Sh) (g:Bool) (a:AVal):Prop:=∃ c,s.ok c∧(if g then a=.agg c else c=[a])
def fG_ (sh:TypeId→Option Sh) (P:Program):List Field→Nat→Option Sh
 |[],_=>some .unit
 |f :: fs,off=>if f.offset=off then match sh f.type with
   |some s=>if s.size=P.cellsOf f.type then (fG_ sh P fs (off + s.size)).map (.pair s) else none
   |none=>none
  else none
def ts_ (s:Sh):Nat→Sh
 |0=>.unit
 |n + 1=>.pair s (ts_ s n)
def dr_ (P:Program):Nat→TypeId→Option Sh
 |0,_=>none
 |d + 1,t=>match P.underlying t with
  |some .bool=>some .bool
  |some (.int k)=>some (.int k)
  |some .string=>some .str
  |some (.slice e)=>match dr_ P d e with
   |some s=>if s.size=P.cellsOf e∧0 < s.size∧(aggB P e=false→s.size=1) then some (.sl (aggB P e) s) else none
   |none=>none
  |some (.struct fs)=>match fG_ (dr_ P d) P fs.toList 0 with
   |some s=>if s.size=P.cellsOf t then some s else none
   |none=>none
  |some (.array n e)=>match dr_ P d e with
   |some s=>if s.size=P.cellsOf e∧P.cellsOf t=n * s.size then some (ts_ s n) else none
   |none=>none
  |_=>none
theorem Sh.ok_length:∀ {s:Sh} {cs:List AVal},s.ok cs→cs.length=s.size
 |.int k,cs,h=>by obtain ⟨n,rfl,_⟩:=h;rfl
 |.bool,cs,h=>by obtain ⟨n,rfl⟩:=h;rfl
 |.str,cs,h=>by obtain ⟨n,rfl,_⟩:=h;rfl
 |.sl g e,cs,h=>by obtain ⟨n,rfl,_⟩:=h;rfl
 |.unit,cs,h=>by obtain rfl:cs=[]:=h;rfl
 |.pair a b,cs,h=>by
  obtain ⟨c,d,rfl,h1,h2⟩:=h
  simp [Sh.size,Sh.ok_length h1,Sh.ok_length h2]
theorem kQ_ {p:Nat→AVal→Prop}:∀ (n:Nat),(∀ i,i < n→∃ x,p i x)→∃ l:List AVal,l.length=n∧∀ i (hi:i < l.length),p i l[i]
 |0,_=>⟨[],rfl,fun i hi=>by simp at hi⟩
 |n + 1,h=>by
  obtain ⟨l,hl,hp⟩:=kQ_ n fun i hi=>h i (by omega)
  obtain ⟨x,hx⟩:=h n (by omega)
  refine ⟨l ++ [x],by simp [hl],fun i hi=>?_⟩
  by_cases hlt:i < l.length
  ·rw [List.getElem_append_left hlt];exact hp i hlt
  ·have:i=n:=by simp at hi;omega
   subst this
   rw [List.getElem_append_right (by omega)]
   simpa [hl] using hx
section
variable {H:Type} {enc:TypeId × Value→H} {P:Program} {κ:K} {held:Bool}
theorem cells?_at {w:World} {base:Nat} {a:Addr} {n:Nat} {cs:List Value} (h:w.cells? base a n=some cs):cs.length=n∧∀ i (hi:i < cs.length),w.cell? (a.add i)=some cs[i]:=by
 unfold World.cells? at h
 split at h
 ·have hl:cs.length=n:=by
   have:=mapM_len h
   simpa using this
  refine ⟨hl,fun i hi=>?_⟩
  have:=mapM_at h i (by simpa [hl] using hi) hi
  simpa using this
 ·cases h
where
 mapM_len {α β:Type} {f:α→Option β}:∀ {l:List α} {r:List β},l.mapM f=some r→r.length=l.length
  |[],r,h=>by simp at h;subst h;rfl
  |x :: l,r,h=>by
   rw [List.mapM_cons] at h
   obtain ⟨y,_,h2⟩:=Option.bind_eq_some_iff.1 h
   obtain ⟨ys,h3,h4⟩:=Option.bind_eq_some_iff.1 h2
   obtain rfl:=Option.some.inj h4
   simp [mapM_len h3]
 mapM_at {α β:Type} {f:α→Option β}:∀ {l:List α} {r:List β},l.mapM f=some r→∀ i (hi:i < l.length) (hj:i < r.length),f l[i]=some r[i]
  |[],r,h,i,hi,_=>by simp at hi
  |x :: l,r,h,i,hi,hj=>by
   rw [List.mapM_cons] at h
   obtain ⟨y,h1,h2⟩:=Option.bind_eq_some_iff.1 h
   obtain ⟨ys,h3,h4⟩:=Option.bind_eq_some_iff.1 h2
   obtain rfl:=Option.some.inj h4
   cases i with
   |zero=>simpa using h1
   |succ i=>simpa using mapM_at h3 i (by simpa using hi) (by simpa using hj)
def uh_ (enc:TypeId × Value→H) (P:Program) (κ:K) (held:Bool) (d:Nat):Prop :=
 ∀ (t:TypeId) (s:Sh) (fuel:Nat) (cs:List Value) (x:DataW H × List MemPlace),dr_ P d t=some s→DataW.trod enc P κ.w 0 (fun _=>true) held fuel t cs=some x→∃ av,s.ok av∧RvC κ av cs
theorem gD_ {d:Nat} (ih:uh_ enc P κ held d) {n:Nat} {cs:List Value}:∀ (fs:List Field) (off:Nat) (s:Sh),fG_ (dr_ P d) P fs off=some s→off + s.size≤cs.length →
  (∀ (i:Nat) (f:Field),fs[i]?=some f→∃ y,DataW.trod enc P κ.w 0 (fun _=>true) held n f.type ((cs.drop f.offset).take (P.cellsOf f.type))=some y)→∃ av,s.ok av∧RvC κ av ((cs.drop off).take s.size)
 |[],off,s,hs,_,_=>by
  obtain rfl:=Option.some.inj hs
  exact ⟨[],rfl,by simp [Sh.size],fun i hi=>by simp at hi⟩
 |f :: fs,off,s,hs,hle,hf=>by
  unfold fG_ at hs
  split at hs
  ·rename_i ho
   split at hs
   ·rename_i s1 h1
    split at hs
    ·rename_i hsz
     obtain ⟨s2,h2,rfl⟩:=Option.map_eq_some_iff.1 hs
     simp only [Sh.size] at hle ⊢
     obtain ⟨y,hy⟩:=hf 0 f rfl
     obtain ⟨av,ha1,ha2⟩:=ih f.type s1 n _ y h1 hy
     obtain ⟨bs,hb1,hb2⟩:=gD_ ih fs (off + s1.size) s2 h2 (by omega) fun i g hg=>hf (i + 1) g (by simpa using hg)
     refine ⟨av ++ bs,⟨av,bs,rfl,ha1,hb1⟩,?_⟩
     have e:(cs.drop off).take (s1.size + s2.size)=(cs.drop f.offset).take (P.cellsOf f.type) ++ (cs.drop (off + s1.size)).take s2.size:=by
      rw [List.take_add,ho,← hsz,List.drop_drop]
     rw [e]
     exact ha2.append hb2
    ·cases hs
   ·cases hs
  ·cases hs
theorem kZ_ {s:Sh} {cs:List Value}:∀ (n off:Nat),(∀ i,i < n→∃ av,s.ok av∧RvC κ av ((cs.drop (off + i * s.size)).take s.size))→∃ av,(ts_ s n).ok av∧RvC κ av ((cs.drop off).take (n * s.size))
 |0,off,_=>⟨[],rfl,by simp,fun i hi=>by simp at hi⟩
 |n + 1,off,h=>by
  obtain ⟨av,ha1,ha2⟩:=h 0 (by omega)
  obtain ⟨bs,hb1,hb2⟩:=kZ_ n (off + s.size) fun i hi=>by
   have:=h (i + 1) (by omega)
   rwa [show off + (i + 1) * s.size=off + s.size + i * s.size by rw [Nat.succ_mul];omega] at this
  refine ⟨av ++ bs,⟨av,bs,rfl,ha1,hb1⟩,?_⟩
  have e:(cs.drop off).take ((n + 1) * s.size)=(cs.drop (off + 0 * s.size)).take s.size ++ (cs.drop (off + s.size)).take (n * s.size):=by
   rw [show (n + 1) * s.size=s.size + n * s.size by rw [Nat.succ_mul];omega,List.take_add,List.drop_drop];simp
  rw [e]
  exact ha2.append hb2
theorem Sh.ok_one {d:Nat} {t:TypeId} {s:Sh} {av:List AVal} (hs:dr_ P d t=some s) (hg:aggB P t=false) (h:s.ok av):∃ x,av=[x]∧x.cells=[x]:=by
 cases d with
 |zero=>cases hs
 |succ d =>
  unfold dr_ at hs
  split at hs
  ·obtain rfl:=Option.some.inj hs;obtain ⟨b,rfl⟩:=h;exact ⟨_,rfl,rfl⟩
  ·obtain rfl:=Option.some.inj hs;obtain ⟨b,rfl,_⟩:=h;exact ⟨_,rfl,rfl⟩
  ·obtain rfl:=Option.some.inj hs;obtain ⟨b,rfl,_⟩:=h;exact ⟨_,rfl,rfl⟩
  ·split at hs
   ·split at hs
    ·obtain rfl:=Option.some.inj hs;obtain ⟨b,rfl,_⟩:=h;exact ⟨_,rfl,rfl⟩
    ·cases hs
   ·cases hs
  ·rename_i fs ht;simp [aggB,ht] at hg
  ·rename_i fs ht;simp [aggB,ht] at hg
  ·cases hs
theorem v2_ (hI:∀ b off v,κ.w.cell? ⟨b,off,none⟩=some v→off < κ.I b):∀ d,uh_ enc P κ held d
 |0=>fun t s fuel cs x hs _=>by cases hs
 |d + 1=>fun t s fuel cs x hs hx=>by
  have ih:=v2_ hI d
  have hs0:=hs
  unfold dr_ at hs
  split at hs
  ·rename_i ht
   obtain rfl:=Option.some.inj hs
   obtain ⟨b,rfl,_⟩:=DataW.trod_bool ht hx
   exact ⟨_,⟨b,rfl⟩,.one (.lit _)⟩
  ·rename_i k ht
   obtain rfl:=Option.some.inj hs
   obtain ⟨b,rfl,_,hw⟩:=DataW.trod_int ht hx
   exact ⟨_,⟨b,rfl,hw⟩,.one (.lit _)⟩
  ·rename_i ht
   obtain rfl:=Option.some.inj hs
   obtain ⟨b,rfl,_,hw⟩:=DataW.trod_string ht hx
   exact ⟨_,⟨b,rfl,hw⟩,.one (.lit _)⟩
  ·rename_i e ht
   split at hs
   ·rename_i s1 h1
    split at hs
    ·rename_i hc
     obtain ⟨hsz,hpos,hone⟩:=hc
     obtain rfl:=Option.some.inj hs
     rcases DataW.trod_slice ht hx with ⟨rfl,_⟩ | ⟨a,len,cap,elems,rest,n,_,rfl,_,_,hl,hm,hlen,hel,hsp,_⟩
     ·exact ⟨_,⟨[],rfl,by simp,by simp⟩,.one (.slNil _ _)⟩
     ·have each:∀ i,i < cap→∃ cs' y,κ.w.cells? 0 (a.add (i * P.cellsOf e)) (P.cellsOf e)=some cs'∧DataW.trod enc P κ.w 0 (fun _=>true) held n e cs'=some y:=by
       intro i hi
       by_cases hil:i < len
       ·have:=hel i hil
        rw [List.getElem?_eq_getElem (by omega)] at this
        obtain ⟨cs',q1,q2⟩:=Option.bind_eq_some_iff.1 this
        exact ⟨cs',_,q1,q2⟩
       ·obtain ⟨hr,hj⟩:=hsp rfl
        have:=hj (i - len) (by omega)
        rw [show len + (i - len)=i by omega,List.getElem?_eq_getElem (by omega)] at this
        obtain ⟨cs',q1,q2⟩:=Option.bind_eq_some_iff.1 this
        exact ⟨cs',_,q1,q2⟩
      by_cases hcap:cap=0
      ·subst hcap
       obtain rfl:len=0:=by omega
       exact ⟨_,⟨[],rfl,by simp,by simp⟩,.one (.slE _ _ a)⟩
      ·have hspot:a.spot=none:=by
        obtain ⟨cs',y,q1,_⟩:=each 0 (by omega)
        obtain ⟨r1,r2⟩:=cells?_at q1
        have:=r2 0 (by omega)
        rw [Nat.zero_mul] at this
        exact World.cell?_spot (by simpa [Addr.add] using this)
       obtain ⟨b,off,spot⟩:=a
       subst hspot
       have each':∀ i,i < len→∃ x:AVal,x.cells.length=s1.size∧(∃ c,s1.ok c∧(if aggB P e then x=.agg c else c=[x])) ∧
         ∀ j (hj:j < x.cells.length),∃ v,κ.w.cell? ⟨b,off + (i * s1.size + j),none⟩=some v∧Rv κ x.cells[j] v:=by
        intro i hi
        obtain ⟨cs',y,q1,q2⟩:=each i (by omega)
        obtain ⟨r1,r2⟩:=cells?_at q1
        obtain ⟨av,ha,hr⟩:=ih e s1 n cs' y h1 q2
        have hal:=Sh.ok_length ha
        obtain ⟨x,hxc,hxo⟩:∃ x:AVal,x.cells=av∧(∃ c,s1.ok c∧(if aggB P e then x=.agg c else c=[x])):=by
         cases hg:aggB P e with
         |true=>exact ⟨.agg av,rfl,av,ha,by simp⟩
         |false =>
          obtain ⟨x,rfl,hx⟩:=Sh.ok_one h1 hg ha
          exact ⟨x,hx,[x],ha,by simp⟩
        refine ⟨x,by rw [hxc];exact hal,hxo,fun j hj=>?_⟩
        have hj':j < cs'.length:=by rw [← hr.1,← hxc];exact hj
        refine ⟨cs'[j],?_,?_⟩
        ·have:=r2 j hj'
         rw [← hsz] at this
         rw [← this]
         simp only [Addr.add]
         congr 1
         by_cases h0:i * s1.size=0
         ·rw [if_pos h0,h0]
          by_cases hj0:j=0
          ·simp [hj0]
          ·simp [hj0]
         ·rw [if_neg h0]
          by_cases hj0:j=0
          ·simp [hj0]
          ·simp [hj0];omega
        ·have:=hr.2 j (by rw [← hxc];exact hj) hj'
         simp only [hxc]
         exact this
       obtain ⟨l,hll,hlp⟩:=kQ_ len each'
       have hszl:∀ x∈l,x.cells.length=s1.size:=fun x hx=>by
        obtain ⟨i,hi,rfl⟩:=List.getElem_of_mem hx
        exact (hlp i hi).1
       refine ⟨[.sl s1.size l false],⟨l,rfl,by omega,fun x hx=>?_⟩,.one ?_⟩
       ·obtain ⟨i,hi,rfl⟩:=List.getElem_of_mem hx
        exact (hlp i hi).2.1
       ·have at_:∀ k (hk:k < (flat l).length),∃ v,κ.w.cell? ⟨b,off + k,none⟩=some v∧Rv κ (flat l)[k] v:=by
         intro k hk
         obtain ⟨hi,hj,e1⟩:=jI_ hszl k hk
         obtain ⟨v,hv1,hv2⟩:=(hlp _ hi).2.2 _ hj
         rw [show k / s1.size * s1.size + k % s1.size=k by rw [Nat.mul_comm];exact Nat.div_add_mod k s1.size] at hv1
         exact ⟨v,hv1,by rw [e1];exact hv2⟩
        have:=Rv.sl (κ:=κ) s1.size l false b off cap (fun k=>(κ.w.cell? ⟨b,off + k,none⟩).getD undef) (by omega) (by simp) hszl
         (fun k hk=>by obtain ⟨v,hv1,_⟩:=at_ k hk;exact ⟨hI _ _ _ hv1,by simp [hv1]⟩)
         (fun k hk=>by obtain ⟨v,hv1,hv2⟩:=at_ k hk;simpa [hv1] using hv2)
        rwa [hll] at this
    ·cases hs
   ·cases hs
  ·rename_i fs ht
   split at hs
   ·rename_i s1 h1
    split at hs
    ·rename_i hc
     obtain rfl:=Option.some.inj hs
     obtain ⟨xs,n,_,_,hcl,hxl,hf⟩:=DataW.trod_struct ht hx
     obtain ⟨av,ha,hr⟩:=gD_ (cs:=cs) (n:=n) ih fs.toList 0 s1 h1 (by omega) fun i f hfi=>by
      have hfi':fs[i]?=some f:=by simpa using hfi
      have:=hf i f hfi'
      have hlt:i < xs.length:=by rw [hxl];exact (Array.getElem?_eq_some_iff.1 hfi').1
      rw [List.getElem?_eq_getElem hlt] at this
      exact ⟨_,this⟩
     refine ⟨av,ha,?_⟩
     rw [List.drop_zero,List.take_of_length_le (by omega)] at hr
     exact hr
    ·cases hs
   ·cases hs
  ·rename_i n e ht
   split at hs
   ·rename_i s1 h1
    split at hs
    ·rename_i hc
     obtain rfl:=Option.some.inj hs
     obtain ⟨xs,m,_,_,hcl,hxl,hf⟩:=DataW.trod_array ht hx
     obtain ⟨av,ha,hr⟩:=kZ_ (κ:=κ) (s:=s1) (cs:=cs) n 0 fun i hi=>by
      have:=hf i hi
      rw [List.getElem?_eq_getElem (by omega),← hc.1] at this
      rw [Nat.zero_add]
      exact ih e s1 m _ _ h1 this
     refine ⟨av,ha,?_⟩
     rw [List.drop_zero,List.take_of_length_le (by rw [hcl,hc.2];omega)] at hr
     exact hr
    ·cases hs
   ·cases hs
  ·cases hs
theorem h3_ (hI:∀ b off v,κ.w.cell? ⟨b,off,none⟩=some v→off < κ.I b) {d base:Nat} {r:Reach} {W:World} {t:TypeId} {s:Sh} {g:Bool} {v:Value} {x:DataW H} {ps:List MemPlace} (hs:dr_ P d t=some s) (hg:aggB P t=g)
  (hval:Value.okWide P W r base t v) (h:DataW.Trod enc P κ.w 0 (fun _=>true) held t v x ps):∃ a,Rv κ a v∧s.okv g a:=by
 subst hg
 obtain ⟨fuel,hf⟩:=h
 obtain ⟨av,ha,hr⟩:=v2_ hI d t s fuel _ _ hs hf
 cases hg:aggB P t with
 |true =>
  have:∃ cs,v=.agg cs:=by
   unfold Value.okWide at hval
   unfold aggB at hg
   split at hval <;> simp_all
   ·obtain ⟨cs,rfl,_⟩:=hval;exact ⟨cs,rfl⟩
   ·obtain ⟨cs,rfl,_⟩:=hval;exact ⟨cs,rfl⟩
  obtain ⟨cs,rfl⟩:=this
  refine ⟨.agg av,.agg av cs ?_ fun i hi=>?_,av,ha,by simp⟩
  ·have:=hr.1;simpa [Value.cells] using this.symm
  ·have hl:av.length=cs.size:=by have:=hr.1;simpa [Value.cells] using this
   have:=hr.2 i hi (by simp [Value.cells];omega)
   simpa [Value.cells,show i < cs.size by omega] using this
 |false =>
  obtain ⟨x,rfl,hx⟩:=Sh.ok_one hs hg ha
  have hv:v.cells=#[v]:=by
   unfold Value.okWide at hval
   unfold aggB at hg
   split at hval
   ·simp_all
   ·simp_all
   ·unfold Cell.okWide at hval
    split at hval <;> first | rfl | skip
    unfold Cell.ok at hval
    split at hval <;> first | rfl | exact hval.elim
  refine ⟨x,?_,[x],ha,by simp⟩
  have:=hr.2 0 (by simp) (by rw [hv];simp)
  simpa [hv] using this
def kOf (W:World):K:={ w:=W,base:=W.heap.size,ρ:=fun _=>none,τ:=fun _=>none,I:=fun b=>match W.heap[b]? with | some (.cells c _ _)=>c.size | _=>0 }
def s0:Store:={ heap:=fun _=>none,tok:=fun _=>none }
theorem jN_ (W:World):∀ b off v,(kOf W).w.cell? ⟨b,off,none⟩=some v→off < (kOf W).I b:=by
 intro b off v h
 simp only [kOf,World.cell?] at *
 cases hb:W.heap[b]? with
 |none=>simp [hb] at h
 |some o =>
  rw [hb] at h
  cases o <;> simp_all
  have:=(Array.getElem?_eq_some_iff.1 h).1
  omega
theorem sP_ (W:World) (hG:Glob W W.heap.size):Inv (kOf W) s0 where
 glob:=hG
 base:=Nat.le_refl _
 heap o x e:=by cases e
 inj o o' x x' b e:=by cases e
 tok t sz e:=by cases e
 tokinj t t' sz sz' v v' b e:=by cases e
 tokobj t sz v b o x e:=by cases e
 frO:=⟨0,fun _ _=>rfl⟩
 frT:=⟨0,fun _ _=>rfl⟩
 frI b hb:=by
  have hb':W.heap.size≤b:=hb
  simp [kOf,Array.getElem?_eq_none hb']
theorem iw_ {f:FuncId} {av:List AVal} {vs:Array Value} {W:World} (h:ACalls P f av s0 fun v _=>v=gL_ true) (hn:vs.size=av.length) (hr:∀ i (hi:i < av.length),Rv (kOf W) av[i] (vs.getD i undef))
  (hG:Glob W W.heap.size:=by intro p hp;cases hp):Calls P f vs W (fun e w'=>e=.returned (.bool true)∧Below W.heap.size W w'):=by
 have:=h (kOf W) vs (sP_ W hG) hn hr
 refine this.mono fun e w' ⟨cv,he,κ',a,σ',hw,hle,_,hv,ha⟩=>?_
 subst ha
 obtain rfl:=hv.litInv
 subst hw
 exact ⟨he,hle.below⟩
end
theorem nQ_ {k:IntKind}:∀ {l:List AVal},(∀ x∈l,∃ c,(Sh.int k).ok c∧(if false=true then x=.agg c else c=[x]))→∃ zs:List Int,l=zs.map fun n=>.lit (.int k n)
 |[],_=>⟨[],rfl⟩
 |x :: l,h=>by
  obtain ⟨zs,rfl⟩:=nQ_ fun y hy=>h y (List.mem_cons_of_mem _ hy)
  obtain ⟨c,⟨n,rfl,_⟩,e⟩:=h x (List.mem_cons_self ..)
  simp only [Bool.false_eq_true,if_false,List.cons.injEq,and_true] at e
  subst e
  exact ⟨n :: zs,rfl⟩
theorem nP_ {α:Type} (f:α→AVal):∀ {l:List AVal},(∀ x∈l,∃ a,x=f a)→∃ zs:List α,l=zs.map f
 |[],_=>⟨[],rfl⟩
 |x :: l,h=>by
  obtain ⟨zs,rfl⟩:=nP_ f fun y hy=>h y (List.mem_cons_of_mem _ hy)
  obtain ⟨a,rfl⟩:=h x (List.mem_cons_self ..)
  exact ⟨a :: zs,rfl⟩
end Go.Ab
end

section
set_option linter.all false
set_option maxRecDepth 100000
namespace Go.Ab
abbrev rJ_:Sh:=.sl false (.int .i64)
abbrev rK_:Sh:=.pair .str (.pair (.int .i64) (.pair rJ_ .unit))
abbrev wa_:Sh:=.sl true rK_
theorem to_ {c:List AVal} (h:rJ_.ok c):∃ l:List Int,c=[.sl 1 (l.map vInt) false]:=by
 obtain ⟨l,rfl,_,hl⟩:=h
 obtain ⟨zs,rfl⟩:=nQ_ hl
 exact ⟨zs,rfl⟩
theorem tp_ {c:List AVal} (h:rK_.ok c):∃ x:Seen,.agg c=aM_ x:=by
 obtain ⟨_,_,rfl,⟨s,rfl,_⟩,_,_,rfl,⟨n,rfl,_⟩,_,_,rfl,h3,rfl⟩:=h
 obtain ⟨l,rfl⟩:=to_ h3
 exact ⟨⟨s,n,l⟩,rfl⟩
theorem v1_ {α:Type} (f:α→AVal) {e:Sh} (he:∀ c,e.ok c→∃ a,.agg c=f a) {c:List AVal} (h:(Sh.sl true e).ok c):∃ zs:List α,c=[.sl e.size (zs.map f) false]:=by
 obtain ⟨l,rfl,_,hl⟩:=h
 obtain ⟨zs,rfl⟩:=nP_ f (l:=l) fun x hx=>by
  obtain ⟨c,hc,e⟩:=hl x hx
  simp only [if_true] at e
  rw [e];exact he c hc
 exact ⟨zs,rfl⟩
theorem vZ_ {c:List AVal} (h:wa_.ok c):∃ l:List Seen,c=[.sl 3 (l.map aM_) false]:=v1_ aM_ (fun c hc=>tp_ hc) h
abbrev wb_:Sh:=.pair .str (.pair (.pair (.int .i64) (.pair .str (.pair .str .unit))) .unit)
theorem v0_ {c:List AVal} (h:wb_.ok c):∃ x:Ent,.agg c=sEnt x:=by
 obtain ⟨_,_,rfl,⟨s,rfl,_⟩,_,_,rfl,⟨_,_,rfl,⟨n,rfl,_⟩,_,_,rfl,⟨t,rfl,_⟩,_,_,rfl,⟨v,rfl,_⟩,rfl⟩,rfl⟩:=h
 exact ⟨⟨s,n,t,v⟩,rfl⟩
end Go.Ab
end
