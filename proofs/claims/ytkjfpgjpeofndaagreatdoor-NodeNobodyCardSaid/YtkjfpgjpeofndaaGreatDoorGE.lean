/-
  Walks and plain laws for the statement (see the law's own text). Own work (an AI agent).
-/
import Derived.Test.YtkjfpgjpeofndaaGreatDoorGM
import Derived.Lib.Bytealg
import Derived.Test.YtkjfpgjpeofndaaGreatDoorGD
import Derived.Shelf.Sort.Plain
import Derived.Shelf.Slices.In.SortNone
import Derived.Test.YtkjfpgjpeofndaaGreatDoorGC
import Derived.Shelf.Slices.CompactI
import Derived.Shelf.Slices.CompactS

section
set_option linter.all false
set_option maxRecDepth 100000
namespace Go.Proofs.YtkjfpgjpeofndaaGreatDoor
open Go.Ab
abbrev vB (b:Bool):AVal:=.lit (.bool b)
@[reducible] def sDot (s:ByteArray) (n:Int):AVal:=.agg [.lit (.string s),vInt n]
def inS (l:List Int) (n:Int):Bool:=l.any fun m=>decide (m=n)
def hasX (x:Seen) (s:ByteArray) (n:Int):Bool:=decide (x.node=s) && (decide (0 < n) && decide (n≤x.base) || inS x.more n)
def hasS (c:List Seen) (s:ByteArray) (n:Int):Bool:=c.any fun x=>hasX x s n
theorem jr_ {α:Type} {l:List α} {k:Nat} {x:α} {f:α→Bool} (h:l[k]?=some x) (hf:f x=true):l.any f=true:=List.any_eq_true.2 ⟨x,List.mem_of_getElem? h,hf⟩
theorem hD_ {α:Type} {l:List α} {k:Nat} {x:α} {f:α→Bool} (h:l[k]?=some x) (hf:f x=false) (ha:(l.take k).any f=false):(l.take (k + 1)).any f=false:=by
 rw [bE_ h,List.any_append,ha];simp [hf]
theorem jq_ {α:Type} {l:List α} {k:Nat} {f:α→Bool} (h:l.length≤k) (ha:(l.take k).any f=false):l.any f=false:=by rwa [List.take_of_length_le h] at ha
theorem sC_ {l:List Int} {n:Int} {t:Bool} {σ:Store} (hl:l.length≤1000000):ACalls Tryz.prog 556 [.sl 1 (l.map vInt) t,vInt n] σ fun v σ'=>(∃ r,v=vInt r∧decide (0≤r)=inS l n)∧σ=σ':=by
 refine en_ Tryz.func556 Tryz.ntmps556 Tryz.results556 ?_
 refine rr_ ?_
 refine s_ ?_
 refine aa_ ?_
 refine ab_ ?_
 refine rr_ ?_
 iterate 3 refine s_ ?_
 refine aa_ ?_
 refine ah_ ?_
 refine ak_ (ι:=Nat) (fun k=>l.length - k) (fun k=>k≤l.length∧(l.take k).any (fun m=>decide (m=n))=false) (fun k=>[(0,.sl 1 (l.map vInt) t),(1,vInt n),(7,vInt l.length),(8,vInt k)]) (fun k=>σ) 0 ?_ ?_ ?_ ?_
 ·exact ⟨Nat.zero_le _,rfl⟩
 ·exact cv_
 ·exact sub_
 rintro k ⟨hk,ha⟩
 simp only [ar_,av_]
 refine rr_ ?_
 refine s_ ?_
 refine aa_ ?_
 refine ab_ ?_
 refine cd_ (fun hc2=>?_) (fun hc2=>?_)
 ·refine ae_ ?_
  refine ab_ ?_
  refine ah_ ?_
  refine ab_ ?_
  obtain ⟨x,hx⟩:=a0_ (l:=l) (k:=k) (by omega)
  refine r_ ?_
  iterate 2 refine s_ ?_
  refine aa_ ?_
  refine ab_ ?_
  have R:=hx
  refine r_ ?_
  iterate 6 refine s_ ?_
  refine aa_ ?_
  refine cd_ (fun hc4=>?_) (fun hc4=>?_)
  ·refine rr_ ?_
   iterate 2 refine s_ ?_
   refine aa_ ?_
   refine ac_ ?_
   refine er_ σ ?_
   exact ⟨⟨(k:Int),rfl,by rw [decide_eq_true (by omega)];exact (jr_ hx (by simp;omega)).symm⟩,rfl⟩
  ·refine ae_ ?_
   refine r_ ?_
   iterate 2 refine s_ ?_
   refine aa_ ?_
   refine bb_ (ι:=Nat) (i:=k) (k + 1) ?_ ?_ ?_ ?_
   ·omega
   ·exact ⟨by omega,hD_ hx (by simp;omega) ha⟩
   ·exact cv_
   ·exact sub_
 ·refine ay_ ?_
  refine af_ ?_
  refine af_ ?_
  refine aq_ ?_
  refine rr_ ?_
  refine s_ ?_
  refine aa_ ?_
  refine ac_ ?_
  refine er_ σ ?_
  exact ⟨⟨-1,rfl,(jq_ (by omega) ha).symm⟩,rfl⟩
theorem lJ_ {l:List Int} {n:Int} {t:Bool} {σ:Store} (hl:l.length≤1000000):ACalls Tryz.prog 458 [.sl 1 (l.map vInt) t,vInt n] σ fun v σ'=>v=vB (inS l n)∧σ=σ':=by
 refine en_ Tryz.func458 Tryz.ntmps458 Tryz.results458 ?_
 refine rr_ ?_
 refine s_ ?_
 refine aa_ ?_
 refine rr_ ?_
 iterate 2 refine s_ ?_
 refine x_ g_ va_ (sC_ hl) ?_;rintro _ _ ⟨⟨r,rfl,hr⟩,rfl⟩
 iterate 2 refine s_ ?_
 refine aa_ ?_
 refine ac_ ?_
 refine er_ σ ?_
 exact ⟨by rw [← hr],rfl⟩
theorem uU_ {x:Seen} {ob:Nat} {s:ByteArray} {n:Int} {σ:Store} (hb:σ.heap ob=some (.cells [.lit (.string s),vInt n])) (hx:SeenSm x):ACalls Tryz.prog 535 [aM_ x,.ref ob 0] σ fun v σ'=>v=vB (hasX x s n)∧σ=σ':=by
 have hl:=hx.more
 refine en_ Tryz.func535 Tryz.ntmps535 Tryz.results535 ?_
 refine ab_ ?_
 have R:=hb
 refine r_ ?_
 refine bx_ fun o2 ho2=>?_
 repeat (rw [ad_] at ho2;obtain ⟨_,ho2⟩:=ho2)
 refine s_ ?_
 refine aa_ ?_
 have nb:=an_ hb ho2
 refine ab_ ?_
 have R:=hb
 refine r_ ?_
 iterate 6 refine s_ ?_
 refine gt_ ?_
 refine gt_ ?_
 refine gt_ ?_
 refine gt_ ?_
 refine c0_ rfl rfl v_ rfl vg_ ?_
 refine c0_ rfl rfl v_ rfl vg_ ?_
 refine c0_ rfl rfl v_ rfl vg_ ?_
 refine c0_ rfl rfl v_ rfl vg_ ?_
 refine c0_ rfl rfl v_ rfl vg_ ?_
 refine gt_ ?_
 refine gt_ ?_
 refine bJ_ rfl rfl v_ rfl vg_ ?_
 refine bJ_ rfl rfl v_ rfl vg_ ?_
 refine bJ_ rfl rfl v_ rfl vg_ ?_
 refine bJ_ rfl rfl v_ rfl vg_ ?_
 refine my_ rfl rfl v_ rfl (fun hb=>aw_ (by rfl) (by rfl) (.inr ⟨by rfl,by rfl,by rfl⟩) g_ cg_ (lJ_ hl)) ?_
 refine gt_ ?_
 iterate 2 refine s_ ?_
 refine aa_ ?_
 refine ac_ ?_
 refine er_ σ ?_
 refine ⟨?_,rfl⟩
 try unfold hasX
 by_cases h1:x.node=s <;> by_cases h2:0 < n <;> by_cases h3:n≤x.base <;> simp [h1,h2,h3]
theorem jL_ {c:List Seen} {ob:Nat} {s:ByteArray} {n:Int} {t:Bool} {σ:Store} (hb:σ.heap ob=some (.cells [.lit (.string s),vInt n])) (hx:∀ x∈c,SeenSm x) (hn:c.length≤1000000):ACalls Tryz.prog 601 [.sl 3 (c.map aM_) t,.fn (.func 535) [] [.ref ob 0]] σ fun v σ'=>(∃ r,v=vInt r∧decide (0≤r)=hasS c s n)∧σ=σ':=by
 refine en_ Tryz.func601 Tryz.ntmps601 Tryz.results601 ?_
 refine rr_ ?_
 refine s_ ?_
 refine aa_ ?_
 refine ab_ ?_
 refine rr_ ?_
 iterate 3 refine s_ ?_
 refine aa_ ?_
 refine ah_ ?_
 refine ak_ (ι:=Nat) (fun k=>c.length - k) (fun k=>k≤c.length∧(c.take k).any (fun x=>hasX x s n)=false) (fun k=>[(0,.sl 3 (c.map aM_) t),(1,.fn (.func 535) [] [.ref ob 0]),(7,vInt c.length),(8,vInt k)]) (fun k=>σ) 0 ?_ ?_ ?_ ?_
 ·exact ⟨Nat.zero_le _,rfl⟩
 ·exact cv_
 ·exact sub_
 rintro k ⟨hk,ha⟩
 simp only [ar_,av_]
 refine rr_ ?_
 refine s_ ?_
 refine aa_ ?_
 refine ab_ ?_
 refine cd_ (fun hc2=>?_) (fun hc2=>?_)
 ·refine ae_ ?_
  refine ab_ ?_
  refine ah_ ?_
  refine ab_ ?_
  obtain ⟨x,hxk⟩:=a0_ (l:=c) (k:=k) (by omega)
  have hsx:=hx x (List.mem_of_getElem? hxk)
  refine r_ ?_
  iterate 2 refine s_ ?_
  refine aa_ ?_
  refine ab_ ?_
  have R:=hxk
  refine r_ ?_
  iterate 5 refine s_ ?_
  refine aL_X rfl rfl (bu_ rfl rfl (.inl v_) g_ va_ (uU_ hb hsx) ?_);rintro _ _ ⟨rfl,rfl⟩
  refine aa_ ?_
  refine cd_ (fun hc4=>?_) (fun hc4=>?_)
  ·refine rr_ ?_
   iterate 2 refine s_ ?_
   refine aa_ ?_
   refine ac_ ?_
   refine er_ σ ?_
   exact ⟨⟨(k:Int),rfl,by rw [decide_eq_true (by omega)];exact (jr_ hxk (by simpa using hc4)).symm⟩,rfl⟩
  ·refine ae_ ?_
   refine r_ ?_
   iterate 2 refine s_ ?_
   refine aa_ ?_
   refine bb_ (ι:=Nat) (i:=k) (k + 1) ?_ ?_ ?_ ?_
   ·omega
   ·exact ⟨by omega,hD_ hxk (by simpa using hc4) ha⟩
   ·exact cv_
   ·exact sub_
 ·refine ay_ ?_
  refine af_ ?_
  refine af_ ?_
  refine aq_ ?_
  refine rr_ ?_
  refine s_ ?_
  refine aa_ ?_
  refine ac_ ?_
  refine er_ σ ?_
  exact ⟨⟨-1,rfl,(jq_ (by omega) ha).symm⟩,rfl⟩
theorem gR_ {c:List Seen} {ob:Nat} {s:ByteArray} {n:Int} {t:Bool} {σ:Store} (hb:σ.heap ob=some (.cells [.lit (.string s),vInt n])) (hx:∀ x∈c,SeenSm x) (hn:c.length≤1000000):ACalls Tryz.prog 534 [.sl 3 (c.map aM_) t,.fn (.func 535) [] [.ref ob 0]] σ fun v σ'=>v=vB (hasS c s n)∧σ=σ':=by
 refine en_ Tryz.func534 Tryz.ntmps534 Tryz.results534 ?_
 refine rr_ ?_
 refine s_ ?_
 refine aa_ ?_
 refine rr_ ?_
 iterate 2 refine s_ ?_
 refine x_ g_ va_ (jL_ hb hx hn) ?_;rintro _ _ ⟨⟨r,rfl,hr⟩,rfl⟩
 iterate 2 refine s_ ?_
 refine aa_ ?_
 refine ac_ ?_
 refine er_ σ ?_
 exact ⟨by rw [← hr],rfl⟩
theorem w6_ {c:List Seen} {s:ByteArray} {n:Int} {t:Bool} {σ:Store} (hx:∀ x∈c,SeenSm x) (hn:c.length≤1000000):ACalls Tryz.prog 431 [.sl 3 (c.map aM_) t,sDot s n] σ fun v σ'=>v=vB (hasS c s n)∧σ=σ':=by
 refine en_ Tryz.func431 Tryz.ntmps431 Tryz.results431 ?_
 refine rr_ ?_
 refine bx_ fun o3 ho3=>?_
 repeat (rw [ad_] at ho3;obtain ⟨_,ho3⟩:=ho3)
 refine s_ ?_
 refine aa_ ?_
 refine rr_ ?_
 iterate 2 refine s_ ?_
 refine x_ g_ va_ (gR_ (Store.set_get ..) hx hn) ?_;rintro _ _ ⟨rfl,rfl⟩
 refine s_ ?_
 refine aa_ ?_
 refine ac_ ?_
 refine er_ σ ?_
 exact ⟨rfl,rfl⟩
theorem m0_:∀ (l m:List UInt8),Lib.compareBytes l m=if Op.bytesLess l m then -1 else if l=m then 0 else 1
 |[],[]=>rfl
 |[],_ :: _=>rfl
 |_ :: _,[]=>rfl
 |a :: l,b :: m=>by
  rw [Lib.compareBytes,Op.bytesLess,m0_ l m]
  by_cases h1:a < b
  ·simp [h1]
  ·by_cases h2:b < a
   ·have h3:a≠b:=fun h=>by rw [h] at h2;exact absurd h2 (UInt8.lt_irrefl _)
    simp [h1,h2,h3]
   ·have h3:a=b:=UInt8.le_antisymm (UInt8.not_lt.1 h2) (UInt8.not_lt.1 h1)
    subst h3
    simp [h1]
def cmpS (a b:ByteArray):Int:=if sLt a b then -1 else if a=b then 0 else 1
def cmpI (a b:Int):Int:=if a < b then -1 else if b < a then 1 else 0
def cmpD (s:ByteArray) (n:Int) (s':ByteArray) (n':Int):Int:=if cmpS s s'≠0 then cmpS s s' else cmpI n n'
theorem se_ (a b:ByteArray):Lib.compareBytes a.data.toList b.data.toList=cmpS a b:=by
 rw [m0_,cmpS,sLt,Lib.toList_data,Lib.toList_data]
 congr 1
 by_cases h:a=b
 ·subst h;simp
 ·have:¬ a.data.toList=b.data.toList:=fun hh=>h (by apply ByteArray.ext;exact Array.toList_inj.1 hh)
  rw [if_neg h,if_neg this]
theorem m2_ {κ:K} {α:Operand→AVal} {x y:Operand} {ev:Operand→Value} {a b:ByteArray} (hx:α x=vStr a) (hy:α y=vStr b) (h:∀ z∈#[x,y],Rv κ (α z) (ev z)):∃ cv,(Extern.BytealgCompare.compare (#[x,y].map ev)).run Tryz.prog κ.w=.ok cv κ.w∧Rv κ (vInt (cmpS a b)) cv:=by
 have h1:=h x (by simp);have h2:=h y (by simp)
 rw [hx] at h1
 rw [hy] at h2
 refine ⟨_,?_,.lit _⟩
 rw [show #[x,y].map ev=#[ev x,ev y] from by simp,h1.litInv,h2.litInv,← se_]
 exact Lib.run_compareString a b κ.w
theorem dD_ {a b:ByteArray} {σ:Store}:ACalls Tryz.prog 117 [vStr a,vStr b] σ fun v σ'=>v=vInt (cmpS a b)∧σ=σ':=by
 refine en_ Tryz.func117 Tryz.ntmps117 Tryz.results117 ?_
 refine rr_ ?_
 refine s_ ?_
 refine aa_ ?_
 refine rr_ ?_
 iterate 2 refine s_ ?_
 refine aL_X rfl rfl (AOp_extern rfl (e:=Extern.BytealgCompare.compare) kr_ g_ (fun κ ev _ h=>m2_ (a:=a) (b:=b) va_ va_ h) ?_)
 refine s_ ?_
 refine aa_ ?_
 refine ac_ ?_
 refine er_ σ ?_
 exact ⟨rfl,rfl⟩
theorem fx_ {a b:ByteArray} {σ:Store}:ACalls Tryz.prog 54 [vStr a,vStr b] σ fun v σ'=>v=vInt (cmpS a b)∧σ=σ':=by
 refine en_ Tryz.func54 Tryz.ntmps54 Tryz.results54 ?_
 refine rr_ ?_
 refine s_ ?_
 refine aa_ ?_
 refine rr_ ?_
 iterate 2 refine s_ ?_
 refine x_ g_ va_ (dD_) ?_;rintro _ _ ⟨rfl,rfl⟩
 refine s_ ?_
 refine aa_ ?_
 refine ac_ ?_
 refine er_ σ ?_
 exact ⟨rfl,rfl⟩
theorem nv_ {n:Int} {σ:Store}:ACalls Tryz.prog 604 [vInt n] σ fun v σ'=>v=vB false∧σ=σ':=by
 refine en_ Tryz.func604 Tryz.ntmps604 Tryz.results604 ?_
 refine rr_ ?_
 refine s_ ?_
 refine aa_ ?_
 refine rr_ ?_
 iterate 4 refine s_ ?_
 refine aa_ ?_
 refine ac_ ?_
 refine er_ σ ?_
 exact ⟨by simp,rfl⟩
theorem iO_ {a b:Int} {σ:Store}:ACalls Tryz.prog 548 [vInt a,vInt b] σ fun v σ'=>v=vInt (cmpI a b)∧σ=σ':=by
 refine en_ Tryz.func548 Tryz.ntmps548 Tryz.results548 ?_
 refine rr_ ?_
 refine s_ ?_
 refine aa_ ?_
 refine rr_ ?_
 refine s_ ?_
 refine x_ g_ va_ (nv_) ?_;rintro _ _ ⟨rfl,rfl⟩
 refine s_ ?_
 refine aa_ ?_
 refine rr_ ?_
 refine s_ ?_
 refine x_ g_ va_ (nv_) ?_;rintro _ _ ⟨rfl,rfl⟩
 refine s_ ?_
 refine aa_ ?_
 refine ab_ ?_
 refine rr_ ?_
 refine s_ ?_
 refine aa_ ?_
 refine cd_ (fun hc3=>?_) (fun hc3=>?_)
 ·cases hc3
 ·refine ae_ ?_
  refine ab_ ?_
  refine rr_ ?_
  refine s_ ?_
  refine aa_ ?_
  refine cd_ (fun hc7=>?_) (fun hc7=>?_)
  ·cases hc7
  ·refine ae_ ?_
   refine ab_ ?_
   refine rr_ ?_
   iterate 3 refine s_ ?_
   refine aa_ ?_
   refine cd_ (fun hc9=>?_) (fun hc9=>?_)
   ·refine rr_ ?_
    refine s_ ?_
    refine aa_ ?_
    refine ac_ ?_
    refine er_ σ ?_
    exact ⟨by rw [cmpI,if_pos hc9],rfl⟩
   ·refine ae_ ?_
    refine ab_ ?_
    refine rr_ ?_
    iterate 3 refine s_ ?_
    refine aa_ ?_
    refine cd_ (fun hc11=>?_) (fun hc11=>?_)
    ·refine rr_ ?_
     refine s_ ?_
     refine aa_ ?_
     refine ac_ ?_
     refine er_ σ ?_
     exact ⟨by rw [cmpI,if_neg (by omega),if_pos hc11],rfl⟩
    ·refine ae_ ?_
     refine rr_ ?_
     refine s_ ?_
     refine aa_ ?_
     refine ac_ ?_
     refine er_ σ ?_
     exact ⟨by rw [cmpI,if_neg (by omega),if_neg (by omega)],rfl⟩
theorem xe_ {a b:Int} {t:Bool} {σ:Store}:ACalls Tryz.prog 547 [.sl 1 [vInt a,vInt b] t] σ fun v σ'=>v=vInt (if a≠0 then a else b)∧σ=σ':=by
 refine en_ Tryz.func547 Tryz.ntmps547 Tryz.results547 ?_
 refine rr_ ?_
 refine s_ ?_
 refine aa_ ?_
 refine rr_ ?_
 refine s_ ?_
 refine aa_ ?_
 refine ab_ ?_
 refine rr_ ?_
 iterate 3 refine s_ ?_
 refine aa_ ?_
 refine ah_ ?_
 refine ak_ (ι:=Nat) (fun k=>2 - k) (fun k=>k≤2∧(1≤k→a=0)∧(2≤k→b=0)) (fun k=>[(3,vInt 0),(6,.sl 1 [vInt a,vInt b] t),(7,vInt 2),(8,vInt k)]) (fun k=>σ) 0 ?_ ?_ ?_ ?_
 ·exact ⟨Nat.zero_le _,fun h=>by omega,fun h=>by omega⟩
 ·exact cv_
 ·exact sub_
 rintro k ⟨hk,h1,h2⟩
 simp only [ar_,av_]
 refine rr_ ?_
 refine s_ ?_
 refine aa_ ?_
 refine ab_ ?_
 refine cd_ (fun hc3=>?_) (fun hc3=>?_)
 ·refine ae_ ?_
  refine ab_ ?_
  refine ah_ ?_
  refine ab_ ?_
  skip
  obtain ⟨x,hxk,hx0,hx1⟩:∃ x,[vInt a,vInt b][k]?=some (vInt x)∧(k=0→x=a)∧(k=1→x=b):=by
   match k,(show k < 2 by omega) with
   |0,_=>exact ⟨a,rfl,fun _=>rfl,fun h=>by cases h⟩
   |1,_=>exact ⟨b,rfl,(fun h=>by cases h),fun _=>rfl⟩
  have R:=hxk
  refine r_ ?_
  iterate 3 refine s_ ?_
  refine aa_ ?_
  refine rr_ ?_
  iterate 3 refine s_ ?_
  refine aa_ ?_
  refine cd_ (fun hc5=>?_) (fun hc5=>?_)
  ·refine rr_ ?_
   iterate 2 refine s_ ?_
   refine aa_ ?_
   refine ac_ ?_
   refine er_ σ ?_
   refine ⟨?_,rfl⟩
   rcases Nat.lt_or_ge k 1 with h | h
   ·obtain rfl:=hx0 (by omega)
    rw [if_pos hc5]
   ·obtain rfl:=hx1 (by omega)
    rw [if_neg (by rw [h1 h];simp)]
  ·have hs1:a=0:=by rcases Nat.lt_or_ge k 1 with h | h;exact (hx0 (by omega)) ▸ hc5;exact h1 h
   have hs2:2≤k + 1→b=0:=fun h=>(hx1 (by omega)) ▸ hc5
   refine ae_ ?_
   refine r_ ?_
   iterate 2 refine s_ ?_
   refine aa_ ?_
   refine bb_ (ι:=Nat) (i:=k) (k + 1) ?_ ?_ ?_ ?_
   ·omega
   ·exact ⟨by omega,fun _=>hs1,fun h=>hs2 h⟩
   ·exact cv_
   ·exact sub_
 ·refine ay_ ?_
  refine af_ ?_
  refine af_ ?_
  refine aq_ ?_
  refine rr_ ?_
  iterate 2 refine s_ ?_
  refine aa_ ?_
  refine ac_ ?_
  refine er_ σ ?_
  refine ⟨?_,rfl⟩
  rw [if_neg (by rw [h1 (by omega)];simp),h2 (by omega)]
theorem m5_ {s s':ByteArray} {n n':Int} {σ:Store}:ACalls Tryz.prog 543 [sDot s n,sDot s' n'] σ fun v σ'=>v=vInt (cmpD s n s' n')∧σ=σ':=by
 refine en_ Tryz.func543 Tryz.ntmps543 Tryz.results543 ?_
 refine rr_ ?_
 refine bx_ fun o2 ho2=>?_
 repeat (rw [ad_] at ho2;obtain ⟨_,ho2⟩:=ho2)
 refine bx_ fun o3 ho3=>?_
 repeat (rw [ad_] at ho3;obtain ⟨_,ho3⟩:=ho3)
 refine s_ ?_
 refine aa_ ?_
 refine ab_ ?_
 refine aL_ (.op 0 0 (.op 1 0 (.op 2 0 (.op 3 0 (.op 5 0 (.op 6 0 (.op 7 0 (.op 8 0 (.op 4 1 (.op 9 1 (.op 10 1 (.op 11 1 (.op 12 0 .nil))))))))))))) Tryz.mixed kr_ ?_
 iterate 8 refine ds_ ?_
 refine dx_ o_ g_ va_ (fx_) ?_;rintro _ _ ⟨rfl,rfl⟩;refine ⟨sub_,?_⟩
 refine dx_ o_ g_ va_ (iO_) ?_;rintro _ _ ⟨rfl,rfl⟩;refine ⟨sub_,?_⟩
 refine dR_X o_ (by rfl) (by rfl) (dw_ (by rfl) g_ g_ (by rfl) (by rfl) h_ c2_ (by decide) ⟨sub_,?_⟩)
 refine dx_ o_ g_ va_ (xe_ (a:=cmpS s s') (b:=cmpI n n')) ?_;rintro _ _ ⟨rfl,rfl⟩;refine ⟨sub_,?_⟩
 refine ds_ ?_
 refine aG_ ?_
 refine ac_ ?_
 refine er_ σ ?_
 exact ⟨rfl,rfl⟩
theorem ta_ {x y:Sib} {σ:Store}:ACalls Tryz.prog 445 [sSib x,sSib y] σ fun v σ'=>v=vInt (cmpD x.node x.n y.node y.n)∧σ=σ':=by
 refine en_ Tryz.func445 Tryz.ntmps445 Tryz.results445 ?_
 refine rr_ ?_
 refine bx_ fun o2 ho2=>?_
 repeat (rw [ad_] at ho2;obtain ⟨_,ho2⟩:=ho2)
 refine bx_ fun o3 ho3=>?_
 repeat (rw [ad_] at ho3;obtain ⟨_,ho3⟩:=ho3)
 refine s_ ?_
 refine aa_ ?_
 refine rr_ ?_
 iterate 4 refine s_ ?_
 refine x_ g_ va_ (m5_) ?_;rintro _ _ ⟨rfl,rfl⟩
 refine s_ ?_
 refine aa_ ?_
 refine ac_ ?_
 refine er_ σ ?_
 exact ⟨rfl,rfl⟩
def jQ_ (s:ByteArray) (n:Int) (s':ByteArray) (n':Int):Bool:=sLt s s' || (decide (s=s') && decide (n < n'))
theorem iz_ (s:ByteArray) (n:Int) (s':ByteArray) (n':Int):(cmpD s n s' n' < 0) ↔ jQ_ s n s' n'=true:=by
 unfold cmpD jQ_ cmpS cmpI
 cases h1:sLt s s' <;> by_cases h2:s=s' <;> simp [h2]
 by_cases h3:n < n' <;> by_cases h4:n' < n <;> simp [h3,h4]
abbrev vNil:AVal:=.lit (.slice none 0 0)
theorem kL_ {α:Type} (f:α→AVal) (h:∀ x,∀ c∈(f x).cells,c.one=true) (l:List α):∀ y∈l.map f,∀ c∈y.cells,c.one=true:=fun y hy=>by
 obtain ⟨x,_,rfl⟩:=List.mem_map.1 hy
 exact h x
theorem nR_ {α:Type} (f:α→AVal) {n:Nat} (h:∀ x,(f x).cells.length=n) (l:List α):∀ y∈l.map f,y.cells.length=n:=fun y hy=>by
 obtain ⟨x,_,rfl⟩:=List.mem_map.1 hy
 exact h x
def cbk {α:Type} (L1 L2:List α) (k:Nat):List α:=if k=0 then [] else if k=1 then L1 else L1 ++ L2
theorem n8_ (l:List Seen):∀ y∈l.map aM_,∀ c∈y.cells,c.one=true:=kL_ aM_ (fun x c hc=>by simp [AVal.cells] at hc;(try rcases hc with rfl | rfl | rfl | rfl | rfl);(try rcases hc with rfl | rfl | rfl);(try subst hc);all_goals rfl) l
theorem o4_ (l:List Seen):∀ y∈l.map aM_,y.cells.length=3:=nR_ aM_ (fun x=>rfl) l
theorem lU_ {n:Nat} {σ:Store} (hn:n≤1000000000):ACalls Tryz.prog 608 [vNil,vInt n] σ fun v σ'=>CBp σ σ' 3 [] v:=by
 refine en_ Tryz.func608 Tryz.ntmps608 Tryz.results608 ?_
 refine rr_ ?_
 refine s_ ?_
 refine aa_ ?_
 refine ab_ ?_
 refine rr_ ?_
 iterate 2 refine s_ ?_
 refine aa_ ?_
 refine cd_ (fun hc1=>?_) (fun hc1=>?_)
 ·omega
 ·refine ae_ ?_
  refine ab_ ?_
  refine rr_ ?_
  iterate 2 refine s_ ?_
  refine aL_X rfl rfl (ck_ rfl g_ va_ ?_)
  iterate 5 refine s_ ?_
  refine aa_ ?_
  refine rr_ ?_
  iterate 2 refine s_ ?_
  refine aa_ ?_
  refine cd_ (fun hc4=>?_) (fun hc4=>?_)
  ·refine r_ ?_
   iterate 2 refine s_ ?_
   refine aL_X rfl rfl (ck_ rfl g_ va_ ?_)
   iterate 2 refine s_ ?_
   refine aL_X rfl rfl (d3_ (n:=n) rfl g_ g_ g_ va_ va_ (by omega) (by omega) fun o22 ho22=>?_)
   iterate 4 refine s_ ?_
   refine aa_ ?_
   refine rr_ ?_
   iterate 2 refine s_ ?_
   refine aa_ ?_
   refine ac_ ?_
   refine aE_ v_ (Store.Wk.refl _) ?_
   exact .inr ⟨o22,ho22,rfl,rfl⟩
  ·refine ae_ ?_
   refine rr_ ?_
   iterate 2 refine s_ ?_
   refine aa_ ?_
   refine ac_ ?_
   refine aE_ v_ (Store.Wk.refl _) ?_
   exact .inl ⟨rfl,rfl,rfl⟩
theorem iD_ {L1 L2:List Seen} {t1 t2 tt:Bool} {σ:Store} (h1:L1.length≤10000000) (h2:L2.length≤10000000) :
  ACalls Tryz.prog 565 [.sl 1 [.sl 3 (L1.map aM_) t1,.sl 3 (L2.map aM_) t2] tt] σ fun v σ'=>CBp σ σ' 3 ((L1 ++ L2).map aM_) v:=by
 refine en_ Tryz.func565 Tryz.ntmps565 Tryz.results565 ?_
 refine rr_ ?_
 refine s_ ?_
 refine aa_ ?_
 refine rr_ ?_
 refine s_ ?_
 refine aa_ ?_
 refine ab_ ?_
 refine rr_ ?_
 iterate 3 refine s_ ?_
 refine aa_ ?_
 refine ah_ ?_
 refine ak_ (ι:=Nat) (fun k=>2 - k) (fun k=>k≤2) (fun k=>[(0,.sl 1 [.sl 3 (L1.map aM_) t1,.sl 3 (L2.map aM_) t2] tt),(3,vInt ((if k=0 then 0 else if k=1 then L1.length else L1.length + L2.length:Nat):Int)),(9,.sl 1 [.sl 3 (L1.map aM_) t1,.sl 3 (L2.map aM_) t2] tt),(10,vInt 2),(11,vInt k)]) (fun k=>σ) 0 ?_ ?_ ?_ ?_
 ·exact Nat.zero_le _
 ·exact cv_
 ·exact sub_
 rintro k hk
 simp only [ar_,av_]
 refine rr_ ?_
 refine s_ ?_
 refine aa_ ?_
 refine ab_ ?_
 refine cd_ (fun hc3=>?_) (fun hc3=>?_)
 ·refine ae_ ?_
  refine ab_ ?_
  refine ah_ ?_
  refine ab_ ?_
  rcases (show k=0∨k=1 by omega) with rfl | rfl
  ·refine r_ ?_
   iterate 3 refine s_ ?_
   refine aa_ ?_
   refine rr_ ?_
   iterate 5 refine s_ ?_
   refine aa_ ?_
   refine rr_ ?_
   iterate 2 refine s_ ?_
   refine aa_ ?_
   refine cd_ (fun hc6=>?_) (fun hc6=>?_)
   ·omega
   ·refine ae_ ?_
    refine r_ ?_
    iterate 2 refine s_ ?_
    refine aa_ ?_
    refine bb_ (ι:=Nat) (i:=0) 1 ?_ ?_ ?_ ?_
    ·decide
    ·decide
    ·have R:=(show ((0:Nat):Int) + (L1.length:Int)=(L1.length:Int) from by omega);exact cv_
    ·exact sub_
  ·refine r_ ?_
   iterate 3 refine s_ ?_
   refine aa_ ?_
   refine rr_ ?_
   iterate 5 refine s_ ?_
   refine aa_ ?_
   refine rr_ ?_
   iterate 2 refine s_ ?_
   refine aa_ ?_
   refine cd_ (fun hc6=>?_) (fun hc6=>?_)
   ·omega
   ·refine ae_ ?_
    refine r_ ?_
    iterate 2 refine s_ ?_
    refine aa_ ?_
    refine bb_ (ι:=Nat) (i:=1) 2 ?_ ?_ ?_ ?_
    ·decide
    ·decide
    ·exact cv_
    ·exact sub_
 ·refine ay_ ?_
  refine af_ ?_
  refine af_ ?_
  refine aq_ ?_
  refine ab_ ?_
  obtain rfl:k=2:=by omega
  refine r_ ?_
  refine s_ ?_
  refine x_ g_ va_ (lU_ (n:=L1.length + L2.length) (by omega)) ?_;rintro _ τ0 hC0
  rename_i b0
  refine s_ ?_
  refine aa_ ?_
  refine ab_ ?_
  refine rr_ ?_
  iterate 3 refine s_ ?_
  refine aa_ ?_
  refine ah_ ?_
  refine ak_ (ι:=Store × AVal × Nat) (fun ⟨τ,b,k⟩=>2 - k) (fun ⟨τ,b,k⟩=>k≤2∧CBp σ τ 3 ((cbk L1 L2 k).map aM_) b) (fun ⟨τ,b,k⟩=>[(6,b),(25,.sl 1 [.sl 3 (L1.map aM_) t1,.sl 3 (L2.map aM_) t2] tt),(26,vInt 2),(27,vInt k)]) (fun ⟨τ,b,k⟩=>τ) (τ0,b0,0) ?_ ?_ ?_ ?_
  ·exact ⟨Nat.zero_le _,hC0⟩
  ·exact cv_
  ·exact Store.Wk.refl _
  rintro ⟨τ,b,k⟩ ⟨hk,hC⟩
  simp only [ar_,av_]
  refine rr_ ?_
  refine s_ ?_
  refine aa_ ?_
  refine ab_ ?_
  refine cd_ (fun hc11=>?_) (fun hc11=>?_)
  ·refine ae_ ?_
   refine ab_ ?_
   refine ah_ ?_
   refine ab_ ?_
   rcases (show k=0∨k=1 by omega) with rfl | rfl
   ·refine r_ ?_
    iterate 3 refine s_ ?_
    refine aa_ ?_
    refine r_ ?_
    iterate 2 refine s_ ?_
    refine aL_X rfl rfl (cP_ rfl g_ g_ hC va_ (o4_ _) va_ (n8_ _) (by simp [cbk];omega) fun a' σ' hC'=>?_)
    refine s_ ?_
    refine aa_ ?_
    refine r_ ?_
    iterate 2 refine s_ ?_
    refine aa_ ?_
    refine bb_ (ι:=Store × AVal × Nat) (i:=(τ,b,0)) (σ',a',1) ?_ ?_ ?_ ?_
    ·show 2 - 1 < 2 - 0;decide
    ·exact ⟨by show 1≤2;decide,by simpa [cbk] using hC'⟩
    ·exact cv_
    ·exact Store.Wk.refl _
   ·refine r_ ?_
    iterate 3 refine s_ ?_
    refine aa_ ?_
    refine r_ ?_
    iterate 2 refine s_ ?_
    refine aL_X rfl rfl (cP_ rfl g_ g_ hC va_ (o4_ _) va_ (n8_ _) (by simp [cbk];omega) fun a' σ' hC'=>?_)
    refine s_ ?_
    refine aa_ ?_
    refine r_ ?_
    iterate 2 refine s_ ?_
    refine aa_ ?_
    refine bb_ (ι:=Store × AVal × Nat) (i:=(τ,b,1)) (σ',a',2) ?_ ?_ ?_ ?_
    ·show 2 - 2 < 2 - 1;decide
    ·exact ⟨by show 2≤2;decide,by simpa [cbk] using hC'⟩
    ·exact cv_
    ·exact Store.Wk.refl _
  ·refine ay_ ?_
   refine af_ ?_
   refine af_ ?_
   refine aq_ ?_
   refine ab_ ?_
   obtain rfl:k=2:=by omega
   refine r_ ?_
   iterate 2 refine s_ ?_
   refine aa_ ?_
   refine ac_ ?_
   refine aE_ v_ (Store.Wk.refl _) ?_
   exact hC
theorem rt_ (l:List Int):∀ y∈l.map vInt,∀ c∈y.cells,c.one=true:=kL_ vInt (fun x c hc=>by simp [AVal.cells] at hc;(try rcases hc with rfl | rfl | rfl | rfl | rfl);(try rcases hc with rfl | rfl | rfl);(try subst hc);all_goals rfl) l
theorem tS_ (l:List Int):∀ y∈l.map vInt,y.cells.length=1:=nR_ vInt (fun x=>rfl) l
theorem nq_ {n:Nat} {σ:Store} (hn:n≤1000000000):ACalls Tryz.prog 642 [vNil,vInt n] σ fun v σ'=>CBp σ σ' 1 [] v:=by
 refine en_ Tryz.func642 Tryz.ntmps642 Tryz.results642 ?_
 refine rr_ ?_
 refine s_ ?_
 refine aa_ ?_
 refine ab_ ?_
 refine rr_ ?_
 iterate 2 refine s_ ?_
 refine aa_ ?_
 refine cd_ (fun hc1=>?_) (fun hc1=>?_)
 ·omega
 ·refine ae_ ?_
  refine ab_ ?_
  refine rr_ ?_
  iterate 2 refine s_ ?_
  refine aL_X rfl rfl (ck_ rfl g_ va_ ?_)
  iterate 5 refine s_ ?_
  refine aa_ ?_
  refine rr_ ?_
  iterate 2 refine s_ ?_
  refine aa_ ?_
  refine cd_ (fun hc4=>?_) (fun hc4=>?_)
  ·refine r_ ?_
   iterate 2 refine s_ ?_
   refine aL_X rfl rfl (ck_ rfl g_ va_ ?_)
   iterate 2 refine s_ ?_
   refine aL_X rfl rfl (d3_ (n:=n) rfl g_ g_ g_ va_ va_ (by omega) (by omega) fun o22 ho22=>?_)
   iterate 4 refine s_ ?_
   refine aa_ ?_
   refine rr_ ?_
   iterate 2 refine s_ ?_
   refine aa_ ?_
   refine ac_ ?_
   refine aE_ v_ (Store.Wk.refl _) ?_
   exact .inr ⟨o22,ho22,rfl,rfl⟩
  ·refine ae_ ?_
   refine rr_ ?_
   iterate 2 refine s_ ?_
   refine aa_ ?_
   refine ac_ ?_
   refine aE_ v_ (Store.Wk.refl _) ?_
   exact .inl ⟨rfl,rfl,rfl⟩
theorem f0_ {L1 L2:List Int} {t1 t2 tt:Bool} {σ:Store} (h1:L1.length≤10000000) (h2:L2.length≤10000000) :
  ACalls Tryz.prog 609 [.sl 1 [.sl 1 (L1.map vInt) t1,.sl 1 (L2.map vInt) t2] tt] σ fun v σ'=>CBp σ σ' 1 ((L1 ++ L2).map vInt) v:=by
 refine en_ Tryz.func609 Tryz.ntmps609 Tryz.results609 ?_
 refine rr_ ?_
 refine s_ ?_
 refine aa_ ?_
 refine rr_ ?_
 refine s_ ?_
 refine aa_ ?_
 refine ab_ ?_
 refine rr_ ?_
 iterate 3 refine s_ ?_
 refine aa_ ?_
 refine ah_ ?_
 refine ak_ (ι:=Nat) (fun k=>2 - k) (fun k=>k≤2) (fun k=>[(0,.sl 1 [.sl 1 (L1.map vInt) t1,.sl 1 (L2.map vInt) t2] tt),(3,vInt ((if k=0 then 0 else if k=1 then L1.length else L1.length + L2.length:Nat):Int)),(9,.sl 1 [.sl 1 (L1.map vInt) t1,.sl 1 (L2.map vInt) t2] tt),(10,vInt 2),(11,vInt k)]) (fun k=>σ) 0 ?_ ?_ ?_ ?_
 ·exact Nat.zero_le _
 ·exact cv_
 ·exact sub_
 rintro k hk
 simp only [ar_,av_]
 refine rr_ ?_
 refine s_ ?_
 refine aa_ ?_
 refine ab_ ?_
 refine cd_ (fun hc3=>?_) (fun hc3=>?_)
 ·refine ae_ ?_
  refine ab_ ?_
  refine ah_ ?_
  refine ab_ ?_
  rcases (show k=0∨k=1 by omega) with rfl | rfl
  ·refine r_ ?_
   iterate 3 refine s_ ?_
   refine aa_ ?_
   refine rr_ ?_
   iterate 5 refine s_ ?_
   refine aa_ ?_
   refine rr_ ?_
   iterate 2 refine s_ ?_
   refine aa_ ?_
   refine cd_ (fun hc6=>?_) (fun hc6=>?_)
   ·omega
   ·refine ae_ ?_
    refine r_ ?_
    iterate 2 refine s_ ?_
    refine aa_ ?_
    refine bb_ (ι:=Nat) (i:=0) 1 ?_ ?_ ?_ ?_
    ·decide
    ·decide
    ·have R:=(show ((0:Nat):Int) + (L1.length:Int)=(L1.length:Int) from by omega);exact cv_
    ·exact sub_
  ·refine r_ ?_
   iterate 3 refine s_ ?_
   refine aa_ ?_
   refine rr_ ?_
   iterate 5 refine s_ ?_
   refine aa_ ?_
   refine rr_ ?_
   iterate 2 refine s_ ?_
   refine aa_ ?_
   refine cd_ (fun hc6=>?_) (fun hc6=>?_)
   ·omega
   ·refine ae_ ?_
    refine r_ ?_
    iterate 2 refine s_ ?_
    refine aa_ ?_
    refine bb_ (ι:=Nat) (i:=1) 2 ?_ ?_ ?_ ?_
    ·decide
    ·decide
    ·exact cv_
    ·exact sub_
 ·refine ay_ ?_
  refine af_ ?_
  refine af_ ?_
  refine aq_ ?_
  refine ab_ ?_
  obtain rfl:k=2:=by omega
  refine r_ ?_
  refine s_ ?_
  refine x_ g_ va_ (nq_ (n:=L1.length + L2.length) (by omega)) ?_;rintro _ τ0 hC0
  rename_i b0
  refine s_ ?_
  refine aa_ ?_
  refine ab_ ?_
  refine rr_ ?_
  iterate 3 refine s_ ?_
  refine aa_ ?_
  refine ah_ ?_
  refine ak_ (ι:=Store × AVal × Nat) (fun ⟨τ,b,k⟩=>2 - k) (fun ⟨τ,b,k⟩=>k≤2∧CBp σ τ 1 ((cbk L1 L2 k).map vInt) b) (fun ⟨τ,b,k⟩=>[(6,b),(25,.sl 1 [.sl 1 (L1.map vInt) t1,.sl 1 (L2.map vInt) t2] tt),(26,vInt 2),(27,vInt k)]) (fun ⟨τ,b,k⟩=>τ) (τ0,b0,0) ?_ ?_ ?_ ?_
  ·exact ⟨Nat.zero_le _,hC0⟩
  ·exact cv_
  ·exact Store.Wk.refl _
  rintro ⟨τ,b,k⟩ ⟨hk,hC⟩
  simp only [ar_,av_]
  refine rr_ ?_
  refine s_ ?_
  refine aa_ ?_
  refine ab_ ?_
  refine cd_ (fun hc11=>?_) (fun hc11=>?_)
  ·refine ae_ ?_
   refine ab_ ?_
   refine ah_ ?_
   refine ab_ ?_
   rcases (show k=0∨k=1 by omega) with rfl | rfl
   ·refine r_ ?_
    iterate 3 refine s_ ?_
    refine aa_ ?_
    refine r_ ?_
    iterate 2 refine s_ ?_
    refine aL_X rfl rfl (cP_ rfl g_ g_ hC va_ (tS_ _) va_ (rt_ _) (by simp [cbk];omega) fun a' σ' hC'=>?_)
    refine s_ ?_
    refine aa_ ?_
    refine r_ ?_
    iterate 2 refine s_ ?_
    refine aa_ ?_
    refine bb_ (ι:=Store × AVal × Nat) (i:=(τ,b,0)) (σ',a',1) ?_ ?_ ?_ ?_
    ·show 2 - 1 < 2 - 0;decide
    ·exact ⟨by show 1≤2;decide,by simpa [cbk] using hC'⟩
    ·exact cv_
    ·exact Store.Wk.refl _
   ·refine r_ ?_
    iterate 3 refine s_ ?_
    refine aa_ ?_
    refine r_ ?_
    iterate 2 refine s_ ?_
    refine aL_X rfl rfl (cP_ rfl g_ g_ hC va_ (tS_ _) va_ (rt_ _) (by simp [cbk];omega) fun a' σ' hC'=>?_)
    refine s_ ?_
    refine aa_ ?_
    refine r_ ?_
    iterate 2 refine s_ ?_
    refine aa_ ?_
    refine bb_ (ι:=Store × AVal × Nat) (i:=(τ,b,1)) (σ',a',2) ?_ ?_ ?_ ?_
    ·show 2 - 2 < 2 - 1;decide
    ·exact ⟨by show 2≤2;decide,by simpa [cbk] using hC'⟩
    ·exact cv_
    ·exact Store.Wk.refl _
  ·refine ay_ ?_
   refine af_ ?_
   refine af_ ?_
   refine aq_ ?_
   refine ab_ ?_
   obtain rfl:k=2:=by omega
   refine r_ ?_
   iterate 2 refine s_ ?_
   refine aa_ ?_
   refine ac_ ?_
   refine aE_ v_ (Store.Wk.refl _) ?_
   exact hC
end Go.Proofs.YtkjfpgjpeofndaaGreatDoor
end

section
set_option linter.all false
namespace Go.Ab
open Go.RowKit (Below)
open Go.Shelf Go.Proofs
section
variable {P:Program} {σ:Store}
def rowed (w:World) (n b:Nat) (f:Array Value→Array Value) (os:Array Obj):World:=Sort.grow (Sort.mapBlock (Sort.ahead w n) b f) os
theorem cH_ (w:World) (n:Nat) {b b':Nat} (f:Array Value→Array Value) (os:Array Obj) (h:b'≠b) (hlt:b' < w.heap.size):(rowed w n b f os).heap[b']?=w.heap[b']?:=by
 unfold rowed Sort.grow Sort.mapBlock Sort.ahead
 dsimp only
 rw [Array.getElem?_append_left (by simpa using hlt),Array.getElem?_modify,if_neg (Ne.symm h)]
theorem mh_ {w:World} (n:Nat) {b:Nat} (f:Array Value→Array Value) (os:Array Obj) {c:Array Value} {e:TypeId} {fr:Nat × Nat} (h:w.heap[b]?=some (.cells c e fr)):(rowed w n b f os).heap[b]?=some (.cells (f c) e fr):=by
 have hlt:b < w.heap.size:=(Array.getElem?_eq_some_iff.1 h).1
 unfold rowed Sort.grow Sort.mapBlock Sort.ahead
 dsimp only
 rw [Array.getElem?_append_left (by simpa using hlt),Array.getElem?_modify,if_pos rfl,h]
 rfl
theorem Inv.rowed {κ:K} (h:Inv κ σ) {o:Nat} {cs cs':List AVal} (ho:σ.heap o=some (.cells cs)) {b:Nat} (hb:κ.ρ o=some b) (n:Nat) (f:Array Value→Array Value) (os:Array Obj) (hf:∀ c,(f c).size=c.size)
  (hv:∀ c:Array Value,cs.length≤c.size→(∀ i (hi:i < cs.length),Rv κ cs[i] (c.getD i undef))→cs'.length≤c.size∧∀ i (hi:i < cs'.length),Rv κ cs'[i] ((f c).getD i undef)) :
  κ.Le { κ with w:=Ab.rowed κ.w n b f os }∧Inv { κ with w:=Ab.rowed κ.w n b f os } (σ.set o (.cells cs')):=by
 obtain ⟨b',hb',hbase,hIb,c,e,hheap,hlen,hR⟩:=h.heap o _ ho
 rw [hb] at hb'
 obtain rfl:=Option.some.inj hb'
 have hlt:b < κ.w.heap.size:=(Array.getElem?_eq_some_iff.1 hheap).1
 have hnew:=mh_ n f os hheap
 have hle:κ.Le { κ with w:=Ab.rowed κ.w n b f os }:=by
  refine ⟨rfl,⟨rfl,rfl,rfl,by simp [Ab.rowed,Sort.grow,Sort.mapBlock,Sort.ahead],fun k hk=>?_⟩,fun b' s e'=>?_,fun _ _ e'=>e',fun _ _ e'=>e',fun _=>Nat.le_refl _,fun b' off' u hi e'=>?_,by simp [Ab.rowed,Sort.grow,Sort.mapBlock,Sort.ahead],fun _ _=>rfl⟩
  ·exact cH_ _ _ _ _ (by omega) (by omega)
  ·by_cases hbb:b'=b
   ·subst hbb
    unfold World.shape? at e' ⊢
    rw [hheap] at e'
    dsimp only
    rw [hnew]
    simpa [hf] using e'
   ·have hlt':b' < κ.w.heap.size:=by
     unfold World.shape? at e'
     cases hq:κ.w.heap[b']? with
     |none=>rw [hq] at e';cases e'
     |some q=>exact (Array.getElem?_eq_some_iff.1 hq).1
    unfold World.shape? at e' ⊢
    dsimp only
    rw [cH_ _ _ _ _ hbb hlt'];exact e'
  ·have hne:b'≠b:=fun hh'=>by rw [hh',hIb] at hi;omega
   have hlt':b' < κ.w.heap.size:=by
    unfold World.cell? at e'
    cases hq:κ.w.heap[b']? with
    |none=>rw [hq] at e';cases e'
    |some q=>exact (Array.getElem?_eq_some_iff.1 hq).1
   simp only [World.cell?] at e' ⊢
   rw [cH_ _ _ _ _ hne hlt'];exact e'
 obtain ⟨h1,h2⟩:=hv c hlen hR
 have big:κ.w.heap.size≤(Ab.rowed κ.w n b f os).heap.size:=hle.below.size
 refine ⟨hle,?_⟩
 refine h.step hle rfl rfl h.frO b hbase hIb (fun b' hne hl'=>cH_ _ _ _ _ hne hl') o _ (fun _ _=>rfl) hb ⟨f c,e,hnew,by rw [hf];exact h1,fun i hi=>(h2 i hi).mono hle⟩ ?_ ?_
 ·intro j z hz hne hh'
  exact hne (h.inj j o _ _ b hz ho hh' hb)
 ·intro t sz u ht hu hh'
  exact h.tokobj t sz u b o _ ht hu hh' ho hb
theorem kD_ {α:Type} [Inhabited α] {κ:K} (enc:α→Value) (d:Array α) {b:Nat} {c:Array Value} {e:TypeId} (hh:κ.w.heap[b]?=some (.cells c e (0,0))) (hl:d.size≤c.size) (h:∀ j,j < d.size→c.getD j undef=enc d[j]!):Sort.Holds enc κ.w b 0 d:=by
 intro j hj
 refine ⟨?_,by simp [World.frozen?,hh]⟩
 have h1:=h j hj
 simp only [World.cell?,hh,Nat.zero_add]
 rw [← h1]
 simp [show j < c.size by omega]
theorem eN_ {α:Type} [Inhabited α] (enc:α→Value) (off:Nat) (d:Array α) (c:Array Value):(Sort.putCells enc off d c).size=c.size:=by simp [Sort.putCells]
theorem gx_ {α:Type} [Inhabited α] (enc:α→Value) (d:Array α) (c:Array Value) (j:Nat) (hj:j < d.size) (hc:d.size≤c.size):(Sort.putCells enc 0 d c).getD j undef=enc d[j]!:=by
 simp [Sort.putCells,show j < c.size by omega,hj]
theorem Rv.mslInv {κ:K} {o sz off len:Nat} {v:Value} (h:Rv κ (.msl o sz off len) v):∃ b cap,v=.slice (some ⟨b,off,none⟩) len cap∧κ.ρ o=some b:=by
 cases h with
 |msl _ _ _ _ b cap n e hb hlen hs hn=>exact ⟨b,cap,rfl,hb⟩
theorem oe_ {κ κ':K} {σ:Store} (hle:κ.Le κ') (hI:Inv κ' σ) {Kk:AVal→Store→Prop} (hk:Kk (.tup []) σ):Post κ Kk (.tuple #[]) κ'.w :=
 ⟨κ',.tup [],σ,rfl,hle,hI,.tup [] #[] rfl (fun i hi=>by simp at hi),hk⟩
theorem lj_ {α:Type} [Inhabited α] (enc:α→Value) {f:FuncId} {o:Nat} (zs zs':List α) (hlen:zs'.length=zs.length) (ho:σ.heap o=some (.cells (zs.map fun z=>.lit (enc z)))) (extra:List AVal) (ev:List Value)
  (h:∀ (b cap:Nat) (w:World),Sort.Holds enc w b 0 zs.toArray→b < w.heap.size→Calls P f (#[.slice (some ⟨b,0,none⟩) zs.length cap] ++ ev.toArray) w fun e w'=>e=.returned (.tuple #[])∧∃ n os,w'=Sort.grow (Sort.putRow enc (Sort.ahead w n) b 0 zs'.toArray) os)
  (he:extra=ev.map .lit):ACalls P f (.msl o 1 0 zs.length :: extra) σ fun v σ'=>v=.tup []∧σ'=σ.set o (.cells (zs'.map fun z=>.lit (enc z))):=by
 intro κ vs hI hn hv
 subst he
 obtain ⟨b,cap,e0,hb⟩:=(hv 0 (by simp)).mslInv
 have hvs:vs=#[.slice (some ⟨b,0,none⟩) zs.length cap] ++ ev.toArray:=by
  apply Array.ext (by simpa [Nat.add_comm] using hn)
  intro i h1 h2
  have hi:i < (AVal.msl o 1 0 zs.length :: ev.map .lit).length:=by rw [← hn];exact h1
  have hr:=hv i hi
  have eg:vs.getD i undef=vs[i]:=by simp [h1]
  rw [eg] at hr
  cases i with
  |zero=>rw [← eg,e0];simp
  |succ i =>
   simp only [List.getElem_cons_succ,List.getElem_map] at hr
   rw [hr.litInv]
   simp [Array.getElem_append]
 obtain ⟨b',hb',hbase,hIb,c,e,hheap,hlen',hR⟩:=hI.heap o _ ho
 rw [hb] at hb'
 obtain rfl:=Option.some.inj hb'
 have hlt:b < κ.w.heap.size:=(Array.getElem?_eq_some_iff.1 hheap).1
 have hH:Sort.Holds enc κ.w b 0 zs.toArray:=kD_ enc zs.toArray hheap (by simpa using hlen') fun j hj=>by
  have hj':j < zs.length:=by simpa using hj
  have h1:=hR j (by simpa using hj')
  simp only [List.getElem_map] at h1
  rw [h1.litInv]
  simp [hj']
 rw [hvs]
 refine (h b cap κ.w hH hlt).mono fun ex w' ⟨he,n,os,hw⟩=>⟨_,he,?_⟩
 have key:=hI.rowed ho hb n (Sort.putCells enc 0 zs'.toArray) os (fun c=>eN_ enc 0 _ c) (cs':=zs'.map fun z=>.lit (enc z)) (fun c hc _=>⟨by simpa [hlen] using hc,fun i hi=>by
  have hi':i < zs'.length:=by simpa using hi
  rw [gx_ enc zs'.toArray c i (by simpa using hi') (by simp at hc ⊢;omega)]
  simp [hi']
  exact .lit _⟩)
 rw [hw]
 exact oe_ (κ':={ κ with w:=Ab.rowed κ.w n b (Sort.putCells enc 0 zs'.toArray) os }) key.1 key.2 ⟨rfl,rfl⟩
end
end Go.Ab
end

section
set_option linter.all false
set_option maxRecDepth 100000
namespace Go.Proofs
open Go.Shelf
def oV_:Go.Shelf.Ren:=⟨(fun n=>match n with | 125=>116 | 128=>237 | 129=>238 | 189=>610 | 215=>604 | 216=>665 | 257=>643 | 294=>659 | 295=>660 | 296=>661 | 297=>662 | 298=>663 | 299=>664 | 300=>666 | 301=>667 | 328=>672 | 329=>380 | 330=>381 | 331=>673 | 332=>674 | 343=>675 | _=>0),(fun n=>match n with | 0=>0 | 3=>3 | 4=>4 | 5=>5 | 9=>9 | 28=>170 | 46=>151 | 51=>323 | 53=>325 | 131=>320 | 182=>315 | 183=>316 | 218=>447 | 222=>451 | 228=>547 | 229=>467 | _=>0),(fun n=>match n with  | _=>0)⟩
theorem wc_:Lays.n189 Tryz.prog oV_:={
 mixed:=Tryz.mixed
 f125:=by kernel_rfl
 f128:=by kernel_rfl
 f129:=by kernel_rfl
 f189:=by kernel_rfl
 f215:=by kernel_rfl
 f216:=by kernel_rfl
 f257:=by kernel_rfl
 f294:=by kernel_rfl
 f295:=by kernel_rfl
 f296:=by kernel_rfl
 f297:=by kernel_rfl
 f298:=by kernel_rfl
 f299:=by kernel_rfl
 f300:=by kernel_rfl
 f301:=by kernel_rfl
 f328:=by kernel_rfl
 f329:=by kernel_rfl
 f330:=by kernel_rfl
 f331:=by kernel_rfl
 f332:=by kernel_rfl
 f343:=by kernel_rfl
 t0:=Tryz.underlying0
 a0:=Tryz.isAgg0
 z0:=Tryz.sizeOf0
 v0:=Tryz.zeroValue0
 t3:=Tryz.underlying3
 a3:=Tryz.isAgg3
 z3:=Tryz.sizeOf3
 v3:=Tryz.zeroValue3
 t4:=Tryz.underlying4
 a4:=Tryz.isAgg4
 z4:=Tryz.sizeOf4
 v4:=Tryz.zeroValue4
 t5:=Tryz.underlying5
 a5:=Tryz.isAgg5
 z5:=Tryz.sizeOf5
 v5:=Tryz.zeroValue5
 t9:=Tryz.underlying9
 a9:=Tryz.isAgg9
 z9:=Tryz.sizeOf9
 v9:=Tryz.zeroValue9
 t28:=Tryz.underlying170
 a28:=Tryz.isAgg170
 z28:=Tryz.sizeOf170
 v28:=Tryz.zeroValue170
 t46:=Tryz.underlying151
 a46:=Tryz.isAgg151
 z46:=Tryz.sizeOf151
 v46:=Tryz.zeroValue151
 t51:=Tryz.underlying323
 a51:=Tryz.isAgg323
 z51:=Tryz.sizeOf323
 v51:=Tryz.zeroValue323
 t53:=Tryz.underlying325
 a53:=Tryz.isAgg325
 z53:=Tryz.sizeOf325
 v53:=Tryz.zeroValue325
 t131:=Tryz.underlying320
 a131:=Tryz.isAgg320
 z131:=Tryz.sizeOf320
 v131:=Tryz.zeroValue320
 t182:=Tryz.underlying315
 a182:=Tryz.isAgg315
 z182:=Tryz.sizeOf315
 v182:=Tryz.zeroValue315
 t183:=Tryz.underlying316
 a183:=Tryz.isAgg316
 z183:=Tryz.sizeOf316
 v183:=Tryz.zeroValue316
 t218:=Tryz.underlying447
 a218:=Tryz.isAgg447
 z218:=Tryz.sizeOf447
 v218:=Tryz.zeroValue447
 t222:=Tryz.underlying451
 a222:=Tryz.isAgg451
 z222:=Tryz.sizeOf451
 v222:=Tryz.zeroValue451
 t228:=Tryz.underlying547
 a228:=Tryz.isAgg547
 z228:=Tryz.sizeOf547
 v228:=Tryz.zeroValue547
 t229:=Tryz.underlying467
 a229:=Tryz.isAgg467
 z229:=Tryz.sizeOf467
 v229:=Tryz.zeroValue467 }
def oX_:Go.Shelf.Ren:=⟨(fun n=>match n with | 125=>116 | 128=>237 | 129=>238 | 190=>174 | 258=>346 | 302=>464 | 303=>465 | 304=>466 | 305=>467 | 306=>468 | 307=>469 | 308=>470 | 309=>471 | 310=>472 | 329=>380 | 330=>381 | 333=>558 | 334=>559 | 335=>560 | 336=>561 | 344=>607 | _=>0),(fun n=>match n with | 0=>0 | 3=>3 | 4=>4 | 5=>5 | 9=>9 | 31=>87 | 46=>151 | 51=>323 | 53=>325 | 131=>320 | 182=>315 | 183=>316 | 218=>447 | 222=>451 | 228=>547 | 229=>467 | _=>0),(fun n=>match n with  | _=>0)⟩
theorem wd_:Lays.n190 Tryz.prog oX_:={
 mixed:=Tryz.mixed
 f125:=by kernel_rfl
 f128:=by kernel_rfl
 f129:=by kernel_rfl
 f190:=by kernel_rfl
 f258:=by kernel_rfl
 f302:=by kernel_rfl
 f303:=by kernel_rfl
 f304:=by kernel_rfl
 f305:=by kernel_rfl
 f306:=by kernel_rfl
 f307:=by kernel_rfl
 f308:=by kernel_rfl
 f309:=by kernel_rfl
 f310:=by kernel_rfl
 f329:=by kernel_rfl
 f330:=by kernel_rfl
 f333:=by kernel_rfl
 f334:=by kernel_rfl
 f335:=by kernel_rfl
 f336:=by kernel_rfl
 f344:=by kernel_rfl
 t0:=Tryz.underlying0
 a0:=Tryz.isAgg0
 z0:=Tryz.sizeOf0
 v0:=Tryz.zeroValue0
 t3:=Tryz.underlying3
 a3:=Tryz.isAgg3
 z3:=Tryz.sizeOf3
 v3:=Tryz.zeroValue3
 t4:=Tryz.underlying4
 a4:=Tryz.isAgg4
 z4:=Tryz.sizeOf4
 v4:=Tryz.zeroValue4
 t5:=Tryz.underlying5
 a5:=Tryz.isAgg5
 z5:=Tryz.sizeOf5
 v5:=Tryz.zeroValue5
 t9:=Tryz.underlying9
 a9:=Tryz.isAgg9
 z9:=Tryz.sizeOf9
 v9:=Tryz.zeroValue9
 t31:=Tryz.underlying87
 a31:=Tryz.isAgg87
 z31:=Tryz.sizeOf87
 v31:=Tryz.zeroValue87
 t46:=Tryz.underlying151
 a46:=Tryz.isAgg151
 z46:=Tryz.sizeOf151
 v46:=Tryz.zeroValue151
 t51:=Tryz.underlying323
 a51:=Tryz.isAgg323
 z51:=Tryz.sizeOf323
 v51:=Tryz.zeroValue323
 t53:=Tryz.underlying325
 a53:=Tryz.isAgg325
 z53:=Tryz.sizeOf325
 v53:=Tryz.zeroValue325
 t131:=Tryz.underlying320
 a131:=Tryz.isAgg320
 z131:=Tryz.sizeOf320
 v131:=Tryz.zeroValue320
 t182:=Tryz.underlying315
 a182:=Tryz.isAgg315
 z182:=Tryz.sizeOf315
 v182:=Tryz.zeroValue315
 t183:=Tryz.underlying316
 a183:=Tryz.isAgg316
 z183:=Tryz.sizeOf316
 v183:=Tryz.zeroValue316
 t218:=Tryz.underlying447
 a218:=Tryz.isAgg447
 z218:=Tryz.sizeOf447
 v218:=Tryz.zeroValue447
 t222:=Tryz.underlying451
 a222:=Tryz.isAgg451
 z222:=Tryz.sizeOf451
 v222:=Tryz.zeroValue451
 t228:=Tryz.underlying547
 a228:=Tryz.isAgg547
 z228:=Tryz.sizeOf547
 v228:=Tryz.zeroValue547
 t229:=Tryz.underlying467
 a229:=Tryz.isAgg467
 z229:=Tryz.sizeOf467
 v229:=Tryz.zeroValue467 }
end Go.Proofs
namespace Go.Proofs.YtkjfpgjpeofndaaGreatDoor
open Go.Ab Go.Shelf
theorem oW_ {o:Nat} {zs:List Int} {σ:Store} (ho:σ.heap o=some (.cells (zs.map vInt))) (hl:zs.length≤1000000000) :
  ACalls Tryz.prog 610 [.msl o 1 0 zs.length] σ fun v σ'=>v=.tup []∧σ'=σ.set o (.cells ((zs.mergeSort fun x y=>decide (x≤y)).map vInt)) :=
 lj_ (Value.int .i64) zs _ (by simp) ho [] [] (fun b cap w hH hb=>by
  have h:Calls Tryz.prog 610 #[.slice (some ⟨b,0,none⟩) zs.length cap] w _:=Any.slices_Sort_int wc_ b 0 cap zs w hH hb (by omega)
  simpa using h) rfl
def df_ (ss:List ByteArray):List ByteArray:=((ss.map Lb).mergeSort fun x y=>decide (x≤y)).map B
theorem oY_ {o : Nat} {ss : List ByteArray} {σ : Store} (ho : σ.heap o = some (.cells (ss.map vStr))) (hl : ss.length ≤ 1000000000) :
    ACalls Tryz.prog 174 [.msl o 1 0 ss.length] σ fun v σ' => v = .tup [] ∧ σ' = σ.set o (.cells ((df_ ss).map vStr)) := by
  have e1 : ∀ z : List (List UInt8), (z.map fun l => AVal.lit (Go.Proofs.encStr l)) = (z.map B).map vStr := fun z => by rw [List.map_map]; rfl
  have e2 : (ss.map Lb).map B = ss := by rw [List.map_map]; conv => rhs; rw [← List.map_id ss]
                                         apply List.map_congr_left; intro x _; exact B_Lb x
  have h := lj_ (P := Tryz.prog) (σ := σ) (f := 174) (o := o) Go.Proofs.encStr (ss.map Lb) ((ss.map Lb).mergeSort fun x y => decide (x ≤ y)) (by simp) (by rw [e1, e2]; exact ho) [] [] (fun b cap w hH hb => by
    have h : Calls Tryz.prog 174 #[.slice (some ⟨b, 0, none⟩) (ss.map Lb).length cap] w _ := Any.slices_Sort_string wd_ b 0 cap (ss.map Lb) w hH hb (by simp; omega)
    simpa using h) rfl
  rw [e1] at h
  simpa only [List.length_map, df_] using h
theorem je_ {f:FuncId} {σ:Store} (h:∀ w,Calls Tryz.prog f #[.slice none 0 0] w fun e w'=>e=.returned (.tuple #[])∧w'=w) :
  ACalls Tryz.prog f [.lit (.slice none 0 0)] σ fun v σ'=>v=.tup []∧σ'=σ:=by
 intro κ vs hI hn hv
 have e0:=(hv 0 (by simp)).litInv
 have hvs:vs=#[.slice none 0 0]:=by
  apply Array.ext (by simpa using hn)
  intro i h1 h2
  simp at h2
  subst h2
  have eg:vs.getD 0 undef=vs[0]:=by simp [h1]
  rw [← eg,e0];rfl
 rw [hvs]
 exact (h κ.w).mono fun ex w' ⟨he,hw⟩=>⟨_,he,by rw [hw];exact oe_ (K.Le.refl κ) hI ⟨rfl,rfl⟩⟩
end Go.Proofs.YtkjfpgjpeofndaaGreatDoor
end

section
set_option linter.all false
set_option maxRecDepth 100000
namespace Go.Proofs
open Go.Shelf
def iA_:Go.Shelf.Ren:=⟨(fun n=>match n with | 20=>611 | _=>0),(fun n=>match n with | 0=>0 | 3=>3 | 4=>4 | 22=>170 | _=>0),(fun n=>match n with  | _=>0)⟩
theorem ks_:Lays2.n20 Tryz.prog iA_:={
 mixed:=Tryz.mixed
 f20:=by kernel_rfl
 t0:=Tryz.underlying0
 a0:=Tryz.isAgg0
 z0:=Tryz.sizeOf0
 v0:=Tryz.zeroValue0
 t3:=Tryz.underlying3
 a3:=Tryz.isAgg3
 z3:=Tryz.sizeOf3
 v3:=Tryz.zeroValue3
 t4:=Tryz.underlying4
 a4:=Tryz.isAgg4
 z4:=Tryz.sizeOf4
 v4:=Tryz.zeroValue4
 t22:=Tryz.underlying170
 a22:=Tryz.isAgg170
 z22:=Tryz.sizeOf170
 v22:=Tryz.zeroValue170
 i3:=by kernel_rfl }
def hN_:Go.Shelf.Ren:=⟨(fun n=>match n with | 194=>566 | _=>0),(fun n=>match n with | 0=>0 | 3=>3 | 4=>4 | 9=>9 | 31=>87 | _=>0),(fun n=>match n with  | _=>0)⟩
theorem iC_:Lays.n194 Tryz.prog hN_:={
 mixed:=Tryz.mixed
 f194:=by kernel_rfl
 t0:=Tryz.underlying0
 a0:=Tryz.isAgg0
 z0:=Tryz.sizeOf0
 v0:=Tryz.zeroValue0
 t3:=Tryz.underlying3
 a3:=Tryz.isAgg3
 z3:=Tryz.sizeOf3
 v3:=Tryz.zeroValue3
 t4:=Tryz.underlying4
 a4:=Tryz.isAgg4
 z4:=Tryz.sizeOf4
 v4:=Tryz.zeroValue4
 t9:=Tryz.underlying9
 a9:=Tryz.isAgg9
 z9:=Tryz.sizeOf9
 v9:=Tryz.zeroValue9
 t31:=Tryz.underlying87
 a31:=Tryz.isAgg87
 z31:=Tryz.sizeOf87
 v31:=Tryz.zeroValue87 }
end Go.Proofs
namespace Go.Ab
open Go.RowKit (Below)
open Go.Shelf Go.Proofs
section
variable {P:Program} {σ:Store}
theorem ACalls.after {f:FuncId} {args:List AVal} {Q1 Q2:AVal→Store→Prop} (h:ACalls P f args σ Q1)
  (hk:∀ (κ:K) a σ' cv,Inv κ σ'→Rv κ a cv→Q1 a σ'→∃ κ' a' σ'',κ'.w=κ.w∧κ.Le κ'∧Inv κ' σ''∧Rv κ' a' cv∧Q2 a' σ''):ACalls P f args σ Q2 :=
 fun κ vs hI hn hv=>(h κ vs hI hn hv).mono fun e w' ⟨cv,he,κ1,a,σ',h1,h2,h3,h4,h5⟩=>by
  obtain ⟨κ2,a',σ'',g1,g2,g3,g4,g5⟩:=hk κ1 a σ' cv h3 h4 h5
  exact ⟨cv,he,κ2,a',σ'',g1.trans h1,h2.trans g2,g3,g4,g5⟩
theorem fX_ {α:Type} [Inhabited α] (enc:α→Value) {f:FuncId} {o k:Nat} (zs ys:List α) (hlen:ys.length=zs.length) (hk:k≤zs.length) (ho:σ.heap o=some (.cells (zs.map fun z=>.lit (enc z))))
  (h:∀ (b cap:Nat) (w:World),Sort.Holds enc w b 0 zs.toArray→zs.length≤cap→Calls P f #[.slice (some ⟨b,0,none⟩) zs.length cap] w fun e w'=>e=.returned (.slice (some ⟨b,0,none⟩) k cap)∧∃ q,w'=Sort.putRow enc (Sort.ahead w q) b 0 ys.toArray) :
  ACalls P f [.msl o 1 0 zs.length] σ fun v σ'=>v=.msl o 1 0 k∧σ'=σ.set o (.cells (ys.map fun z=>.lit (enc z))):=by
 intro κ vs hI hn hv
 have hv0:=hv 0 (by simp)
 simp only [List.getElem_cons_zero] at hv0
 have hvs:∃ u,vs=#[u]∧vs.getD 0 undef=u:=by
  have h1:0 < vs.size:=by rw [hn];simp
  refine ⟨vs[0],?_,by simp [h1]⟩
  apply Array.ext (by simpa using hn)
  intro i h1 h2
  simp at h2;subst h2;rfl
 obtain ⟨u,rfl,hu⟩:=hvs
 rw [hu] at hv0
 cases hv0 with
 |msl _ _ _ _ b cap nn e1 hb hlc hs hnn =>
 obtain ⟨b',hb',hbase,hIb,c,e,hheap,hlen',hR⟩:=hI.heap o _ ho
 rw [hb] at hb'
 obtain rfl:=Option.some.inj hb'
 have hlt:b < κ.w.heap.size:=(Array.getElem?_eq_some_iff.1 hheap).1
 have hH:Sort.Holds enc κ.w b 0 zs.toArray:=kD_ enc zs.toArray hheap (by simpa using hlen') fun j hj=>by
  have hj':j < zs.length:=by simpa using hj
  have h1:=hR j (by simpa using hj')
  simp only [List.getElem_map] at h1
  rw [h1.litInv]
  simp [hj']
 refine (h b cap κ.w hH hlc).mono fun ex w' ⟨he,q,hw⟩=>⟨_,he,?_⟩
 have key:=hI.rowed ho hb q (Sort.putCells enc 0 ys.toArray) #[] (fun c=>eN_ enc 0 _ c) (cs':=ys.map fun z=>.lit (enc z)) (fun c hc _=>⟨by simpa [hlen] using hc,fun i hi=>by
  have hi':i < ys.length:=by simpa using hi
  rw [gx_ enc ys.toArray c i (by simpa using hi') (by simp at hc ⊢;omega)]
  simp [hi']
  exact .lit _⟩)
 have hw2:w'=Ab.rowed κ.w q b (Sort.putCells enc 0 ys.toArray) #[]:=by rw [hw];simp [Ab.rowed,Sort.grow,Sort.putRow]
 rw [hw2]
 exact ⟨{ κ with w:=Ab.rowed κ.w q b (Sort.putCells enc 0 ys.toArray) #[] },.msl o 1 0 k,_,rfl,key.1,key.2,.msl o 1 0 k b cap nn e1 hb (by omega) (key.1.shape _ _ hs) hnn,rfl,rfl⟩
end
end Go.Ab
namespace Go.Proofs.YtkjfpgjpeofndaaGreatDoor
open Go.Ab Go.Shelf
theorem eC_ (ss:List ByteArray):flat (ss.map vStr)=ss.map vStr:=hR_ fun x hx=>by
 obtain ⟨s,_,rfl⟩:=List.mem_map.1 hx
 rfl
theorem eB_ (zs:List Int):flat (zs.map vInt)=zs.map vInt:=hR_ fun x hx=>by
 obtain ⟨s,_,rfl⟩:=List.mem_map.1 hx
 rfl
def ec_ (zs:List Int):List Int:=zs.mergeSort fun x y=>decide (x≤y)
def cD_ (ss:List ByteArray):List ByteArray:=(Lib.compact (ss.map Lb)).map B
theorem qP_ {σ0 σ:Store} {zs:List Int} {a:AVal} (h:CBp σ0 σ 1 (zs.map vInt) a) (hl:zs.length≤1000000000) :
  ACalls Tryz.prog 610 [a] σ fun v σ'=>v=.tup []∧CBp σ0 σ' 1 ((ec_ zs).map vInt) a:=by
 rcases h with ⟨rfl,h0,rfl⟩ | ⟨o,ho,rfl,rfl⟩
 ·obtain rfl:zs=[]:=by simpa using h0
  exact (je_ fun w=>Any.slices_Sort_int_none wc_ none 0 w).wkS fun v σ' ⟨hv,hs⟩=>⟨v,σ',.refl _,.refl _,hv,.inl ⟨rfl,by simp [ec_],hs⟩⟩
 ·rw [eB_,List.length_map]
  exact (oW_ (Store.set_get ..) hl).wkS fun v σ' ⟨hv,hs⟩=>⟨v,σ',.refl _,.refl _,hv,.inr ⟨o,ho,by simp [ec_],by rw [hs,Store.set_set,eB_];rfl⟩⟩
theorem qQ_ {σ0 σ:Store} {ss:List ByteArray} {a:AVal} (h:CBp σ0 σ 1 (ss.map vStr) a) (hl:ss.length≤1000000000) :
  ACalls Tryz.prog 174 [a] σ fun v σ'=>v=.tup []∧CBp σ0 σ' 1 ((df_ ss).map vStr) a:=by
 rcases h with ⟨rfl,h0,rfl⟩ | ⟨o,ho,rfl,rfl⟩
 ·obtain rfl:ss=[]:=by simpa using h0
  exact (je_ fun w=>Any.slices_Sort_string_none wd_ none 0 w).wkS fun v σ' ⟨hv,hs⟩=>⟨v,σ',.refl _,.refl _,hv,.inl ⟨rfl,by simp [df_],hs⟩⟩
 ·rw [eC_,List.length_map]
  exact (oY_ (Store.set_get ..) hl).wkS fun v σ' ⟨hv,hs⟩=>⟨v,σ',.refl _,.refl _,hv,.inr ⟨o,ho,by simp [df_],by rw [hs,Store.set_set,eC_]⟩⟩
theorem k7_ {f:FuncId} {σ:Store} (h:∀ w,Calls Tryz.prog f #[.slice none 0 0] w fun e w'=>e=.returned (.slice none 0 0)∧w'=w) :
  ACalls Tryz.prog f [.lit (.slice none 0 0)] σ fun v σ'=>v=.lit (.slice none 0 0)∧σ'=σ:=by
 intro κ vs hI hn hv
 have e0:=(hv 0 (by simp)).litInv
 have hvs:vs=#[.slice none 0 0]:=by
  apply Array.ext (by simpa using hn)
  intro i h1 h2
  simp at h2
  subst h2
  have eg:vs.getD 0 undef=vs[0]:=by simp [h1]
  rw [← eg,e0];rfl
 rw [hvs]
 exact (h κ.w).mono fun ex w' ⟨he,hw⟩=>⟨_,he,by rw [hw];exact ⟨κ,_,σ,rfl,.refl κ,hI,.lit _,rfl,rfl⟩⟩
theorem jw_ {σ0 σ:Store} {zs:List Int} {a:AVal} (h:CBp σ0 σ 1 (zs.map vInt) a) (hl:zs.length≤1000000000) (hc:(Lib.compact zs).length≤zs.length) :
  ACalls Tryz.prog 611 [a] σ fun v σ'=>v=.sl 1 ((Lib.compact zs).map vInt) false∧σ0=σ':=by
 rcases h with ⟨rfl,h0,rfl⟩ | ⟨o,ho,rfl,rfl⟩
 ·obtain rfl:zs=[]:=by simpa using h0
  exact (k7_ fun w=>Any.slices_Compact_int_empty ks_ none 0 w).wkS fun v σ' ⟨hv,hs⟩=>⟨_,σ',by rw [hv];exact .nil 1 false,.refl _,rfl,hs.symm⟩
 ·rw [eB_,List.length_map]
  refine (fX_ (σ:=σ0.set o (.cells (zs.map vInt))) (Value.int .i64) zs (Lib.compact zs ++ List.replicate (zs.length - (Lib.compact zs).length) 0) (k:=(Lib.compact zs).length) (by simp;omega) hc (Store.set_get ..) fun b cap w hH hcap=>Any.slices_Compact_int ks_ b 0 cap zs w hH (by omega) hcap).after ?_
  rintro κ _ _ cv hI hr ⟨rfl,rfl⟩
  obtain ⟨κ',h1,h2,h3,h4⟩:=Ab.freeze hI hr (Store.set_get ..) (l:=(Lib.compact zs).map vInt) (by rw [eB_,List.map_append,Nat.mul_one,List.take_left' (by simp)]) (by simp) fun x hx=>by
   obtain ⟨s,_,rfl⟩:=List.mem_map.1 hx
   rfl
  rw [Store.set_set,Store.set_del ho] at h3
  exact ⟨κ',_,_,h1,h2,h3,h4,rfl,rfl⟩
theorem jx_ {σ0 σ:Store} {ss:List ByteArray} {a:AVal} (h:CBp σ0 σ 1 (ss.map vStr) a) (hl:ss.length≤1000000000) (hc:(Lib.compact (ss.map Lb)).length≤ss.length) :
  ACalls Tryz.prog 566 [a] σ fun v σ'=>v=.sl 1 ((cD_ ss).map vStr) false∧σ0=σ':=by
 rcases h with ⟨rfl,h0,rfl⟩ | ⟨o,ho,rfl,rfl⟩
 ·obtain rfl:ss=[]:=by simpa using h0
  exact (k7_ fun w=>Any.slices_Compact_string_empty iC_ none 0 w).wkS fun v σ' ⟨hv,hs⟩=>⟨_,σ',by rw [hv];exact .nil 1 false,.refl _,rfl,hs.symm⟩
 ·rw [eC_,List.length_map]
  have e1:∀ z:List (List UInt8),(z.map fun l=>AVal.lit (Go.Proofs.encStr l))=(z.map B).map vStr:=fun z=>by rw [List.map_map];rfl
  have e2:(ss.map Lb).map B=ss:=by
   rw [List.map_map];conv=>rhs;rw [← List.map_id ss]
   apply List.map_congr_left;intro x _;exact B_Lb x
  have key:=fX_ (P:=Tryz.prog) (f:=566) (o:=o) (σ:=σ0.set o (.cells (ss.map vStr))) Go.Proofs.encStr (ss.map Lb) (Lib.compact (ss.map Lb) ++ List.replicate ((ss.map Lb).length - (Lib.compact (ss.map Lb)).length) []) (k:=(Lib.compact (ss.map Lb)).length) (by simp;omega) (by simpa using hc) (by rw [e1,e2];exact Store.set_get ..) fun b cap w hH hcap=>Any.slices_Compact_string iC_ b 0 cap (ss.map Lb) w hH (by simp;omega) hcap
  rw [List.length_map] at key
  refine key.after ?_
  rintro κ _ _ cv hI hr ⟨rfl,rfl⟩
  obtain ⟨κ',h1,h2,h3,h4⟩:=Ab.freeze hI hr (Store.set_get ..) (l:=(cD_ ss).map vStr) (by rw [eC_,e1,List.map_append,List.map_append,Nat.mul_one,List.take_left' (by simp)];rfl) (by simp [cD_]) fun x hx=>by
   obtain ⟨s,_,rfl⟩:=List.mem_map.1 hx
   rfl
  rw [Store.set_set,Store.set_del ho] at h3
  exact ⟨κ',_,_,h1,h2,h3,h4,rfl,rfl⟩
end Go.Proofs.YtkjfpgjpeofndaaGreatDoor
end

section
set_option linter.all false
set_option maxRecDepth 100000
namespace Go.Proofs.YtkjfpgjpeofndaaGreatDoor
open Go.Ab
theorem ms_ (n:Int) (h0:0≤n) (h1:n≤18446744073709551615):IntKind.u64.wrap n=n:=by
 unfold IntKind.wrap
 simp only [IntKind.bits,IntKind.signed,Bool.false_and]
 have e1:(2:Int) ^ 64=18446744073709551616:=by decide
 simp only [e1]
 exact Int.emod_eq_of_lt h0 (by omega)
theorem h6_ (a b:ByteArray):sLt a b=decide (Lb a < Lb b):=by rw [sLt,bytesLess_eq,Lib.toList_data,Lib.toList_data];rfl
theorem hq_ (a:ByteArray):sLt a a=false:=by rw [h6_];simp [List.lt_irrefl]
theorem dM_ {a b c:ByteArray} (h:sLt a b=true) (k:sLt b c=true):sLt a c=true:=by
 rw [h6_,decide_eq_true_eq] at *
 exact List.lt_trans h k
theorem rI_ {a b:ByteArray} (h:sLt a b=true):a≠b:=fun hh=>by rw [hh,hq_] at h;cases h
theorem tD_ {a b:ByteArray} (h:sLt a b=false) (hn:a≠b):sLt b a=true:=by
 rw [h6_,decide_eq_false_iff_not] at h
 rw [h6_,decide_eq_true_eq]
 by_cases k:Lb b < Lb a
 ·exact k
 ·exact absurd (fQ_ (List.le_antisymm (List.not_lt.1 k) (List.not_lt.1 h))) hn
def lA_ (c:List Seen):Prop:=∀ (j k:Nat) (x y:Seen),j < k→c[j]?=some x→c[k]?=some y→sLt x.node y.node=true
theorem g7_:∀ (l:List Seen) (pv:Option ByteArray) (room:Int),fB_ pv room l=true→(∀ p,pv=some p→∀ x∈l,sLt p x.node=true)∧lA_ l
 |[],_,_,_=>⟨(fun _ _ x hx=>by cases hx),fun j k x y _ h=>by simp at h⟩
 |x :: l,pv,room,h=>by
  simp only [fB_,Bool.and_eq_true,decide_eq_true_eq] at h
  obtain ⟨⟨⟨h1,h2⟩,h3⟩,h4⟩:=h
  obtain ⟨g1,g2⟩:=g7_ l _ _ h4
  have g3:=g1 _ rfl
  refine ⟨fun p hp y hy=>?_,fun j k y z hjk hj hk=>?_⟩
  ·subst hp
   have h5:sLt p x.node=true:=h2
   rcases List.mem_cons.1 hy with rfl | hy
   ·exact h5
   ·exact dM_ h5 (g3 y hy)
  ·cases k with
   |zero=>omega
   |succ k =>
    cases j with
    |zero =>
     simp only [List.getElem?_cons_zero,Option.some.injEq] at hj
     subst hj
     exact g3 z (List.mem_of_getElem? hk)
    |succ j=>exact g2 j k y z (by omega) hj hk
theorem g8_ {c:List Seen} (h:ew_ c=true):lA_ c:=(g7_ c _ _ h).2
def ja_ (s:ByteArray):Seen:=⟨s,0,[]⟩
def ofS (c:List Seen) (s:ByteArray):Seen:=match c.find? (fun x=>decide (x.node=s)) with | some x=>x | none=>ja_ s
theorem ni_ {α:Type} {f:α→Bool}:∀ {l:List α} {r:Nat} {x:α},l[r]?=some x→f x=true→(∀ m y,m < r→l[m]?=some y→f y=false)→l.find? f=some x
 |[],r,x,h,_,_=>by simp at h
 |a :: l,0,x,h,hx,_=>by
  simp only [List.getElem?_cons_zero,Option.some.injEq] at h
  subst h
  rw [List.find?_cons_of_pos hx]
 |a :: l,r + 1,x,h,hx,hm=>by
  rw [List.find?_cons_of_neg (by rw [hm 0 a (by omega) rfl];simp)]
  exact ni_ (r:=r) h hx fun m y hmr hy=>hm (m + 1) y (by omega) hy
theorem kq_ {a b:ByteArray}:(cmpS a b < 0) ↔ sLt a b=true:=by
 unfold cmpS
 cases h:sLt a b with
 |true=>simp
 |false=>by_cases h2:a=b <;> simp [h2]
theorem m1_ {a b:ByteArray}:(cmpS a b=0) ↔ a=b:=by
 unfold cmpS
 cases h:sLt a b with
 |true=>simp;intro hh;rw [hh,hq_] at h;cases h
 |false=>by_cases h2:a=b <;> simp [h2]
theorem kR_ {x:Seen} {s:ByteArray} {σ:Store}:ACalls Tryz.prog 645 [aM_ x,vStr s] σ fun v σ'=>v=vInt (cmpS x.node s)∧σ=σ':=by
 refine en_ Tryz.func645 Tryz.ntmps645 Tryz.results645 ?_
 refine rr_ ?_
 refine bx_ fun o2 ho2=>?_
 repeat (rw [ad_] at ho2;obtain ⟨_,ho2⟩:=ho2)
 refine s_ ?_
 refine aa_ ?_
 refine rr_ ?_
 iterate 3 refine s_ ?_
 refine x_ g_ va_ (fx_) ?_;rintro _ _ ⟨rfl,rfl⟩
 refine s_ ?_
 refine aa_ ?_
 refine ac_ ?_
 refine er_ σ ?_
 exact ⟨rfl,rfl⟩
@[go_sem] theorem rb_ (k':IntKind) (a b:Int) (h0:0≤b) (h1:b≤64):aint .shr .u64 a k' b=some (.int .u64 (a / 2 ^ b.toNat)):=fb_ .u64 k' a b h0 h1
def Lo (c:List Seen) (s:ByteArray) (i:Nat):Prop:=∀ m x,m < i→c[m]?=some x→sLt x.node s=true
def Hi (c:List Seen) (s:ByteArray) (j:Nat):Prop:=∀ m x,j≤m→c[m]?=some x→sLt x.node s=false
theorem mT_ {c:List Seen} {s:ByteArray} {t:Bool} {σ:Store} (hr:lA_ c) (hn:c.length≤1000000) :
  ACalls Tryz.prog 644 [.sl 3 (c.map aM_) t,vStr s,.lit (.func (.func 645) #[] #[])] σ fun v σ'=>(∃ r:Nat,∃ b:Bool,v=.tup [vInt r,vB b]∧r≤c.length∧Lo c s r∧Hi c s r∧(b=true ↔ ∃ x,c[r]?=some x∧x.node=s))∧σ=σ':=by
 refine en_ Tryz.func644 Tryz.ntmps644 Tryz.results644 ?_
 refine rr_ ?_
 iterate 2 refine s_ ?_
 refine aa_ ?_
 refine rr_ ?_
 iterate 3 refine s_ ?_
 refine aa_ ?_
 refine rr_ ?_
 iterate 3 refine s_ ?_
 refine aa_ ?_
 refine ab_ ?_
 refine ah_ ?_
 refine ak_ (ι:=Nat × Nat) (fun ⟨i,j⟩=>j - i) (fun ⟨i,j⟩=>i≤j∧j≤c.length∧Lo c s i∧Hi c s j) (fun ⟨i,j⟩=>[(0,.sl 3 (c.map aM_) t),(1,vStr s),(2,.lit (.func (.func 645) #[] #[])),(8,vInt c.length),(9,vInt i),(10,vInt j)]) (fun ⟨i,j⟩=>σ) (0,c.length) ?_ ?_ ?_ ?_
 ·exact ⟨Nat.zero_le _,Nat.le_refl _,(fun m x h=>by omega),fun m x h hx=>by rw [List.getElem?_eq_none (by omega)] at hx;cases hx⟩
 ·exact cv_
 ·exact sub_
 rintro ⟨i,j⟩ ⟨hij,hj,hlo,hhi⟩
 simp only [ar_,av_]
 refine ab_ ?_
 refine rr_ ?_
 iterate 3 refine s_ ?_
 refine aa_ ?_
 refine cd_ (fun hc3=>?_) (fun hc3=>?_)
 ·refine ae_ ?_
  refine ah_ ?_
  refine ab_ ?_
  have hdiv:((i:Int) + j) / 2 ^ 1=(((i + j) / 2:Nat):Int):=by omega
  obtain ⟨x,hx⟩:=a0_ (l:=c) (k:=(i + j) / 2) (by omega)
  have R:=And.intro ms_ hdiv
  refine r_ ?_
  iterate 7 refine s_ ?_
  refine aa_ ?_
  refine ab_ ?_
  have R:=hx
  refine r_ ?_
  iterate 6 refine s_ ?_
  refine aL_X rfl rfl (bu_ rfl rfl (.inr ⟨va_,rfl,rfl⟩) g_ va_ (kR_) ?_);rintro _ _ ⟨rfl,rfl⟩
  refine s_ ?_
  refine aa_ ?_
  refine cd_ (fun hc5=>?_) (fun hc5=>?_)
  ·have hlt:=kq_.1 hc5
   have hlo':Lo c s ((i + j) / 2 + 1):=fun m y hm hy=>by
    rcases Nat.lt_or_eq_of_le (Nat.le_of_lt_succ hm) with h | h
    ·exact dM_ (hr _ _ _ _ h hy hx) hlt
    ·rw [h,hx] at hy;obtain rfl:=Option.some.inj hy;exact hlt
   refine r_ ?_
   iterate 3 refine s_ ?_
   refine aa_ ?_
   refine bb_ (ι:=Nat × Nat) (i:=⟨i,j⟩) ((i + j) / 2 + 1,j) ?_ ?_ ?_ ?_
   ·show j - ((i + j) / 2 + 1) < j - i;omega
   ·exact ⟨by show (i + j) / 2 + 1≤j;omega,hj,hlo',hhi⟩
   ·have R:=hdiv;exact cv_
   ·exact sub_
  ·skip
   have hge:sLt x.node s=false:=by
    cases h:sLt x.node s with
    |false=>rfl
    |true=>have:=kq_.2 h;omega
   have hhi':Hi c s ((i + j) / 2):=fun m y hm hy=>by
    rcases Nat.lt_or_eq_of_le hm with h | h
    ·cases k:sLt y.node s with
     |false=>rfl
     |true=>rw [dM_ (hr _ _ _ _ h hx hy) k] at hge;cases hge
    ·rw [← h,hx] at hy;obtain rfl:=Option.some.inj hy;exact hge
   refine r_ ?_
   iterate 2 refine s_ ?_
   refine aa_ ?_
   refine bb_ (ι:=Nat × Nat) (i:=⟨i,j⟩) (i,(i + j) / 2) ?_ ?_ ?_ ?_
   ·show (i + j) / 2 - i < j - i;omega
   ·exact ⟨by show i≤(i + j) / 2;omega,by show (i + j) / 2≤c.length;omega,hlo,hhi'⟩
   ·have R:=hdiv;exact cv_
   ·exact sub_
 ·refine ay_ ?_
  refine af_ ?_
  refine af_ ?_
  refine aq_ ?_
  refine ab_ ?_
  skip
  obtain rfl:i=j:=by omega
  obtain ⟨x,hx⟩:∃ x:Seen,i < c.length→c[i]?=some x:=by
   by_cases h:i < c.length
   ·exact ⟨c[i],fun _=>List.getElem?_eq_getElem h⟩
   ·exact ⟨ja_ s,fun h'=>absurd h' h⟩
  have R:=hx
  refine r_ ?_
  iterate 5 refine s_ ?_
  refine gt_ ?_
  refine gt_ ?_
  refine gt_ ?_
  refine gt_ ?_
  refine gt_ ?_
  refine gt_ ?_
  refine bQ_ rfl rfl v_ rfl (fun hb=>aw_ (by rfl) (by rfl) (.inr ⟨vh_,by rfl,by rfl⟩) g_ cg_ (kR_)) ?_
  refine gt_ ?_
  iterate 3 refine s_ ?_
  refine aa_ ?_
  refine ac_ ?_
  refine er_ σ ?_
  refine ⟨⟨i,_,rfl,hj,hlo,hhi,?_⟩,rfl⟩
  rw [Bool.and_eq_true,decide_eq_true_eq,decide_eq_true_eq,m1_]
  constructor
  ·rintro ⟨h1,h2⟩;exact ⟨x,hx (by omega),h2⟩
  ·rintro ⟨y,hy,h2⟩
   have h1:=(List.getElem?_eq_some_iff.1 hy).1
   rw [hx h1] at hy
   obtain rfl:=Option.some.inj hy
   exact ⟨by omega,h2⟩
theorem td_ {c:List Seen} {s:ByteArray} {t:Bool} {σ:Store} (hr:lA_ c) (hn:c.length≤1000000) :
  ACalls Tryz.prog 612 [.sl 3 (c.map aM_) t,vStr s] σ fun v σ'=>(∃ r:Nat,∃ b:Bool,v=.tup [vInt r,vB b]∧r≤c.length∧Lo c s r∧Hi c s r∧(b=true ↔ ∃ x,c[r]?=some x∧x.node=s))∧σ=σ':=by
 refine en_ Tryz.func612 Tryz.ntmps612 Tryz.results612 ?_
 refine rr_ ?_
 iterate 2 refine s_ ?_
 refine aa_ ?_
 refine rr_ ?_
 iterate 2 refine s_ ?_
 refine x_ g_ va_ (mT_ hr hn) ?_;rintro _ _ ⟨⟨r,b,rfl,h1,h2,h3,h4⟩,rfl⟩
 iterate 4 refine s_ ?_
 refine aa_ ?_
 refine ac_ ?_
 refine er_ σ ?_
 exact ⟨⟨r,b,rfl,h1,h2,h3,h4⟩,rfl⟩
theorem s6_ {c:List Seen} {s:ByteArray} {r:Nat} {x:Seen} (hlo:Lo c s r) (hx:c[r]?=some x) (he:x.node=s):ofS c s=x:=by
 unfold ofS
 rw [ni_ (r:=r) hx (by simp [he]) fun m y hm hy=>decide_eq_false (rI_ (hlo m y hm hy))]
theorem vf_ {c:List Seen} {s:ByteArray} {r:Nat} (hr:lA_ c) (hlo:Lo c s r) (hhi:Hi c s r) (hn:¬ ∃ x,c[r]?=some x∧x.node=s):ofS c s=ja_ s:=by
 unfold ofS
 rw [List.find?_eq_none.2 fun y hy=>?_]
 obtain ⟨m,hm⟩:=List.mem_iff_getElem?.1 hy
 simp only [decide_eq_true_eq]
 intro he
 rcases Nat.lt_or_ge m r with h | h
 ·exact rI_ (hlo m y h hm) he
 ·rcases Nat.lt_or_eq_of_le h with h | h
  ·obtain ⟨z,hz⟩:=a0_ (l:=c) (k:=r) (by have:=(List.getElem?_eq_some_iff.1 hm).1;omega)
   have h1:=hr _ _ _ _ h hz hm
   rw [he,hhi r z (Nat.le_refl _) hz] at h1
   cases h1
  ·exact hn ⟨y,by rw [h];exact hm,he⟩
theorem of_c {c:List Seen} {s:ByteArray} {t:Bool} {σ:Store} (hr:lA_ c) (hn:c.length≤1000000) :
  ACalls Tryz.prog 568 [.sl 3 (c.map aM_) t,vStr s] σ fun v σ'=>v=aM_ (ofS c s)∧σ=σ':=by
 refine en_ Tryz.func568 Tryz.ntmps568 Tryz.results568 ?_
 refine rr_ ?_
 refine lc_ fun o4 ho4=>?_
 repeat (rw [ad_] at ho4;obtain ⟨_,ho4⟩:=ho4)
 refine aa_ ?_
 refine rr_ ?_
 iterate 2 refine s_ ?_
 refine x_ g_ va_ (td_ hr hn) ?_;rintro _ _ ⟨⟨r,b,rfl,h1,h2,h3,h4⟩,rfl⟩
 iterate 5 refine s_ ?_
 refine aa_ ?_
 refine ab_ ?_
 refine rr_ ?_
 iterate 2 refine s_ ?_
 refine aa_ ?_
 refine cd_ (fun hc2=>?_) (fun hc2=>?_)
 ·refine rr_ ?_
  iterate 2 refine s_ ?_
  refine st_ ?_
  refine aa_ ?_
  refine ac_ ?_
  have hb:b=false:=hc2
  have hno:=vf_ hr h2 h3 (fun hh=>by rw [h4.2 hh] at hb;cases hb)
  rw [hno]
  exact a2_ (v:=aM_ (ja_ s)) (v':=.agg [vStr s,vInt 0,vNil]) va_ (.agg _ _ rfl (fun i hi hi'=>by match i,hi with | 0,_=>exact .refl _ | 1,_=>exact .refl _ | 2,_=>exact .nil _ _)) sub_ ⟨rfl,rfl⟩
 ·refine ae_ ?_
  refine ab_ ?_
  obtain ⟨x,hx,he⟩:=h4.1 hc2
  have h5:=(List.getElem?_eq_some_iff.1 hx).1
  have R:=hx
  refine r_ ?_
  iterate 4 refine s_ ?_
  refine st_ ?_
  refine aa_ ?_
  refine ac_ ?_
  refine er_ σ ?_
  exact ⟨by rw [s6_ h2 hx he],rfl⟩
theorem set_swap {σ:Store} {i j:Nat} {x y:AObj} (h:i≠j):(σ.set i x).set j y=(σ.set j y).set i x:=by
 unfold Store.set
 congr 1
 funext k
 by_cases h1:k=j
 ·subst h1;simp [Ne.symm h]
 ·by_cases h2:k=i
  ·subst h2;simp [h]
  ·simp [h1,h2]
theorem sc_ {σ0 σ:Store} {sz:Nat} {l:List AVal} {a:AVal} (h:CBp σ0 σ sz l a) {i:Nat} {x:AObj} (hi:σ.heap i=none):CBp (σ0.set i x) (σ.set i x) sz l a:=by
 rcases h with ⟨h1,h2,rfl⟩ | ⟨o,ho,h1,rfl⟩
 ·exact .inl ⟨h1,h2,rfl⟩
 ·have hne:i≠o:=fun hh=>by rw [hh,Store.set_get] at hi;cases hi
  exact .inr ⟨o,by rw [Store.set_ne _ _ (Ne.symm hne)];exact ho,h1,set_swap (Ne.symm hne)⟩
theorem ko_ {σ0 σ:Store} {sz:Nat} {l:List AVal} {a:AVal} (h:CBp σ0 σ sz l a) {i:Nat} {x y:AObj} (hi:σ.heap i=none):CBp (σ0.set i y) ((σ.set i x).set i y) sz l a:=by
 rw [Store.set_set];exact sc_ h hi
def fz_ (st:Int × List Int) (n:Int):Int × List Int:=if n=st.1 + 1 then (n,st.2) else if st.1 < n then (st.1,st.2 ++ [n]) else st
def gS_ (l:List Int):List Int:=Lib.compact (ec_ l)
def mR_ (a b:Seen):Int × List Int:=(gS_ (a.more ++ b.more)).foldl fz_ (max a.base b.base,[])
def fg_ (a b:Seen):Seen:=⟨a.node,(mR_ a b).1,(mR_ a b).2⟩
structure SeenBd (x:Seen):Prop where
 lo:0≤x.base
 hi:x.base≤9007199254740992
 more:∀ n∈x.more,n≤9007199254740992
 len:x.more.length≤1000000
theorem dU_ {α:Type} [DecidableEq α] [Inhabited α] (zs:List α):(Lib.compact zs).length≤zs.length:=by
 unfold Lib.compact Lib.compactUpTo
 rw [List.length_map]
 exact Nat.le_trans (List.length_filter_le _ _) (by simp)
theorem fY_ {α:Type} [DecidableEq α] [Inhabited α] {zs:List α} {x:α} (h:x∈Lib.compact zs):x∈zs:=by
 unfold Lib.compact Lib.compactUpTo at h
 obtain ⟨j,hj,rfl⟩:=List.mem_map.1 h
 have:=(List.mem_filter.1 hj).1
 rw [List.mem_range] at this
 simp [this]
theorem i1_ (l:List Int):(gS_ l).length≤l.length:=by
 unfold gS_ ec_
 exact Nat.le_trans (dU_ _) (by simp)
theorem n7_ {l:List Int} {x:Int} (h:x∈gS_ l):x∈l:=by
 have:=fY_ h
 unfold ec_ at this
 exact List.mem_mergeSort.1 this
theorem uD_ {a b:Seen} {σ:Store} (ha:SeenBd a) (hb:SeenBd b):ACalls Tryz.prog 567 [aM_ a,aM_ b] σ fun v σ'=>v=aM_ (fg_ a b)∧σ=σ':=by
 have h1:=ha.len;have h2:=hb.len;have h3:=ha.lo;have h4:=hb.lo;have h5:=ha.hi;have h6:=hb.hi
 have hol:=i1_ (a.more ++ b.more)
 rw [List.length_append] at hol
 have hom:∀ n∈gS_ (a.more ++ b.more),n≤9007199254740992:=fun n hn=>by
  rcases List.mem_append.1 (n7_ hn) with h | h
  ·exact ha.more n h
  ·exact hb.more n h
 refine en_ Tryz.func567 Tryz.ntmps567 Tryz.results567 ?_
 refine rr_ ?_
 refine bx_ fun o2 ho2=>?_
 repeat (rw [ad_] at ho2;obtain ⟨_,ho2⟩:=ho2)
 refine bx_ fun o3 ho3=>?_
 repeat (rw [ad_] at ho3;obtain ⟨_,ho3⟩:=ho3)
 refine lc_ fun o4 ho4=>?_
 repeat (rw [ad_] at ho4;obtain ⟨_,ho4⟩:=ho4)
 refine aa_ ?_
 refine rr_ ?_
 iterate 4 refine s_ ?_
 refine aJ_ rfl rfl rfl g_ g_ rfl rfl h_ c2_ (by decide) ?_
 refine x_ g_ va_ (f0_ (L1:=a.more) (L2:=b.more) (by omega) (by omega)) ?_;rintro _ τ0 hC0
 rename_i b0
 have hs0:=hC0.sub
 have e2:=hs0.heap o2 _ h_
 have e3:=hs0.heap o3 _ h_
 have e4:=hs0.heap o4 _ h_
 have st0:SubX [] σ τ0:=SubX.trans (ai_ ho4 (ai_ ho3 (ai_ ho2 a5_))) ⟨fun i x _=>hs0.heap i x,hs0.tok⟩
 refine s_ ?_
 refine aa_ ?_
 refine rr_ ?_
 refine s_ ?_
 refine x_ g_ va_ (qP_ hC0 (by simp;omega)) ?_;rintro _ τ1 ⟨rfl,hC1⟩
 have hs1:=hC1.sub
 have f2:=hs1.heap o2 _ h_
 have f3:=hs1.heap o3 _ h_
 have f4:=hs1.heap o4 _ h_
 refine aa_ ?_
 refine ab_ ?_
 have R:=And.intro f2 f3
 refine r_ ?_
 iterate 8 refine s_ ?_
 refine lc_ fun o6 ho6=>?_
 repeat (rw [ad_] at ho6;obtain ⟨_,ho6⟩:=ho6)
 refine st_ ?_
 refine aa_ ?_
 have st1:SubX [] σ τ1:=SubX.trans (ai_ ho4 (ai_ ho3 (ai_ ho2 a5_))) ⟨fun i x _=>hs1.heap i x,hs1.tok⟩
 have n6:σ.heap o6=none:=SubX.noObj st1 ho6 (by simp)
 have n64:=(an_ f4 ho6)
 have hC2:=ko_ (y:=.cells [.lit (.string a.node),vInt (max a.base b.base),vNil]) (x:=.cells [.lit (.string ⟨#[]⟩),vInt 0,vNil]) hC1 ho6
 obtain ⟨L,hL⟩:∃ L,gS_ (a.more ++ b.more)=L:=⟨_,rfl⟩
 rw [hL] at hol hom
 refine ab_ ?_
 refine rr_ ?_
 refine s_ ?_
 refine x_ g_ va_ (jw_ hC2 (by simp [ec_];omega) (dU_ _)) ?_;rintro _ _ ⟨rfl,rfl⟩
 rw [show Lib.compact (ec_ (a.more ++ b.more))=L from hL]
 iterate 2 refine s_ ?_
 refine aa_ ?_
 refine ah_ ?_
 refine ak_ (ι:=Store × Nat × AVal × Option Nat × (Int × List Int)) (fun ⟨τ,k,g,old,st⟩=>L.length - k) (fun ⟨τ,k,g,old,st⟩=>k≤L.length∧(L.take k).foldl fz_ (max a.base b.base,[])=st∧τ.heap o6=some (.cells [.lit (.string a.node),vInt st.1,g])∧τ.heap o4=some (.cells [.lit (.string ⟨#[]⟩),.lit (.int .i64 0),.lit (.slice none 0 0)])∧b8_ τ 3 1 (st.2.map vInt) g old∧SubX [] σ τ∧(∀ j,old=some j→σ.tok j=none)∧(0≤st.1∧st.1≤9007199254740992)∧st.2.length≤k) (fun ⟨τ,k,g,old,st⟩=>[(4,.ref o4 0),(6,.ref o6 0),(26,.sl 1 (L.map vInt) false),(27,vInt L.length),(28,vInt k)]) (fun ⟨τ,k,g,old,st⟩=>τ) ((((σ.set o2 (.cells (aM_ a).cells)).set o3 (.cells (aM_ b).cells)).set o4 (.cells [.lit (.string ⟨#[]⟩),.lit (.int .i64 0),.lit (.slice none 0 0)])).set o6 (.cells [.lit (.string a.node),vInt (max a.base b.base),vNil]),0,vNil,none,(max a.base b.base,[])) ?_ ?_ ?_ ?_
 ·exact ⟨Nat.zero_le _,rfl,Store.set_get ..,h_,.inr ⟨rfl,rfl,rfl⟩,ai_ n6 (ai_ ho4 (ai_ ho3 (ai_ ho2 a5_))),(fun j hj=>by cases hj),⟨by show 0≤max a.base b.base;omega,by show max a.base b.base≤_;omega⟩,Nat.le_refl _⟩
 ·exact cv_
 ·exact Store.Wk.refl _
 rintro ⟨τ,k,g,old,st⟩ ⟨hk,hst,u6,u4,hno,hsx,hold,hb,hlen⟩
 simp only [ar_,av_]
 refine rr_ ?_
 refine s_ ?_
 refine aa_ ?_
 refine ab_ ?_
 refine cd_ (fun hc5=>?_) (fun hc5=>?_)
 ·refine ae_ ?_
  refine ab_ ?_
  refine ah_ ?_
  refine ab_ ?_
  obtain ⟨n,hn⟩:=a0_ (l:=L) (k:=k) (by omega)
  have hnb:=hom n (List.mem_of_getElem? hn)
  have hfold:(L.take (k + 1)).foldl fz_ (max a.base b.base,[])=fz_ st n:=by rw [bE_ hn,List.foldl_append,hst];rfl
  have R:=hn
  refine r_ ?_
  iterate 3 refine s_ ?_
  refine aa_ ?_
  refine ab_ ?_
  have R:=u6
  refine r_ ?_
  iterate 5 refine s_ ?_
  refine aa_ ?_
  refine cd_ (fun hc7=>?_) (fun hc7=>?_)
  ·refine r_ ?_
   iterate 2 refine s_ ?_
   refine st_ ?_
   refine aa_ ?_
   refine r_ ?_
   iterate 2 refine s_ ?_
   refine aa_ ?_
   refine bb_ (ι:=Store × Nat × AVal × Option Nat × (Int × List Int)) (i:=⟨τ,k,g,old,st⟩) (τ.set o6 (.cells [.lit (.string a.node),vInt n,g]),k + 1,g,old,(n,st.2)) ?_ ?_ ?_ ?_
   ·show L.length - (k + 1) < L.length - k;omega
   ·exact ⟨by show k + 1≤L.length;omega,by rw [hfold,fz_,if_pos hc7],Store.set_get ..,by rw [Store.set_ne _ _ n64];exact u4,hno,ai_ n6 hsx,hold,⟨by show 0≤n;omega,by show n≤_;omega⟩,by show st.2.length≤k + 1;omega⟩
   ·exact cv_
   ·exact Store.Wk.refl _
  ·refine ab_ ?_
   have R:=u6
   refine r_ ?_
   iterate 4 refine s_ ?_
   refine aa_ ?_
   refine cd_ (fun hc9=>?_) (fun hc9=>?_)
   ·have R:=u6
    refine r_ ?_
    iterate 3 refine s_ ?_
    refine aJ_ rfl rfl rfl g_ g_ rfl rfl h_ c2_ (by decide) ?_
    refine aL_X rfl rfl (AOp_appendS rfl g_ g_ (b8_.of hno va_) (.inl ⟨⟨_,g_⟩,.inl v_,c_⟩) (by simp;omega) fun k47 hk47=>?_)
    refine s_ ?_
    refine st_ ?_
    refine aa_ ?_
    refine r_ ?_
    iterate 2 refine s_ ?_
    refine aa_ ?_
    refine bb_ (ι:=Store × Nat × AVal × Option Nat × (Int × List Int)) (i:=⟨τ,k,g,old,st⟩) ((τ.newTok old k47 (3,1)).set o6 (.cells [.lit (.string a.node),vInt st.1,.own k47 1 (st.2.map vInt ++ [vInt n])]),k + 1,.own k47 1 (st.2.map vInt ++ [vInt n]),some k47,(st.1,st.2 ++ [n])) ?_ ?_ ?_ ?_
    ·show L.length - (k + 1) < L.length - k;omega
    ·exact ⟨by show k + 1≤L.length;omega,by rw [hfold,fz_,if_neg hc7,if_pos hc9],Store.set_get ..,by rw [Store.set_ne _ _ n64];exact u4,.inl ⟨k47,by rw [List.map_append];rfl,by rw [Store.set_tok];exact Store.newTok_get ..,rfl⟩,ai_ n6 (SubX.newTok hsx hold hk47),(fun j hj=>by cases hj;exact SubX.noTok hsx hk47),hb,by show (st.2 ++ [n]).length≤k + 1;rw [List.length_append];simp;omega⟩
    ·exact cv_
    ·exact Store.Wk.refl _
   ·refine ae_ ?_
    refine r_ ?_
    iterate 2 refine s_ ?_
    refine aa_ ?_
    refine bb_ (ι:=Store × Nat × AVal × Option Nat × (Int × List Int)) (i:=⟨τ,k,g,old,st⟩) (τ,k + 1,g,old,st) ?_ ?_ ?_ ?_
    ·show L.length - (k + 1) < L.length - k;omega
    ·exact ⟨by show k + 1≤L.length;omega,by rw [hfold,fz_,if_neg hc7,if_neg (by omega)],u6,u4,hno,hsx,hold,hb,by show st.2.length≤k + 1;omega⟩
    ·exact cv_
    ·exact Store.Wk.refl _
 ·refine ay_ ?_
  refine af_ ?_
  refine af_ ?_
  refine aq_ ?_
  refine ab_ ?_
  skip
  have hfin:fg_ a b=⟨a.node,st.1,st.2⟩:=by
   have:mR_ a b=st:=by rw [← hst,List.take_of_length_le (by omega),← hL];rfl
   rw [fg_,this]
  refine ee_ o6 [.lit (.string a.node),vInt st.1,.sl 1 (st.2.map vInt) false] u6 ⟨.refl _,.refl _,hno.wk,trivial⟩ ?_
  have u4':(τ.set o6 (.cells [.lit (.string a.node),vInt st.1,.sl 1 (st.2.map vInt) false])).heap o4=some (.cells [.lit (.string ⟨#[]⟩),.lit (.int .i64 0),.lit (.slice none 0 0)]):=by rw [Store.set_ne _ _ n64];exact u4
  have R:=u4'
  refine r_ ?_
  refine s_ ?_
  refine st_ ?_
  refine aa_ ?_
  refine ac_ ?_
  rw [hfin]
  exact aE_ (σ':=σ) va_ (cN_ (ai_ ho4 (ai_ n6 hsx))) ⟨rfl,rfl⟩
end Go.Proofs.YtkjfpgjpeofndaaGreatDoor
end

section
set_option linter.all false
set_option maxRecDepth 100000
namespace Go.Ab
theorem ACalls.frozen {P:Program} {f:FuncId} {args:List AVal} {σ:Store} {sz:Nat} {l:List AVal} (h:ACalls P f args σ fun v σ'=>CBp σ σ' sz l v) (hs:∀ x∈l,x.cells.length=sz):ACalls P f args σ fun v σ'=>v=.sl sz l false∧σ=σ':=by
 refine h.after ?_
 rintro κ a σ' cv hI hr hC
 rcases hC with ⟨rfl,rfl,rfl⟩ | ⟨o,ho,rfl,rfl⟩
 ·exact ⟨κ,_,_,rfl,.refl κ,hI,hr.wk (.nil sz false),rfl,rfl⟩
 ·obtain ⟨κ',h1,h2,h3,h4⟩:=Ab.freeze hI hr (Store.set_get ..) (l:=l) (by rw [List.take_of_length_le (by rw [aZ_ hs];exact Nat.le_refl _)]) rfl hs
  rw [Store.set_del ho] at h3
  exact ⟨κ',_,_,h1,h2,h3,h4,rfl,rfl⟩
theorem pF_ {σ σ':Store} {sz:Nat} {l:List AVal} {a:AVal} {i:Nat} {y:AObj} (h:CBp (σ.set i y) σ' sz l a) (hi:σ.heap i=none):∃ τ,CBp σ τ sz l a∧τ.Sub σ':=by
 have hsub:∀ τ:Store,τ.heap i=none→τ.Sub (τ.set i y):=fun τ hτ=>⟨fun j x hx=>by rw [Store.set_ne _ _ (fun hh=>by rw [hh,hτ] at hx;cases hx)];exact hx,fun _ _ h=>h⟩
 rcases h with ⟨h1,h2,rfl⟩ | ⟨o,ho,h1,rfl⟩
 ·exact ⟨σ,.inl ⟨h1,h2,rfl⟩,hsub σ hi⟩
 ·have hne:o≠i:=fun hh=>by rw [hh,Store.set_get] at ho;cases ho
  rw [Store.set_ne _ _ hne] at ho
  refine ⟨σ.set o (.cells (flat l)),.inr ⟨o,ho,h1,rfl⟩,?_⟩
  rw [Go.Proofs.YtkjfpgjpeofndaaGreatDoor.set_swap (Ne.symm hne)]
  exact hsub _ (by rw [Store.set_ne _ _ (Ne.symm hne)];exact hi)
theorem sd_ {σ σ':Store} {sz k:Nat} {l:List AVal} {a:AVal} {p:TypeId × Nat} (h:CBp σ σ' sz l a):CBp (σ.newTok none k p) (σ'.newTok none k p) sz l a:=by
 rcases h with ⟨h1,h2,rfl⟩ | ⟨o,ho,h1,rfl⟩
 ·exact .inl ⟨h1,h2,rfl⟩
 ·exact .inr ⟨o,ho,h1,rfl⟩
end Go.Ab
namespace Go.Proofs.YtkjfpgjpeofndaaGreatDoor
open Go.Ab
def ft_ (a b:List Seen):List ByteArray:=cD_ (df_ ((a ++ b).map (·.node)))
def cV_ (a b:List Seen):List Seen:=(ft_ a b).map fun s=>fg_ (ofS a s) (ofS b s)
def ge_ (a b:List Seen):List Seen × Int:=if ew_ a && ew_ b then (if ew_ (cV_ a b) then (cV_ a b,0) else ([],4)) else ([],1)
theorem iE_:∀ (l:List Seen) (pv:Option ByteArray) (room:Int),fB_ pv room l=true→∀ x∈l,cY_ x=true∧(x.more.length:Int)≤room
 |[],_,_,_=>fun x hx=>by cases hx
 |y :: l,pv,room,h=>fun x hx=>by
  simp only [fB_,Bool.and_eq_true,decide_eq_true_eq] at h
  obtain ⟨⟨⟨h1,h2⟩,h3⟩,h4⟩:=h
  rcases List.mem_cons.1 hx with rfl | hx
  ·exact ⟨h1,h3⟩
  ·have:=iE_ l _ _ h4 x hx
   exact ⟨this.1,by omega⟩
theorem hn_:∀ (l:List Int) (z:Int),d9_ z l=true→∀ n∈l,z < n∧n≤9007199254740992
 |[],_,_=>fun x hx=>by cases hx
 |m :: l,z,h=>fun n hn=>by
  simp only [d9_,Bool.and_eq_true,decide_eq_true_eq] at h
  obtain ⟨⟨h1,h2⟩,h3⟩:=h
  rcases List.mem_cons.1 hn with rfl | hn
  ·exact ⟨h1,h2⟩
  ·have:=hn_ l m h3 n hn
   omega
structure SeenGd (x:Seen):Prop where
 name:bX_ x.node=true
 size:x.node.size≤16
 bd:SeenBd x
 len:x.more.length≤4096
theorem ku_ {c:List Seen} (h:ew_ c=true):∀ x∈c,SeenGd x:=fun x hx=>by
 obtain ⟨h1,h2⟩:=iE_ c _ _ h x hx
 have h3:x.more.length≤4096:=by omega
 simp only [cY_,eb_,Bool.and_eq_true,decide_eq_true_eq] at h1
 obtain ⟨⟨⟨⟨h4,h5⟩,h6⟩,_⟩,h7⟩:=h1
 have h8:=h4
 simp only [bX_,Bool.and_eq_true,decide_eq_true_eq] at h8
 exact ⟨h4,h8.1.2,⟨h5,h6,fun n hn=>(hn_ _ _ h7 n hn).2,by omega⟩,h3⟩
theorem qn_ (c:List Seen) (s:ByteArray):(ofS c s).node=s:=by
 unfold ofS
 split
 ·rename_i x hx
  have:=List.find?_some hx
  simpa using this
 ·rfl
theorem kP_ {c:List Seen} (h:∀ x∈c,SeenGd x) (s:ByteArray):SeenBd (ofS c s)∧(ofS c s).more.length≤4096:=by
 unfold ofS
 split
 ·rename_i x hx
  have:=h x (List.mem_of_find?_eq_some hx)
  exact ⟨this.bd,this.len⟩
 ·exact ⟨⟨Int.le_refl 0,by show (0:Int)≤_;decide,(fun n hn=>by cases hn),by show 0≤_;decide⟩,by show 0≤_;decide⟩
theorem iu_:∀ (l:List Int) (st:Int × List Int),(l.foldl fz_ st).2.length≤st.2.length + l.length
 |[],st=>by simp
 |n :: l,st=>by
  have:=iu_ l (fz_ st n)
  have h2:(fz_ st n).2.length≤st.2.length + 1:=by
   unfold fz_
   split
   ·simp
   ·split <;> simp
  simp only [List.foldl_cons,List.length_cons];omega
theorem mS_ (a b:Seen):(fg_ a b).more.length≤a.more.length + b.more.length:=by
 have h1:=iu_ (gS_ (a.more ++ b.more)) (max a.base b.base,[])
 have h2:=i1_ (a.more ++ b.more)
 rw [List.length_append] at h2
 simp only [fg_,mR_]
 simp at h1
 omega
theorem iB_ {ss:List ByteArray} {s:ByteArray} (h:s∈cD_ ss):s∈ss:=by
 unfold cD_ at h
 obtain ⟨l,hl,rfl⟩:=List.mem_map.1 h
 obtain ⟨t,ht,rfl⟩:=List.mem_map.1 (fY_ hl)
 rw [B_Lb];exact ht
theorem mp_ {ss:List ByteArray} {s:ByteArray} (h:s∈df_ ss):s∈ss:=by
 unfold df_ at h
 obtain ⟨l,hl,rfl⟩:=List.mem_map.1 h
 obtain ⟨t,ht,rfl⟩:=List.mem_map.1 (List.mem_mergeSort.1 hl)
 rw [B_Lb];exact ht
theorem l4_ {a b:List Seen} {s:ByteArray} (h:s∈ft_ a b):∃ x∈a ++ b,x.node=s:=List.mem_map.1 (mp_ (iB_ h))
theorem l3_ (a b:List Seen):(ft_ a b).length≤a.length + b.length:=by
 unfold ft_ cD_
 rw [List.length_map]
 refine Nat.le_trans (dU_ _) ?_
 simp [df_]
theorem lX_ {a b:List Seen} (ha:∀ x∈a,SeenGd x) (hb:∀ x∈b,SeenGd x):∀ x∈cV_ a b,SeenSm x:=fun x hx=>by
 obtain ⟨s,hs,rfl⟩:=List.mem_map.1 hx
 obtain ⟨y,hy,rfl⟩:=l4_ hs
 have h1:=(kP_ ha y.node).2
 have h2:=(kP_ hb y.node).2
 have h3:=mS_ (ofS a y.node) (ofS b y.node)
 refine ⟨?_,by omega⟩
 show (ofS a y.node).node.size≤_
 rw [qn_]
 rcases List.mem_append.1 hy with h | h
 ·have:=(ha y h).size;omega
 ·have:=(hb y h).size;omega
theorem f1_ {L1 L2:List Seen} {t1 t2 tt:Bool} {σ:Store} (h1:L1.length≤10000000) (h2:L2.length≤10000000) :
  ACalls Tryz.prog 565 [.sl 1 [.sl 3 (L1.map aM_) t1,.sl 3 (L2.map aM_) t2] tt] σ fun v σ'=>v=.sl 3 ((L1 ++ L2).map aM_) false∧σ=σ' :=
 (iD_ h1 h2).frozen (o4_ _)
theorem chk0 {b:Bool}:((if b=true then 0 else 1:Int)=0) ↔ b=true:=by cases b <;> simp
theorem rk_ {a b:List Seen} {ta tb:Bool} {σ:Store} (hA:∀ x∈a,SeenSm x) (hB:∀ x∈b,SeenSm x) (hna:a.length≤100000) (hnb:b.length≤100000) :
  ACalls Tryz.prog 475 [.sl 3 (a.map aM_) ta,.sl 3 (b.map aM_) tb] σ fun v σ'=>v=.tup [.sl 3 ((ge_ a b).1.map aM_) false,vInt (ge_ a b).2]∧σ=σ':=by
 refine en_ Tryz.func475 Tryz.ntmps475 Tryz.results475 ?_
 refine rr_ ?_
 iterate 2 refine s_ ?_
 refine aa_ ?_
 refine ab_ ?_
 refine rr_ ?_
 refine s_ ?_
 refine x_ g_ va_ (hL_ hA (by omega)) ?_;rintro _ _ ⟨rfl,rfl⟩
 iterate 2 refine s_ ?_
 refine gf_ ?_
 refine bi_ rfl rfl v_ rfl (fun hb=>aw_ (by rfl) (by rfl) (.inr ⟨by rfl,by rfl,by rfl⟩) g_ cg_ (hL_ hB (by omega))) ?_
 refine gf_ ?_
 refine s_ ?_
 refine aa_ ?_
 refine cd_ (fun hc1=>?_) (fun hc1=>?_)
 ·skip
  have hj:ge_ a b=([],1):=by
   rw [chk0,chk0] at hc1
   unfold ge_
   cases h1:ew_ a <;> cases h2:ew_ b <;> simp [h1,h2] at hc1 ⊢
  refine rr_ ?_
  iterate 2 refine s_ ?_
  refine aa_ ?_
  refine ac_ ?_
  rw [hj]
  exact a2_ (v:=.tup [.sl 3 [] false,vInt 1]) (v':=.tup [vNil,vInt 1]) va_ (.tup _ _ rfl (fun i hi hi'=>by match i,hi with | 0,_=>exact .nil _ _ | 1,_=>exact .refl _)) sub_ ⟨rfl,rfl⟩
 ·rw [chk0,chk0] at hc1
  have gA:=ku_ hc1.1
  have gB:=ku_ hc1.2
  have rA:=g8_ hc1.1
  have rB:=g8_ hc1.2
  have hlen:(a ++ b).length≤200000:=by rw [List.length_append];omega
  obtain ⟨D,hD⟩:∃ D,a ++ b=D:=⟨_,rfl⟩
  rw [hD] at hlen
  refine ae_ ?_
  refine rr_ ?_
  refine s_ ?_
  refine aa_ ?_
  refine ab_ ?_
  refine rr_ ?_
  iterate 2 refine s_ ?_
  refine aJ_ rfl rfl rfl g_ g_ rfl rfl h_ c2_ (by decide) ?_
  refine x_ g_ va_ (f1_ (L1:=a) (L2:=b) (by omega) (by omega)) ?_;rintro _ _ ⟨rfl,rfl⟩
  rw [hD]
  iterate 2 refine s_ ?_
  refine aa_ ?_
  refine ah_ ?_
  refine ak_ (ι:=Store × AVal × Nat) (fun ⟨τ,g,k⟩=>D.length - k) (fun ⟨τ,g,k⟩=>k≤D.length∧CBp σ τ 1 (((D.take k).map (·.node)).map vStr) g) (fun ⟨τ,g,k⟩=>[(0,.sl 3 (a.map aM_) ta),(1,.sl 3 (b.map aM_) tb),(6,g),(23,.sl 3 (D.map aM_) false),(24,vInt D.length),(25,vInt k)]) (fun ⟨τ,g,k⟩=>τ) (σ,vNil,0) ?_ ?_ ?_ ?_
  ·exact ⟨Nat.zero_le _,.inl ⟨rfl,rfl,rfl⟩⟩
  ·exact cv_
  ·exact Store.Wk.refl _
  rintro ⟨τ,g,k⟩ ⟨hk,hC⟩
  simp only [ar_,av_]
  refine rr_ ?_
  refine s_ ?_
  refine aa_ ?_
  refine ab_ ?_
  refine cd_ (fun hc5=>?_) (fun hc5=>?_)
  ·refine ae_ ?_
   refine ab_ ?_
   refine ah_ ?_
   refine ab_ ?_
   obtain ⟨x,hx⟩:=a0_ (l:=D) (k:=k) (by omega)
   have R:=hx
   refine r_ ?_
   iterate 2 refine s_ ?_
   refine lc_ fun o8 ho8=>?_
   repeat (rw [ad_] at ho8;obtain ⟨_,ho8⟩:=ho8)
   refine st_ ?_
   refine aa_ ?_
   skip
   have n8:σ.heap o8=none:=by
    cases h:σ.heap o8 with
    |none=>rfl
    |some y=>have:=hC.sub.heap o8 y h;rw [ho8] at this;cases this
   have hC1:=ko_ (x:=.cells [.lit (.string ⟨#[]⟩),.lit (.int .i64 0),.lit (.slice none 0 0)]) (y:=.cells (aM_ x).cells) hC ho8
   refine r_ ?_
   iterate 3 refine s_ ?_
   refine aJ_ rfl rfl rfl g_ g_ rfl rfl h_ c2_ (by decide) ?_
   refine aL_X rfl rfl (cP_ rfl g_ g_ hC1 va_ (fun y hy=>by obtain ⟨s,_,rfl⟩:=List.mem_map.1 hy;rfl) va_ c_ (by simp;omega) fun a' σ' hC2=>?_)
   obtain ⟨τ',hC3,hsub⟩:=pF_ hC2 n8
   refine s_ ?_
   refine aa_ ?_
   refine r_ ?_
   iterate 2 refine s_ ?_
   refine aa_ ?_
   refine bb_ (ι:=Store × AVal × Nat) (i:=⟨τ,g,k⟩) (τ',a',k + 1) ?_ ?_ ?_ ?_
   ·show D.length - (k + 1) < D.length - k;omega
   ·exact ⟨by show k + 1≤D.length;omega,by rw [bE_ hx,List.map_append,List.map_append];exact hC3⟩
   ·exact cv_
   ·exact hsub.wk
  ·refine ay_ ?_
   refine af_ ?_
   refine af_ ?_
   refine aq_ ?_
   refine ab_ ?_
   obtain rfl:k=D.length:=by omega
   rw [List.take_length] at hC
   refine r_ ?_
   refine s_ ?_
   refine x_ g_ va_ (qQ_ hC (by simp at hlen ⊢;omega)) ?_;rintro _ τ1 ⟨rfl,hC1⟩
   refine aa_ ?_
   refine rr_ ?_
   refine cq_ 212 3 rfl rfl rfl (by rfl) fun k9 hk9=>?_
   have hk9':σ.tok k9=none:=by
    cases h:σ.tok k9 with
    |none=>rfl
    |some y=>have:=hC1.sub.tok k9 y h;rw [hk9] at this;cases this
   refine aa_ ?_
   refine ab_ ?_
   refine rr_ ?_
   refine s_ ?_
   refine x_ g_ va_ (jx_ (σ0:=σ.newTok none k9 (212,3)) (ss:=df_ (D.map (·.node))) (sd_ hC1) (by simp [df_];omega) (by refine Nat.le_trans (dU_ _) (by simp))) ?_;rintro _ _ ⟨rfl,rfl⟩
   rw [show cD_ (df_ (D.map (·.node)))=ft_ a b from by rw [← hD];rfl]
   obtain ⟨Nd,hNd⟩:∃ Nd,ft_ a b=Nd:=⟨_,rfl⟩
   have hnl:=l3_ a b
   rw [hNd] at hnl ⊢
   have hall:cV_ a b=Nd.map fun s=>fg_ (ofS a s) (ofS b s):=by rw [← hNd];rfl
   iterate 2 refine s_ ?_
   refine aa_ ?_
   refine ah_ ?_
   refine ak_ (ι:=Nat × Nat) (fun ⟨k,i⟩=>Nd.length - i) (fun ⟨k,i⟩=>i≤Nd.length∧σ.tok k=none) (fun ⟨k,i⟩=>[(0,.sl 3 (a.map aM_) ta),(1,.sl 3 (b.map aM_) tb),(9,.own k 3 (((Nd.take i).map fun s=>fg_ (ofS a s) (ofS b s)).map aM_)),(38,.sl 1 (Nd.map vStr) false),(39,vInt Nd.length),(40,vInt i)]) (fun ⟨k,i⟩=>(σ.newTok none k (212,3))) (k9,0) ?_ ?_ ?_ ?_
   ·exact ⟨Nat.zero_le _,hk9'⟩
   ·exact cv_
   ·exact Store.Wk.refl _
   rintro ⟨k,i⟩ ⟨hi,hk⟩
   simp only [ar_,av_]
   refine rr_ ?_
   refine s_ ?_
   refine aa_ ?_
   refine ab_ ?_
   refine cd_ (fun hc12=>?_) (fun hc12=>?_)
   ·refine ae_ ?_
    refine ab_ ?_
    refine ah_ ?_
    refine ab_ ?_
    obtain ⟨n,hn⟩:=a0_ (l:=Nd) (k:=i) (by omega)
    have R:=hn
    refine r_ ?_
    iterate 3 refine s_ ?_
    refine aa_ ?_
    refine r_ ?_
    iterate 3 refine s_ ?_
    refine x_ g_ va_ (of_c rA (by omega)) ?_;rintro _ _ ⟨rfl,rfl⟩
    iterate 2 refine s_ ?_
    refine x_ g_ va_ (of_c rB (by omega)) ?_;rintro _ _ ⟨rfl,rfl⟩
    refine x_ g_ va_ (uD_ (kP_ gA _).1 (kP_ gB _).1) ?_;rintro _ _ ⟨rfl,rfl⟩
    refine aJ_ rfl rfl rfl g_ g_ rfl rfl h_ c2_ (by decide) ?_
    refine cp_ rfl rfl rfl g_ g_ v_ h_ v_ c_ (by simp;omega) fun k53 hk53=>?_
    refine s_ ?_
    refine aa_ ?_
    refine r_ ?_
    iterate 2 refine s_ ?_
    refine aa_ ?_
    refine bb_ (ι:=Nat × Nat) (i:=⟨k,i⟩) (k53,i + 1) ?_ ?_ ?_ ?_
    ·show Nd.length - (i + 1) < Nd.length - i;omega
    ·exact ⟨by show i + 1≤Nd.length;omega,(jT_ hk53).2⟩
    ·have R:=(show ((Nd.take (i + 1)).map fun s=>fg_ (ofS a s) (ofS b s)).map aM_=((Nd.take i).map fun s=>fg_ (ofS a s) (ofS b s)).map aM_ ++ [aM_ (fg_ (ofS a n) (ofS b n))] from by rw [bE_ hn,List.map_append,List.map_append];rfl);exact cv_
    ·rw [Store.newTok_step hk];exact Store.Wk.refl _
   ·refine ay_ ?_
    refine af_ ?_
    refine af_ ?_
    refine aq_ ?_
    refine ab_ ?_
    refine ab_ ?_
    obtain rfl:i=Nd.length:=by omega
    rw [List.take_length,← hall]
    have hjl:(cV_ a b).length≤1000000:=by rw [hall,List.length_map];omega
    refine r_ ?_
    refine s_ ?_
    refine x_ g_ va_ (ACalls.wkA (args:=[.own k 3 ((cV_ a b).map aM_)]) (hL_ (t:=false) (lX_ gA gB) hjl) rfl (fun j hj hj'=>by match j,hj with | 0,_=>exact .own1 _ _ _)) ?_;rintro _ _ ⟨rfl,rfl⟩
    refine s_ ?_
    refine aa_ ?_
    refine cd_ (fun hc16=>?_) (fun hc16=>?_)
    ·refine rr_ ?_
     iterate 2 refine s_ ?_
     refine aa_ ?_
     refine ac_ ?_
     rw [chk0] at hc16
     have hj:ge_ a b=([],4):=by simp [ge_,hc1.1,hc1.2,hc16]
     rw [hj]
     exact a2_ (v:=.tup [.sl 3 [] false,vInt 4]) (v':=.tup [vNil,vInt 4]) va_ (.tup _ _ rfl (fun i hi hi'=>by match i,hi with | 0,_=>exact .nil _ _ | 1,_=>exact .refl _)) (cN_ (bz_ hk a5_)) ⟨rfl,rfl⟩
    ·refine ae_ ?_
     refine rr_ ?_
     iterate 3 refine s_ ?_
     refine aa_ ?_
     refine ac_ ?_
     rw [chk0] at hc16
     have hj:ge_ a b=(cV_ a b,0):=by simp [ge_,hc1.1,hc1.2,hc16]
     rw [hj]
     exact a2_ (v:=.tup [.sl 3 ((cV_ a b).map aM_) false,vInt 0]) (v':=.tup [.own k 3 ((cV_ a b).map aM_),vInt 0]) va_ (.tup _ _ rfl (fun i hi hi'=>by match i,hi with | 0,_=>exact .own1 _ _ _ | 1,_=>exact .refl _)) (cN_ (bz_ hk a5_)) ⟨rfl,rfl⟩
end Go.Proofs.YtkjfpgjpeofndaaGreatDoor
end

section
set_option linter.all false
set_option maxRecDepth 100000
namespace Go.Proofs.YtkjfpgjpeofndaaGreatDoor
open Go.Ab
def oneS (s:ByteArray) (n:Int):Seen:=if n=1 then ⟨s,1,[]⟩ else ⟨s,0,[n]⟩
def ef_ (s:ByteArray) (n:Int):Bool:=bX_ s && decide (1≤n) && decide (n≤9007199254740992)
def addS (c:List Seen) (s:ByteArray) (n:Int):List Seen × Int:=if ef_ s n then ge_ c [oneS s n] else ([],1)
theorem gu_ (s:ByteArray) (n:Int):(oneS s n).node=s:=by unfold oneS;split <;> rfl
theorem nc_ {s:ByteArray} {n:Int} (h:(bX_ s=true∧1≤n)∧n≤9007199254740992):ef_ s n=true:=by simp [ef_,h.1.1,h.1.2,h.2]
theorem pL_ {s:ByteArray} {n:Int} (h:(bX_ s=false∨n < 1)∨9007199254740992 < n):ef_ s n=false:=by
 unfold ef_
 rcases h with (h | h) | h
 ·rw [h];rfl
 ·rw [decide_eq_false (show ¬ 1≤n by omega)];simp
 ·rw [decide_eq_false (show ¬ n≤9007199254740992 by omega)];simp
theorem iG_ {s:ByteArray} {n:Int}:ef_ s n=true ↔ (bX_ s=true∧1≤n)∧n≤9007199254740992:=by simp [ef_]
theorem wQ_ {c:List Seen} {s:ByteArray} {n:Int} {t:Bool} {σ:Store} (hA:∀ x∈c,SeenSm x) (hn:c.length≤100000) (hs:s.size≤1000000) :
  ACalls Tryz.prog 432 [.sl 3 (c.map aM_) t,sDot s n] σ fun v σ'=>v=.tup [.sl 3 ((addS c s n).1.map aM_) false,vInt (addS c s n).2]∧σ=σ':=by
 have hon:=gu_ s n
 have hsm:∀ x∈[oneS s n],SeenSm x:=fun x hx=>by
  obtain rfl:=List.mem_singleton.1 hx
  refine ⟨by rw [hon];exact hs,?_⟩
  unfold oneS;split <;> simp
 refine en_ Tryz.func432 Tryz.ntmps432 Tryz.results432 ?_
 refine rr_ ?_
 refine bx_ fun o3 ho3=>?_
 repeat (rw [ad_] at ho3;obtain ⟨_,ho3⟩:=ho3)
 iterate 2 refine s_ ?_
 refine aa_ ?_
 refine ab_ ?_
 refine rr_ ?_
 iterate 2 refine s_ ?_
 refine x_ g_ va_ (cF_ (by omega)) ?_;rintro _ _ ⟨rfl,rfl⟩
 iterate 2 refine s_ ?_
 refine gf_ ?_
 refine gf_ ?_
 refine gf_ ?_
 iterate 2 refine s_ ?_
 refine gf_ ?_
 refine gf_ ?_
 refine gf_ ?_
 refine s_ ?_
 refine aa_ ?_
 refine cd_ (fun hc1=>?_) (fun hc1=>?_)
 ·refine rr_ ?_
  iterate 2 refine s_ ?_
  refine aa_ ?_
  refine ac_ ?_
  rw [show addS c s n=([],1) from by rw [addS,pL_ hc1];rfl]
  exact a2_ (v:=.tup [.sl 3 [] false,vInt 1]) (v':=.tup [vNil,vInt 1]) va_ (.tup _ _ rfl (fun i hi hi'=>by match i,hi with | 0,_=>exact .nil _ _ | 1,_=>exact .refl _)) sub_ ⟨rfl,rfl⟩
 ·have hd:=nc_ hc1
  have haj:addS c s n=ge_ c [oneS s n]:=by rw [addS,hd];rfl
  refine ae_ ?_
  refine rr_ ?_
  iterate 3 refine s_ ?_
  refine lc_ fun o6 ho6=>?_
  repeat (rw [ad_] at ho6;obtain ⟨_,ho6⟩:=ho6)
  refine st_ ?_
  refine aa_ ?_
  refine ab_ ?_
  refine rr_ ?_
  iterate 3 refine s_ ?_
  refine aa_ ?_
  refine cd_ (fun hc4=>?_) (fun hc4=>?_)
  ·refine r_ ?_
   refine s_ ?_
   refine st_ ?_
   refine aa_ ?_
   refine ee_ o6 [.lit (.string (oneS s n).node),vInt (oneS s n).base,.sl 1 ((oneS s n).more.map vInt) false] h_ (by rw [show oneS s n=⟨s,1,[]⟩ from if_pos hc4];exact ⟨.refl _,.refl _,.nil _ _,trivial⟩) ?_
   refine rr_ ?_
   iterate 2 refine s_ ?_
   refine aJ_ rfl rfl rfl g_ g_ rfl rfl h_ c2_ (by decide) ?_
   refine x_ g_ va_ (rk_ (b:=[oneS s n]) hA hsm hn (by simp)) ?_;rintro _ _ ⟨rfl,rfl⟩
   iterate 4 refine s_ ?_
   refine aa_ ?_
   refine ac_ ?_
   refine er_ σ ?_
   exact ⟨by rw [haj],rfl⟩
  ·refine r_ ?_
   iterate 2 refine s_ ?_
   refine aJ_ rfl rfl rfl g_ g_ rfl rfl h_ c2_ (by decide) ?_
   refine s_ ?_
   refine st_ ?_
   refine aa_ ?_
   refine ee_ o6 [.lit (.string (oneS s n).node),vInt (oneS s n).base,.sl 1 ((oneS s n).more.map vInt) false] h_ (by rw [show oneS s n=⟨s,0,[n]⟩ from if_neg hc4];exact ⟨.refl _,.refl _,.sl1 _ _ _,trivial⟩) ?_
   refine rr_ ?_
   iterate 2 refine s_ ?_
   refine aJ_ rfl rfl rfl g_ g_ rfl rfl h_ c2_ (by decide) ?_
   refine x_ g_ va_ (rk_ (b:=[oneS s n]) hA hsm hn (by simp)) ?_;rintro _ _ ⟨rfl,rfl⟩
   iterate 4 refine s_ ?_
   refine aa_ ?_
   refine ac_ ?_
   refine er_ σ ?_
   exact ⟨by rw [haj],rfl⟩
theorem fZ_ {α:Type} [DecidableEq α] [Inhabited α] (x:α):Lib.compact [x]=[x]:=by
 simp [Lib.compact,Lib.compactUpTo,List.range_succ,Lib.keeps]
theorem m9_ {s:ByteArray} {n:Int} (h:ef_ s n=true):ew_ [oneS s n]=true:=by
 obtain ⟨⟨h1,h2⟩,h3⟩:=iG_.1 h
 unfold ew_ fB_ fB_
 unfold oneS
 split
 ·simp [cY_,eb_,h1,d9_,ca_]
 ·simp [cY_,eb_,h1,d9_,ca_,h3];omega
theorem pD_ {s:ByteArray} {n:Int} (h:ef_ s n=true):fg_ (ja_ s) (oneS s n)=oneS s n:=by
 obtain ⟨⟨h1,h2⟩,h3⟩:=iG_.1 h
 have e:∀ l:List Int,l.length≤1→gS_ l=l:=fun l hl=>by
  match l,hl with
  |[],_=>simp [gS_,ec_,Lib.compact,Lib.compactUpTo]
  |[x],_=>simp [gS_,ec_,fZ_]
 unfold fg_ mR_
 rw [e _ (by unfold oneS ja_;split <;> simp)]
 unfold oneS ja_
 split
 ·rename_i h;simp;omega
 ·rename_i h
  have h0:0 < n:=by omega
  simp [fz_,h,h0]
theorem jM_ {s:ByteArray} {n:Int} (h:ef_ s n=true):cV_ [] [oneS s n]=[oneS s n]:=by
 have e:ft_ [] [oneS s n]=[s]:=by simp [ft_,df_,cD_,fZ_,gu_,B_Lb]
 unfold cV_
 rw [e]
 have e2:ofS [oneS s n] s=oneS s n:=by simp [ofS,gu_]
 have e1:ofS [] s=ja_ s:=rfl
 rw [List.map_cons,List.map_nil,e1,e2,pD_ h]
theorem uk_ (s:ByteArray) (n:Int):(addS [] s n).2=if ef_ s n then 0 else 1:=by
 unfold addS
 cases h:ef_ s n with
 |false=>rfl
 |true=>simp [ge_,jM_ h,m9_ h,show ew_ []=true from rfl]
theorem sk_ (b:Bool):decide ((if b=true then (0:Int) else 1)=0)=b:=by cases b <;> rfl
theorem sl_ (m k:Nat):decide ((m:Int)≤(k:Int))=decide (m≤k):=by
 by_cases h:m≤k
 ·rw [decide_eq_true h,decide_eq_true (by omega)]
 ·rw [decide_eq_false h,decide_eq_false (by omega)]
theorem uK_ (m:Nat):decide ((m:Int)≤256)=decide (m≤256):=sl_ m 256
def qM_ (x:Sib):Bool:=ef_ x.node x.n && decide (x.value.size≤256) && (!x.gone || decide (x.value=⟨#[]⟩)) && decide (0≤x.time) && decide (x.time≤9007199254740992)
theorem sE_ {x:Sib} {σ:Store} (hx:SibSm x):ACalls Tryz.prog 430 [sSib x] σ fun v σ'=>v=vB (qM_ x)∧σ=σ':=by
 have h1:=hx.node;have h2:=hx.value
 have hsz:(if ef_ x.node x.n=true then (0:Int) else 1)=0 ↔ ef_ x.node x.n=true:=chk0
 refine en_ Tryz.func430 Tryz.ntmps430 Tryz.results430 ?_
 refine rr_ ?_
 refine bx_ fun o1 ho1=>?_
 repeat (rw [ad_] at ho1;obtain ⟨_,ho1⟩:=ho1)
 refine s_ ?_
 refine aa_ ?_
 refine rr_ ?_
 iterate 2 refine s_ ?_
 refine x_ g_ va_ (ACalls.wkA (args:=[vNil,sDot x.node x.n]) (wQ_ (c:=[]) (t:=false) (s:=x.node) (n:=x.n) (fun _ h=>by cases h) (by simp) (by omega)) rfl (fun j hj hj'=>by match j,hj with | 0,_=>exact .nil _ _ | 1,_=>exact .refl _)) ?_;rintro _ _ ⟨rfl,rfl⟩
 rw [uk_]
 iterate 5 refine s_ ?_
 refine aa_ ?_
 refine rr_ ?_
 iterate 3 refine s_ ?_
 refine gt_ ?_
 refine gt_ ?_
 refine gt_ ?_
 refine gt_ ?_
 iterate 2 refine s_ ?_
 refine gt_ ?_
 refine gt_ ?_
 refine gt_ ?_
 refine gt_ ?_
 refine bJ_ rfl rfl v_ rfl vg_ ?_
 refine bJ_ rfl rfl v_ rfl vg_ ?_
 refine bJ_ rfl rfl v_ rfl vg_ ?_
 refine gt_ ?_
 iterate 2 refine s_ ?_
 refine gt_ ?_
 refine gt_ ?_
 refine gt_ ?_
 iterate 2 refine s_ ?_
 refine gt_ ?_
 refine gt_ ?_
 refine gt_ ?_
 iterate 2 refine s_ ?_
 refine aa_ ?_
 refine ac_ ?_
 refine er_ σ ?_
 refine ⟨?_,rfl⟩
 rw [sk_,uK_];rfl
def kf_ (pv:Option Sib) (x:Sib):Bool:=match pv with | none=>true | some p=>jQ_ p.node p.n x.node x.n
def eY_ (c:List Seen):Option Sib→List Sib→Bool
 |_,[]=>true
 |pv,x :: l=>qM_ x && hasS c x.node x.n && kf_ pv x && eY_ c (some x) l
def dI_ (o:Obj'):Bool:=ew_ o.ctx && eY_ o.ctx none o.sibs
def i2_ (c:List Sib) (k:Nat):Option Sib:=if k=0 then none else c[k - 1]?
theorem l5_ {c:List Sib} {k:Nat} {x:Sib} (h:c[k]?=some x):i2_ c (k + 1)=some x:=by simp [i2_,h]
theorem l6_ (c:List Sib) (k:Nat) (hk:k < c.length):∃ y:Sib,(0 < k→c[((k:Int) - 1).toNat]?=some y)∧∀ x,kf_ (i2_ c k) x=(decide (k=0) || jQ_ y.node y.n x.node x.n):=by
 by_cases h0:k=0
 ·subst h0
  exact ⟨⟨.empty,0,.empty,false,0⟩,fun h=>by omega,fun s=>rfl⟩
 ·obtain ⟨y,hy⟩:=a0_ (l:=c) (k:=k - 1) (by omega)
  have e:((k:Int) - 1).toNat=k - 1:=by omega
  exact ⟨y,fun _=>by rw [e];exact hy,fun s=>by simp [i2_,h0,hy,kf_]⟩
theorem tF_ {a h b r s:Bool} {k:Nat} (hb:b=(decide (k=0) || s)) (hh:(a=false∨h=false)∨0 < (k:Int)∧s=false):(a && h && b && r)=false:=by
 rcases hh with (hh | hh) | ⟨h1,h2⟩
 ·rw [hh];rfl
 ·rw [hh];simp
 ·rw [hb,h2,decide_eq_false (show ¬ k=0 by omega)];simp
theorem qN_ {a h b r s:Bool} {k:Nat} (hb:b=(decide (k=0) || s)) (hh:(a=true∧h=true)∧((k:Int)≤0∨s=true)):(a && h && b && r)=r:=by
 obtain ⟨⟨h1,h2⟩,h3⟩:=hh
 have:b=true:=by
  rw [hb]
  rcases h3 with h | h
  ·rw [decide_eq_true (show k=0 by omega)];rfl
  ·rw [h];simp
 rw [h1,h2,this];rfl
theorem pG_ {s:ByteArray} {n:Int} {s':ByteArray} {n':Int}:(0≤cmpD s n s' n') ↔ jQ_ s n s' n'=false:=by
 rw [← Bool.not_eq_true,← iz_];omega
theorem m3_ {s:ByteArray} {n:Int} {s':ByteArray} {n':Int}:(cmpD s n s' n' < 0) ↔ jQ_ s n s' n'=true:=iz_ s n s' n'
theorem kO_ {o:Obj'} {σ:Store} (ho:ObjSm o):ACalls Tryz.prog 313 [sObj o] σ fun v σ'=>v=vInt (if dI_ o then 0 else 1)∧σ=σ':=by
 have hnc:=ho.nc;have hns:=ho.ns
 refine en_ Tryz.func313 Tryz.ntmps313 Tryz.results313 ?_
 refine rr_ ?_
 refine bx_ fun o1 ho1=>?_
 repeat (rw [ad_] at ho1;obtain ⟨_,ho1⟩:=ho1)
 refine s_ ?_
 refine aa_ ?_
 refine ab_ ?_
 refine rr_ ?_
 iterate 2 refine s_ ?_
 refine x_ g_ va_ (hL_ ho.ctx (by omega)) ?_;rintro _ _ ⟨rfl,rfl⟩
 refine s_ ?_
 refine aa_ ?_
 refine cd_ (fun hc1=>?_) (fun hc1=>?_)
 ·skip
  have hf:dI_ o=false:=by
   rw [chk0] at hc1
   simp [dI_,hc1]
  refine rr_ ?_
  refine s_ ?_
  refine aa_ ?_
  refine ac_ ?_
  refine er_ σ ?_
  exact ⟨by rw [hf];rfl,rfl⟩
 ·rw [chk0] at hc1
  have hob:dI_ o=eY_ o.ctx none o.sibs:=by simp [dI_,hc1]
  refine ae_ ?_
  refine ab_ ?_
  refine rr_ ?_
  iterate 4 refine s_ ?_
  refine aa_ ?_
  refine ah_ ?_
  refine ak_ (ι:=Nat) (fun k=>o.sibs.length - k) (fun k=>k≤o.sibs.length∧eY_ o.ctx (i2_ o.sibs k) (o.sibs.drop k)=eY_ o.ctx none o.sibs) (fun k=>[(1,.ref o1 0),(10,.sl 5 (o.sibs.map sSib) false),(11,vInt o.sibs.length),(12,vInt k)]) (fun k=>(σ.set o1 (.cells (sObj o).cells))) 0 ?_ ?_ ?_ ?_
  ·exact ⟨Nat.zero_le _,rfl⟩
  ·exact cv_
  ·exact Store.Wk.refl _
  rintro k ⟨hk,hr⟩
  simp only [ar_,av_]
  refine rr_ ?_
  refine s_ ?_
  refine aa_ ?_
  refine ab_ ?_
  refine cd_ (fun hc4=>?_) (fun hc4=>?_)
  ·refine ae_ ?_
   refine ab_ ?_
   refine ah_ ?_
   refine ab_ ?_
   obtain ⟨x,hxk⟩:=a0_ (l:=o.sibs) (k:=k) (by omega)
   have hsx:=ho.sibs x (List.mem_of_getElem? hxk)
   obtain ⟨y,hy,hah⟩:=l6_ o.sibs k (by omega)
   have hst:eY_ o.ctx (i2_ o.sibs k) (o.sibs.drop k)=(qM_ x && hasS o.ctx x.node x.n && kf_ (i2_ o.sibs k) x && eY_ o.ctx (some x) (o.sibs.drop (k + 1))):=by rw [dc_ hxk];rfl
   have R:=hxk
   refine r_ ?_
   iterate 3 refine s_ ?_
   refine lc_ fun o4 ho4=>?_
   repeat (rw [ad_] at ho4;obtain ⟨_,ho4⟩:=ho4)
   refine s_ ?_
   refine st_ ?_
   refine aa_ ?_
   refine ab_ ?_
   have R:=hy
   refine aL_ (.op 0 0 (.op 1 1 (.op 2 0 (.op 3 0 (.op 4 0 (.op 5 0 (.op 6 0 (.op 7 0 (.op 8 1 (.op 9 0 (.op 10 0 (.op 11 0 (.op 12 0 (.op 13 0 (.op 14 0 (.op 15 0 (.op 16 0 (.op 17 0 (.op 18 0 (.op 19 0 (.op 20 0 (.op 21 0 (.op 22 1 (.op 23 0 (.op 24 0 (.op 25 0 .nil)))))))))))))))))))))))))) Tryz.mixed kr_ ?_
   refine ds_ ?_
   refine dx_ o_ g_ va_ (sE_ hsx) ?_;rintro _ _ ⟨rfl,rfl⟩;refine ⟨sub_,?_⟩
   iterate 2 refine ds_ ?_
   refine dgf_ ?_
   refine dgf_ ?_
   refine dgf_ ?_
   refine dgf_ ?_
   refine uG_ o_ (by rfl) (by rfl) v_ (by rfl) sub_ (fun hb=>aw_ (by rfl) (by rfl) (.inr ⟨by rfl,by rfl,by rfl⟩) g_ cg_ (w6_ ho.ctx (by omega))) ?_
   refine dgf_ ?_
   iterate 2 refine ds_ ?_
   refine dgf_ ?_
   refine dgf_ ?_
   refine dgf_ ?_
   refine bl_ ?_
   refine bl_ ?_
   refine bl_ ?_
   refine bl_ ?_
   refine bl_ ?_
   refine bl_ ?_
   refine bl_ ?_
   refine jD_ o_ (by rfl) (by rfl) v_ (by rfl) sub_ (fun hb=>aw_ (by rfl) (by rfl) (.inr ⟨by rfl,by rfl,by rfl⟩) g_ cg_ (ta_)) ?_
   refine bl_ ?_
   refine dgf_ ?_
   refine ds_ ?_
   refine aG_ ?_
   refine cd_ (fun hc6=>?_) (fun hc6=>?_)
   ·refine rr_ ?_
    refine s_ ?_
    refine aa_ ?_
    refine ac_ ?_
    refine er_ σ ?_
    refine ⟨?_,rfl⟩
    rw [pG_] at hc6
    rw [hob,← hr,hst,tF_ (hah _) hc6];rfl
   ·rw [m3_] at hc6
    have hnx:eY_ o.ctx (i2_ o.sibs (k + 1)) (o.sibs.drop (k + 1))=eY_ o.ctx none o.sibs:=by rw [l5_ hxk,← hr,hst,qN_ (hah _) hc6]
    refine ae_ ?_
    refine r_ ?_
    iterate 2 refine s_ ?_
    refine aa_ ?_
    refine bb_ (ι:=Nat) (i:=k) (k + 1) ?_ ?_ ?_ ?_
    ·omega
    ·exact ⟨by omega,hnx⟩
    ·exact cv_
    ·exact sub_
  ·refine ay_ ?_
   refine af_ ?_
   refine af_ ?_
   refine aq_ ?_
   refine rr_ ?_
   refine s_ ?_
   refine aa_ ?_
   refine ac_ ?_
   refine er_ σ ?_
   refine ⟨?_,rfl⟩
   rw [hob,← hr,List.drop_eq_nil_of_le (by omega)];rfl
def FewC (c:List Seen):Prop:=c.length≤12∧∀ x∈c,x.node.size≤100∧x.more.length≤40
theorem so_ {c:List Seen} {t:Bool} {σ:Store}:ACalls Tryz.prog 62 [.sl 3 (c.map aM_) t] σ fun v σ'=>(∃ r,v=vB r∧(r=true ↔ FewC c))∧σ=σ':=by
 refine en_ Tryz.func62 Tryz.ntmps62 Tryz.results62 ?_
 refine rr_ ?_
 refine s_ ?_
 refine aa_ ?_
 refine ab_ ?_
 refine rr_ ?_
 refine s_ ?_
 refine aa_ ?_
 refine ah_ ?_
 refine ak_ (ι:=Nat) (fun k=>c.length - k) (fun k=>k≤c.length∧k≤12∧∀ j x,j < k→c[j]?=some x→x.node.size≤100∧x.more.length≤40) (fun k=>[(0,.sl 3 (c.map aM_) t),(3,vInt k)]) (fun k=>σ) 0 ?_ ?_ ?_ ?_
 ·exact ⟨Nat.zero_le _,by decide,fun j x h=>by omega⟩
 ·exact cv_
 ·exact sub_
 rintro k ⟨hk,hk2,ha⟩
 simp only [ar_,av_]
 refine ab_ ?_
 refine rr_ ?_
 iterate 5 refine s_ ?_
 refine gt_ ?_
 refine gt_ ?_
 refine s_ ?_
 refine aa_ ?_
 refine cd_ (fun hc2=>?_) (fun hc2=>?_)
 ·refine ae_ ?_
  refine ab_ ?_
  refine ah_ ?_
  refine ab_ ?_
  obtain ⟨x,hx⟩:=a0_ (l:=c) (k:=k) (by omega)
  have R:=hx
  refine r_ ?_
  iterate 8 refine s_ ?_
  refine gf_ ?_
  refine gf_ ?_
  refine gf_ ?_
  refine gf_ ?_
  refine gf_ ?_
  refine gf_ ?_
  refine gf_ ?_
  refine s_ ?_
  refine aa_ ?_
  refine cd_ (fun hc4=>?_) (fun hc4=>?_)
  ·refine rr_ ?_
   refine s_ ?_
   refine aa_ ?_
   refine ac_ ?_
   refine er_ σ ?_
   exact ⟨⟨false,rfl,(fun h=>by cases h),fun h=>by have:=h.2 x (List.mem_of_getElem? hx);omega⟩,rfl⟩
  ·refine ae_ ?_
   refine r_ ?_
   iterate 3 refine s_ ?_
   refine aa_ ?_
   refine bb_ (ι:=Nat) (i:=k) (k + 1) ?_ ?_ ?_ ?_
   ·omega
   ·exact ⟨by omega,by omega,fun j y hj hy=>by rcases Nat.lt_or_eq_of_le (Nat.le_of_lt_succ hj) with h | h;exact ha j y h hy;rw [h,hx] at hy;obtain rfl:=Option.some.inj hy;omega⟩
   ·exact cv_
   ·exact sub_
 ·refine ay_ ?_
  refine af_ ?_
  refine af_ ?_
  refine aq_ ?_
  refine rr_ ?_
  iterate 4 refine s_ ?_
  refine aa_ ?_
  refine ac_ ?_
  refine er_ σ ?_
  exact ⟨⟨_,rfl,(fun h=>by
   have h12:c.length≤12:=by rw [decide_eq_true_eq] at h;omega
   exact ⟨h12,fun x hx=>by
    obtain ⟨j,hj⟩:=List.mem_iff_getElem?.1 hx
    have:=(List.getElem?_eq_some_iff.1 hj).1
    exact ha j x (by omega) hj⟩),fun h=>by have:=h.1;rw [decide_eq_true_eq];omega⟩,rfl⟩
end Go.Proofs.YtkjfpgjpeofndaaGreatDoor
end
