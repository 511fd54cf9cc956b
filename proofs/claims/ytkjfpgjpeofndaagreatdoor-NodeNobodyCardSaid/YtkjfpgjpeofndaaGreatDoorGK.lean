/-
  Walks and plain laws for the statement (see the law's own text). Own work (an AI agent).
-/
import Derived.Test.YtkjfpgjpeofndaaGreatDoorGD
import Derived.Lib.SplitLaws
import Derived.Lib.IndexBytes
import Derived.Lib.IndexLaws
import Derived.Test.YtkjfpgjpeofndaaGreatDoorGH
import Derived.Test.YtkjfpgjpeofndaaGreatDoorGE
import Derived.Test.YtkjfpgjpeofndaaGreatDoorGM
import Derived.Lib.Bytealg
import Derived.Lib.ItoaLen
import Derived.Lib.ItoaMem
import Derived.Lib.AtoiAllCases
import Derived.Shelf.Strconv.Itoa3
import Derived.Shelf.Strconv.AtoiAll
import Derived.Test.YtkjfpgjpeofndaaGreatDoorGJ
import Derived.Test.YtkjfpgjpeofndaaGreatDoorProg
import Derived.KernelRfl

section
set_option linter.all false
set_option maxRecDepth 100000
namespace Go.Proofs.YtkjfpgjpeofndaaGreatDoor
open Go.Ab
def b1_:List UInt8→List (List UInt8)
 |[]=>[[]]
 |c :: l=>if c=47 then [] :: b1_ l else (c :: (b1_ l).headD []) :: (b1_ l).tail
theorem jf_:∀ {a b:List UInt8},(∀ c∈a,c≠47)→b1_ (a ++ 47 :: b)=a :: b1_ b
 |[],b,_=>by rw [List.nil_append,b1_,if_pos rfl]
 |c :: a,b,h=>by
  have ih:=jf_ (a:=a) (b:=b) fun d hd=>h d (.tail _ hd)
  rw [List.cons_append,b1_,if_neg (h c (.head _)),ih];rfl
theorem eo_:∀ {a:List UInt8},(∀ c∈a,c≠47)→b1_ a=[a]
 |[],_=>rfl
 |c :: a,h=>by
  have ih:=eo_ (a:=a) fun d hd=>h d (.tail _ hd)
  rw [b1_,if_neg (h c (.head _)),ih];rfl
def tb_:List ByteArray→List UInt8
 |[]=>[]
 |x :: r=>Lb x ++ r.flatMap fun s=>47 :: Lb s
def qo_ (l:List ByteArray):ByteArray:=B (tb_ l)
def WAb (o:Nat) (a:AVal):Prop:=a=.ref o 0∨a=.nilp o 329 2
def WRb (σ:Store) (o:Nat) (l:List UInt8):Prop:=∃ a b old,σ.heap o=some (.cells [a,b])∧WAb o a∧b8_ σ 5 1 (aA_ (B l)) b old
theorem jA_ {o:Nat} {b:AVal} {σ:Store} (ho:σ.heap o=some (.cells [.nilp o 329 2,b])):ACalls Tryz.prog 501 [.ref o 0] σ fun v σ'=>v=.tup []∧σ'=σ.set o (.cells [.ref o 0,b]):=by
 refine en_ Tryz.func501 Tryz.ntmps501 Tryz.results501 ?_
 refine ab_ ?_
 have R:=ho
 refine r_ ?_
 iterate 5 refine s_ ?_
 refine aa_ ?_
 refine cd_ (fun hc0=>?_) (fun hc0=>?_)
 ·have R:=ho
  refine r_ ?_
  iterate 2 refine s_ ?_
  refine aL_X rfl rfl (AOp_toUnsafe (t:=329) rfl Tryz.underlying327 Tryz.underlying596 kr_ g_ ho (by decide) ?_)
  refine aL_X rfl rfl (AOp_extern rfl (e:=Extern.AbiNoEscape.same) kr_ g_ (fun κ ev _ h=>h7_ (h _ (by simp))) ?_)
  refine aL_X rfl rfl (AOp_fromUnsafe (u:=329) rfl Tryz.underlying596 Tryz.underlying327 kr_ g_ ho kr_ ?_)
  iterate 2 refine s_ ?_
  refine st_ ?_
  refine aa_ ?_
  refine aD_ v_ (Store.Wk.refl _) ?_
  exact ⟨rfl,rfl⟩
 ·cases hc0
theorem lK_ {o:Nat} {a b:AVal} {σ:Store} (ho:σ.heap o=some (.cells [a,b])) (ha:WAb o a):ACalls Tryz.prog 501 [.ref o 0] σ fun v σ'=>v=.tup []∧σ'=σ.set o (.cells [.ref o 0,b]):=by
 rcases ha with rfl | rfl
 ·exact f2_ ho
 ·exact jA_ ho
theorem ph_ {o:Nat} {a b:AVal} {σ:Store} {s:ByteArray} {l:List UInt8} {old:Option Nat} (ho:σ.heap o=some (.cells [a,b])) (ha:WAb o a) (hb:b8_ σ 5 1 (aA_ (B l)) b old) (hl:l.length≤1099511627776) (hs:s.size≤1099511627776) :
  ACalls Tryz.prog 387 [.ref o 0,vStr s] σ fun v σ'=>∃ k,v=.tup [vInt s.size,.lit .nilIface]∧σ.tok k=none∧σ'=(σ.newTok old k (5,1)).set o (.cells [.ref o 0,.own k 1 (aA_ (B (l ++ Lb s)))]):=by
 have e1:aA_ (B l) ++ aA_ s=aA_ (B (l ++ Lb s)):=by rw [dk_,← hw_,B_Lb]
 have hbl:(aA_ (B l)).length=l.length:=by rw [aF_,bI_]
 have hsl:=aF_ s
 refine en_ Tryz.func387 Tryz.ntmps387 Tryz.results387 ?_
 refine rr_ ?_
 iterate 2 refine s_ ?_
 refine aa_ ?_
 refine rr_ ?_
 refine s_ ?_
 refine x_ g_ va_ (lK_ ho ha) ?_;rintro _ _ ⟨rfl,rfl⟩
 refine aa_ ?_
 refine rr_ ?_
 iterate 6 refine s_ ?_
 refine aL_X rfl rfl (AOp_appendS rfl g_ g_ (b8_.of hb va_) (ke_ g_) (by simp;omega) fun k14 hk14=>?_);rw [e1]
 iterate 2 refine s_ ?_
 refine st_ ?_
 refine aa_ ?_
 refine rr_ ?_
 iterate 4 refine s_ ?_
 refine aa_ ?_
 refine ac_ ?_
 refine aE_ v_ (Store.Wk.refl _) ?_
 exact ⟨k14,rfl,hk14,by rw [Store.newTok_set,Store.set_set]⟩
theorem wSB {o:Nat} {s:ByteArray} {l:List UInt8} {σ:Store} (ho:WRb σ o l) (hl:l.length≤1099511627776) (hs:s.size≤1099511627776) :
  ACalls Tryz.prog 387 [.ref o 0,vStr s] σ fun v σ'=>v=.tup [vInt s.size,.lit .nilIface]∧WRb σ' o (l ++ Lb s)∧WF o σ σ':=by
 obtain ⟨a,b,old,h1,h2,h3⟩:=ho
 refine (ph_ h1 h2 h3 hl hs).mono fun v σ' ⟨k,hv,hk,hs'⟩=>⟨hv,?_,?_⟩
 ·rw [hs']
  exact ⟨_,_,some k,Store.set_get ..,.inl rfl,.inl ⟨k,rfl,by rw [Store.set_tok];exact Store.newTok_get ..,rfl⟩⟩
 ·rw [hs']
  exact WF.put h1 h3 hk
theorem ux_ {o n:Nat} {σ:Store} (ho:σ.heap o=some (.cells [.nilp o 329 2,.lit (.slice none 0 0)])) (hn:n≤1000000000000):ACalls Tryz.prog 386 [.ref o 0,vInt n] σ fun v σ'=>v=.tup []∧WRb σ' o []∧WF o σ σ':=by
 have hw0:WF o σ (σ.set o (.cells [.ref o 0,.lit (.slice none 0 0)])):=⟨fun i x hi hx=>by rw [Store.set_ne _ _ hi];exact hx,fun t m ht hn=>⟨ht,fun ⟨a',sz2,l2,hh⟩=>by rw [Store.set_get] at hh;simp at hh⟩⟩
 refine en_ Tryz.func386 Tryz.ntmps386 Tryz.results386 ?_
 refine rr_ ?_
 refine s_ ?_
 refine x_ g_ va_ (kj_ ho) ?_;rintro _ _ ⟨rfl,rfl⟩
 refine aa_ ?_
 refine ab_ ?_
 refine rr_ ?_
 iterate 2 refine s_ ?_
 refine aa_ ?_
 refine cd_ (fun hc1=>?_) (fun hc1=>?_)
 ·omega
 ·refine ae_ ?_
  refine ab_ ?_
  refine aL_ (.op 0 0 (.op 1 0 (.op 2 0 (.op 3 0 (.op 5 0 (.op 6 0 (.op 7 0 (.op 8 0 (.op 9 0 (.op 11 0 (.op 4 1 (.op 10 0 (.op 12 0 .nil))))))))))))) Tryz.mixed kr_ ?_
  iterate 10 refine ds_ ?_
  refine dR_X o_ (by rfl) (by rfl) (ck_ (by rfl) g_ va_ ⟨sub_,?_⟩)
  iterate 2 refine ds_ ?_
  refine aG_ ?_
  refine cd_ (fun hc3=>?_) (fun hc3=>?_)
  ·refine r_ ?_
   iterate 2 refine s_ ?_
   refine x_ g_ va_ (mO_ (Store.set_get ..) hn) ?_;rintro _ _ ⟨k,rfl,hk,rfl⟩
   refine aa_ ?_
   refine aD_ v_ (Store.Wk.refl _) ?_
   refine ⟨rfl,⟨_,_,some k,Store.set_get ..,.inl rfl,.inl ⟨k,rfl,by rw [Store.set_tok];exact Store.newTok_get ..,rfl⟩⟩,hw0.trans (WF.put (e:=5) (sz:=1) (Store.set_get ..) (.inr ⟨rfl,rfl,rfl⟩) hk)⟩
  ·refine ae_ ?_
   refine aD_ v_ (Store.Wk.refl _) ?_
   exact ⟨rfl,⟨_,_,none,Store.set_get ..,.inl rfl,.inr ⟨rfl,rfl,rfl⟩⟩,hw0⟩
theorem pA_ {o:Nat} {l:List UInt8} {σ:Store} (ho:WRb σ o l) (hl:l.length≤1000000000000):ACalls Tryz.prog 385 [.ref o 0] σ fun v σ'=>v=vStr (B l)∧WF o σ σ':=by
 obtain ⟨a,b,old,hw,ha,hb⟩:=ho
 rcases hb with ⟨k,rfl,hk,_⟩ | ⟨rfl,hl0,_⟩
 ·exact is_ hw hk (by rw [bI_];omega)
 ·have:l=[]:=by
   have:=congrArg List.length hl0
   rw [aF_,bI_] at this
   exact List.eq_nil_of_length_eq_zero this
  subst this
  exact (id_ hw).mono fun v σ' ⟨hv,hs'⟩=>⟨hv,by rw [← hs'];exact WF.refl⟩
theorem iK_ {L:List ByteArray} {k:Nat} {x:ByteArray} (h:L[k]?=some x):(L.take (k + 1)).flatMap (fun s=>47 :: Lb s)=(L.take k).flatMap (fun s=>47 :: Lb s) ++ 47 :: Lb x:=by
 rw [bE_ h];simp
theorem nj_ (L:List ByteArray) (k:Nat):((L.take k).flatMap fun s=>47 :: Lb s).length≤(L.flatMap fun s=>47 :: Lb s).length:=by
 conv=>rhs;rw [← List.take_append_drop k L]
 rw [List.flatMap_append,List.length_append];omega
theorem uP_ (L:List ByteArray):(L.flatMap fun s=>47 :: Lb s).length=L.length + (L.flatMap Lb).length:=by
 induction L with
 |nil=>rfl
 |cons a L ih=>rw [List.flatMap_cons,List.flatMap_cons,List.length_append,List.length_append,List.length_cons,List.length_cons,ih];omega
set_option maxHeartbeats 2000000 in
theorem sF_ {L:List ByteArray} {t:Bool} {σ:Store} (hL:L.length≤1000000) (hT:(L.flatMap Lb).length≤1000000):ACalls Tryz.prog 242 [.sl 1 (L.map vStr) t,vStr ⟨#[47]⟩] σ fun v σ'=>v=vStr (qo_ L)∧σ=σ':=by
 have hz:(ByteArray.mk #[47]).size=1:=rfl
 have hz0:(ByteArray.mk #[]).size=0:=rfl
 refine en_ Tryz.func242 Tryz.ntmps242 Tryz.results242 ?_
 refine rr_ ?_
 refine s_ ?_
 refine aa_ ?_
 refine ab_ ?_
 refine rr_ ?_
 iterate 2 refine s_ ?_
 refine aa_ ?_
 refine ah_ ?_
 refine rr_ ?_
 iterate 2 refine s_ ?_
 refine aa_ ?_
 refine cd_ (fun hc2=>?_) (fun hc2=>?_)
 ·refine rr_ ?_
  refine s_ ?_
  refine aa_ ?_
  refine ac_ ?_
  refine er_ σ ?_
  obtain rfl:L=[]:=List.eq_nil_of_length_eq_zero (by omega)
  exact ⟨rfl,rfl⟩
 ·refine rr_ ?_
  iterate 2 refine s_ ?_
  refine aa_ ?_
  refine cd_ (fun hc4=>?_) (fun hc4=>?_)
  ·refine ab_ ?_
   obtain ⟨x,rfl⟩:∃ x,L=[x]:=List.length_eq_one_iff.1 (by omega)
   refine r_ ?_
   iterate 4 refine s_ ?_
   refine aa_ ?_
   refine ac_ ?_
   refine er_ σ ?_
   exact ⟨by rw [qo_,tb_,List.flatMap_nil,List.append_nil,B_Lb],rfl⟩
  ·refine ae_ ?_
   refine rr_ ?_
   refine s_ ?_
   refine aa_ ?_
   refine ab_ ?_
   refine ab_ ?_
   have R:=hz
   refine r_ ?_
   iterate 3 refine s_ ?_
   refine aa_ ?_
   refine cd_ (fun hc7=>?_) (fun hc7=>?_)
   ·refine ab_ ?_
    refine ab_ ?_
    skip
    obtain ⟨q,hq,hq1⟩:∃ q:Int,IntKind.i64.wrap (Int.tdiv 9223372036854775807 ((L.length:Int) - 1))=q∧1 < q:=by
     refine ⟨_,rfl,?_⟩
     have h1:2≤9223372036854775807 / ((L.length:Int) - 1):=Int.le_ediv_of_mul_le (by omega) (by omega)
     have h2:9223372036854775807 / ((L.length:Int) - 1)≤9223372036854775807:=Int.ediv_le_self _ (by decide)
     rw [Int.tdiv_eq_ediv_of_nonneg (by decide),Go.Ab.wrap_i64 _ (by omega) h2];omega
    have R:=And.intro hz (And.intro @pr_ hq)
    refine r_ ?_
    iterate 7 refine s_ ?_
    refine aa_ ?_
    refine cd_ (fun hc8=>?_) (fun hc8=>?_)
    ·omega
    ·refine ae_ ?_
     have R:=hz
     refine r_ ?_
     iterate 9 refine s_ ?_
     refine aa_ ?_
     refine ab_ ?_
     refine rr_ ?_
     iterate 3 refine s_ ?_
     refine aa_ ?_
     refine ah_ ?_
     refine ak_ (ι:=Int × Nat) (fun ⟨n,k⟩=>L.length - k) (fun ⟨n,k⟩=>k≤L.length∧n=(L.length:Int) - 1 + ((L.take k).flatMap Lb).length) (fun ⟨n,k⟩=>[(0,.sl 1 (L.map vStr) t),(1,vStr ⟨#[47]⟩),(5,vInt n),(39,.sl 1 (L.map vStr) t),(40,vInt L.length),(41,vInt k)]) (fun ⟨n,k⟩=>σ) (0 + ((1:Nat):Int) * ((L.length:Int) - 1),0) ?_ ?_ ?_ ?_
     ·exact ⟨Nat.zero_le _,by simp⟩
     ·exact cv_
     ·exact sub_
     rintro ⟨n,k⟩ ⟨hk,hn⟩
     simp only [ar_,av_]
     refine rr_ ?_
     refine s_ ?_
     refine aa_ ?_
     refine ab_ ?_
     refine cd_ (fun hc12=>?_) (fun hc12=>?_)
     ·refine ae_ ?_
      refine ab_ ?_
      refine ah_ ?_
      refine ab_ ?_
      obtain ⟨x,hx⟩:=a0_ (l:=L) (k:=k) (by omega)
      have hle:=aS_ (f:=Lb) L k
      have hle1:=aS_ (f:=Lb) L (k + 1)
      have hcv:n + x.size=(L.length:Int) - 1 + ((L.take (k + 1)).flatMap Lb).length:=by rw [dV_ hx,List.length_append,aX_];omega
      have hxs:x.size≤1000000000:=by rw [dV_ hx,List.length_append,aX_] at hle1;omega
      have R:=hx
      refine r_ ?_
      iterate 3 refine s_ ?_
      refine aa_ ?_
      refine ab_ ?_
      refine rr_ ?_
      iterate 5 refine s_ ?_
      refine aa_ ?_
      refine cd_ (fun hc14=>?_) (fun hc14=>?_)
      ·omega
      ·refine ae_ ?_
       refine r_ ?_
       iterate 5 refine s_ ?_
       refine aa_ ?_
       refine r_ ?_
       iterate 2 refine s_ ?_
       refine aa_ ?_
       refine bb_ (ι:=Int × Nat) (i:=⟨n,k⟩) (n + x.size,k + 1) ?_ ?_ ?_ ?_
       ·show L.length - (k + 1) < L.length - k;omega
       ·exact ⟨by show k + 1≤L.length;omega,hcv⟩
       ·exact cv_
       ·exact sub_
     ·refine ay_ ?_
      refine af_ ?_
      refine af_ ?_
      refine aq_ ?_
      refine ab_ ?_
      obtain rfl:k=L.length:=by omega
      rw [List.take_length] at *
      obtain ⟨x0,L',rfl⟩:∃ x0 L',L=x0 :: L':=by
       cases L with
       |nil=>simp at hc2
       |cons a l=>exact ⟨a,l,rfl⟩
      obtain ⟨m,hm⟩:∃ m:Nat,n=m:=⟨n.toNat,by rw [List.length_cons] at hn;omega⟩
      subst hm
      have hfl:=uP_ L'
      have hL2:L'.length≤1000000:=by rw [List.length_cons] at hL;omega
      have htk:(L'.map vStr).take L'.length=L'.map vStr:=List.take_of_length_le (by rw [List.length_map];omega)
      have hx0:(Lb x0).length≤1000000:=by rw [List.flatMap_cons,List.length_append] at hT;omega
      have hx0':x0.size≤1000000:=by rw [← aX_];exact hx0
      have hT':(L'.flatMap Lb).length + x0.size≤1000000:=by rw [List.flatMap_cons,List.length_append,aX_] at hT;omega
      refine r_ ?_
      refine aL_X rfl rfl (AOp_allocP (t:=329) (z:=.agg #[.pointer none,.slice none 0 0]) (r:=[.slice none 0 0]) rfl kr_ (by rfl) fun o8 ho8=>?_)
      refine aa_ ?_
      refine rr_ ?_
      refine s_ ?_
      refine x_ g_ va_ (ux_ (Store.set_get ..) (by omega)) ?_;rintro _ τ1 ⟨rfl,a1,a2⟩
      refine aa_ ?_
      refine rr_ ?_
      iterate 3 refine s_ ?_
      refine x_ g_ va_ (wSB a1 (by simp) (by omega)) ?_;rintro _ τ2 ⟨rfl,b1,b2⟩
      refine aa_ ?_
      refine ab_ ?_
      refine ab_ ?_
      have R:=htk
      refine r_ ?_
      iterate 4 refine s_ ?_
      refine aa_ ?_
      refine ah_ ?_
      refine ak_ (ι:=Store × Nat) (fun ⟨τ,k⟩=>L'.length - k) (fun ⟨τ,k⟩=>k≤L'.length∧WRb τ o8 (Lb x0 ++ (L'.take k).flatMap fun s=>47 :: Lb s)∧WF o8 (σ.set o8 (.cells [.nilp o8 329 2,.lit (.slice none 0 0)])) τ) (fun ⟨τ,k⟩=>[(1,vStr ⟨#[47]⟩),(8,.ref o8 0),(63,.sl 1 (L'.map vStr) false),(64,vInt L'.length),(65,vInt k)]) (fun ⟨τ,k⟩=>τ) (τ2,0) ?_ ?_ ?_ ?_
      ·exact ⟨Nat.zero_le _,by simpa using b1,a2.trans b2⟩
      ·exact cv_
      ·exact Store.Wk.refl _
      rintro ⟨τ,k⟩ ⟨hk,h1,h2⟩
      simp only [ar_,av_]
      refine rr_ ?_
      refine s_ ?_
      refine aa_ ?_
      refine ab_ ?_
      refine cd_ (fun hc22=>?_) (fun hc22=>?_)
      ·refine ae_ ?_
       refine ab_ ?_
       refine ah_ ?_
       refine ab_ ?_
       obtain ⟨x,hx⟩:=a0_ (l:=L') (k:=k) (by omega)
       have hle:=nj_ L' k
       have hle1:=nj_ L' (k + 1)
       have hxs:x.size≤1000000000:=by rw [iK_ hx,List.length_append,List.length_cons,aX_] at hle1;omega
       have hlx:=aX_ x0
       have R:=hx
       refine r_ ?_
       iterate 3 refine s_ ?_
       refine aa_ ?_
       refine rr_ ?_
       refine s_ ?_
       refine x_ g_ va_ (wSB h1 (by rw [List.length_append];omega) (by decide)) ?_;rintro _ τ3 ⟨rfl,c1,c2⟩
       refine aa_ ?_
       refine r_ ?_
       refine s_ ?_
       refine x_ g_ va_ (wSB c1 (by rw [List.length_append,List.length_append,show (Lb ⟨#[47]⟩).length=1 from rfl];omega) (by omega)) ?_;rintro _ τ4 ⟨rfl,d1,d2⟩
       refine aa_ ?_
       refine r_ ?_
       iterate 2 refine s_ ?_
       refine aa_ ?_
       refine bb_ (ι:=Store × Nat) (i:=⟨τ,k⟩) (τ4,k + 1) ?_ ?_ ?_ ?_
       ·show L'.length - (k + 1) < L'.length - k;omega
       ·exact ⟨by show k + 1≤L'.length;omega,by rw [iK_ hx];simpa [List.append_assoc,Lb] using d1,h2.trans (c2.trans d2)⟩
       ·exact cv_
       ·exact Store.Wk.refl _
      ·refine ay_ ?_
       refine af_ ?_
       refine af_ ?_
       refine aq_ ?_
       refine ab_ ?_
       obtain rfl:k=L'.length:=by omega
       rw [List.take_length] at h1
       have hlx:=aX_ x0
       refine r_ ?_
       refine x_ g_ va_ (pA_ h1 (by rw [List.length_append];omega)) ?_;rintro _ τ5 ⟨rfl,e2⟩
       refine s_ ?_
       refine aa_ ?_
       refine ac_ ?_
       have hW:=WF.sub (x:=.cells [.nilp o8 329 2,.lit (.slice none 0 0)]) ho8 (h2.trans e2) (fun a t sz l hh=>by simp at hh)
       exact aE_ (σ':=σ) va_ (Store.Sub.wk hW) ⟨rfl,rfl⟩
   ·simp at hc7
end Go.Proofs.YtkjfpgjpeofndaaGreatDoor
end

section
set_option linter.all false
set_option maxRecDepth 100000
namespace Go.Proofs.YtkjfpgjpeofndaaGreatDoor.SpN
open Go.Ab
abbrev v47:AVal:=vStr ⟨#[47]⟩
def idx47 (l:List UInt8):Int:=Lib.indexByte l 47
theorem sB_ {κ:K} {α:Operand→AVal} {x y:Operand} {ev:Operand→Value} {s:ByteArray} (hx:α x=vStr s) (hy:α y=.lit (.int .u8 47)) (h:∀ z∈#[x,y],Rv κ (α z) (ev z)):∃ cv,(Extern.BytealgIndexByte.indexByte (#[x,y].map ev)).run Tryz.prog κ.w=.ok cv κ.w∧Rv κ (vInt (idx47 (Lb s))) cv:=by
 have h1:=h x (by simp);have h2:=h y (by simp)
 rw [hx] at h1
 rw [hy] at h2
 refine ⟨_,?_,.lit _⟩
 rw [show #[x,y].map ev=#[ev x,ev y] from by simp,h1.litInv,h2.litInv]
 exact Lib.run_indexByteString s 47 κ.w
theorem nk_ (ss:List ByteArray):flat (ss.map vStr)=ss.map vStr:=hR_ fun x hx=>by
 obtain ⟨s,_,rfl⟩:=List.mem_map.1 hx
 rfl
theorem indexByte_c {s:ByteArray} {σ:Store}:ACalls Tryz.prog 518 [vStr s,.lit (.int .u8 47)] σ fun v σ'=>v=vInt (idx47 (Lb s))∧σ=σ':=by
 refine en_ Tryz.func518 Tryz.ntmps518 Tryz.results518 ?_
 refine rr_ ?_
 refine s_ ?_
 refine aa_ ?_
 refine rr_ ?_
 iterate 2 refine s_ ?_
 refine aL_X rfl rfl (AOp_extern rfl (e:=Extern.BytealgIndexByte.indexByte) kr_ g_ (fun κ ev _ h=>sB_ (s:=s) va_ va_ h) ?_)
 refine s_ ?_
 refine aa_ ?_
 refine ac_ ?_
 refine er_ σ ?_
 exact ⟨rfl,rfl⟩
theorem eZ_ {s:ByteArray} {σ:Store}:ACalls Tryz.prog 403 [vStr s,v47] σ fun v σ'=>v=vInt (idx47 (Lb s))∧σ=σ':=by
 have hz:(ByteArray.mk #[47]).size=1:=rfl
 have hb:(ByteArray.mk #[47])[0]?=some 47:=rfl
 refine en_ Tryz.func403 Tryz.ntmps403 Tryz.results403 ?_
 refine rr_ ?_
 refine s_ ?_
 refine aa_ ?_
 refine ab_ ?_
 have R:=hz
 refine r_ ?_
 iterate 3 refine s_ ?_
 refine aa_ ?_
 refine ab_ ?_
 refine ah_ ?_
 refine rr_ ?_
 iterate 3 refine s_ ?_
 refine gf_ ?_
 refine gf_ ?_
 refine gf_ ?_
 iterate 2 refine s_ ?_
 refine aa_ ?_
 refine cd_ (fun hc2=>?_) (fun hc2=>?_)
 ·refine rr_ ?_
  refine s_ ?_
  refine aa_ ?_
  refine ac_ ?_
  refine er_ σ ?_
  refine ⟨?_,rfl⟩
  have h1:(ByteArray.mk #[47])=s:=by simpa using hc2
  rw [← h1];rfl
 ·refine rr_ ?_
  iterate 3 refine s_ ?_
  refine aa_ ?_
  refine cd_ (fun hc4=>?_) (fun hc4=>?_)
  ·refine ab_ ?_
   have R:=And.intro hb hz
   refine r_ ?_
   iterate 3 refine s_ ?_
   refine x_ g_ va_ (indexByte_c) ?_;rintro _ _ ⟨rfl,rfl⟩
   refine s_ ?_
   refine aa_ ?_
   refine ac_ ?_
   refine er_ σ ?_
   exact ⟨rfl,rfl⟩
  ·simp at hc4
theorem qJ_ {s:ByteArray} {σ:Store}:ACalls Tryz.prog 590 [vStr s,v47] σ fun v σ'=>v=vInt (idx47 (Lb s))∧σ=σ':=by
 refine en_ Tryz.func590 Tryz.ntmps590 Tryz.results590 ?_
 refine rr_ ?_
 refine s_ ?_
 refine aa_ ?_
 refine rr_ ?_
 iterate 2 refine s_ ?_
 refine x_ g_ va_ (eZ_) ?_;rintro _ _ ⟨rfl,rfl⟩
 refine s_ ?_
 refine aa_ ?_
 refine ac_ ?_
 refine er_ σ ?_
 exact ⟨rfl,rfl⟩
theorem wY_ {κ:K} {α:Operand→AVal} {x y:Operand} {ev:Operand→Value} {s:ByteArray} (hx:α x=vStr s) (hy:α y=.lit (.int .u8 47)) (h:∀ z∈#[x,y],Rv κ (α z) (ev z)):∃ cv,(Extern.BytealgCount.count (#[x,y].map ev)).run Tryz.prog κ.w=.ok cv κ.w∧Rv κ (vInt ((Lb s).count 47)) cv:=by
 have h1:=h x (by simp);have h2:=h y (by simp)
 rw [hx] at h1
 rw [hy] at h2
 refine ⟨_,?_,.lit _⟩
 rw [show #[x,y].map ev=#[ev x,ev y] from by simp,h1.litInv,h2.litInv]
 exact Lib.run_countString s 47 κ.w
theorem sf_ {s:ByteArray} {σ:Store}:ACalls Tryz.prog 589 [vStr s,v47] σ fun v σ'=>v=vInt ((Lb s).count 47)∧σ=σ':=by
 have hz:(ByteArray.mk #[47]).size=1:=rfl
 have hb:(ByteArray.mk #[47])[0]?=some 47:=rfl
 refine en_ Tryz.func589 Tryz.ntmps589 Tryz.results589 ?_
 refine rr_ ?_
 refine s_ ?_
 refine aa_ ?_
 refine ab_ ?_
 refine ab_ ?_
 have R:=hz
 refine r_ ?_
 iterate 3 refine s_ ?_
 refine aa_ ?_
 refine cd_ (fun hc1=>?_) (fun hc1=>?_)
 ·simp at hc1
 ·refine ae_ ?_
  refine ab_ ?_
  refine ab_ ?_
  have R:=hz
  refine r_ ?_
  iterate 3 refine s_ ?_
  refine aa_ ?_
  refine cd_ (fun hc3=>?_) (fun hc3=>?_)
  ·refine ab_ ?_
   have R:=hb
   refine r_ ?_
   iterate 3 refine s_ ?_
   refine aL_X rfl rfl (AOp_extern rfl (e:=Extern.BytealgCount.count) kr_ g_ (fun κ ev _ h=>wY_ (s:=s) va_ va_ h) ?_)
   refine s_ ?_
   refine aa_ ?_
   refine ac_ ?_
   refine er_ σ ?_
   exact ⟨rfl,rfl⟩
  ·simp at hc3
structure Pc (s:ByteArray) (N:Nat) (done:List ByteArray) (r:ByteArray):Prop where
 sp:(b1_ (Lb s)).map B=done ++ (b1_ (Lb r)).map B
 n:N=done.length + (Lb r).count 47 + 1
 sz:r.size≤s.size
theorem ri_ {l:List UInt8}:(idx47 l=-1→b1_ l=[l]∧l.count 47=0)∧∀ i:Nat,idx47 l=i→b1_ l=l.take i :: b1_ (l.drop (i + 1))∧l.count 47=(l.drop (i + 1)).count 47 + 1∧i < l.length:=by
 refine ⟨fun h=>?_,fun i h=>?_⟩
 ·have hn:=Lib.indexByte_none h
  have hall:∀ c∈l,c≠47:=fun c hc e=>by
   obtain ⟨k,hk⟩:=List.mem_iff_getElem?.1 hc
   exact hn k (by rw [hk,e])
  exact ⟨eo_ hall,List.count_eq_zero.2 fun hm=>hall 47 hm rfl⟩
 ·obtain ⟨g1,g2⟩:=Lib.indexByte_some h
  have hlt:=(List.getElem?_eq_some_iff.1 g1).1
  have el:l=l.take i ++ 47 :: l.drop (i + 1):=by
   rw [← (List.getElem?_eq_some_iff.1 g1).2,List.getElem_cons_drop hlt,List.take_append_drop]
  have hno:∀ c∈l.take i,c≠47:=fun c hc e=>by
   obtain ⟨k,hk⟩:=List.mem_iff_getElem?.1 hc
   have hk1:=(List.getElem?_eq_some_iff.1 hk).1
   rw [List.length_take] at hk1
   rw [List.getElem?_take_of_lt (by omega)] at hk
   exact g2 k (by omega) (by rw [hk,e])
  refine ⟨?_,?_,hlt⟩
  ·conv=>lhs;rw [el]
   exact jf_ hno
  ·conv=>lhs;rw [el]
   rw [List.count_append,List.count_cons_self,List.count_eq_zero.2 fun hm=>hno 47 hm rfl];omega
theorem Pc.step {s r:ByteArray} {N i:Nat} {done:List ByteArray} (h:Pc s N done r) (hi:idx47 (Lb r)=i):Pc s N (done ++ [r.extract 0 i]) (r.extract (i + 1) r.size)∧i < r.size:=by
 obtain ⟨c1,c2,c3⟩:=ri_.2 i hi
 have e1:Lb (r.extract 0 i)=(Lb r).take i:=by rw [ez_,Lb_B,List.drop_zero]
 have e2:Lb (r.extract (i + 1) r.size)=(Lb r).drop (i + 1):=by rw [ez_,Lb_B,← aX_,List.take_length]
 refine ⟨⟨?_,?_,?_⟩,by rw [← aX_];exact c3⟩
 ·rw [h.sp,c1,e2,List.map_cons,← e1,B_Lb];simp
 ·rw [h.n,c2,e2];simp;omega
 ·have:=h.sz;simp only [ByteArray.size_extract];omega
theorem kK_ {done:List ByteArray} {N:Nat} {x:ByteArray} (h:done.length < N):aput (done.map vStr ++ List.replicate (N - done.length) (vStr ⟨#[]⟩)) done.length [vStr x]=(done ++ [x]).map vStr ++ List.replicate (N - (done ++ [x]).length) (vStr ⟨#[]⟩):=by
 unfold aput
 rw [List.take_left' (by simp),List.drop_append,List.drop_of_length_le (by simp),List.nil_append]
 simp only [List.length_map,List.length_singleton,List.drop_replicate,List.map_append,List.map_cons,List.map_nil,List.length_append,List.append_assoc]
 congr 3
 omega
theorem aftN {P:Program} {σ:Store} {f:FuncId} {args:List AVal} {Q1 Q2:AVal→Store→Prop} (h:ACalls P f args σ Q1)
  (hk:∀ (κ:K) a σ' cv,Inv κ σ'→Rv κ a cv→Q1 a σ'→∃ κ' a' σ'',κ'.w=κ.w∧κ.Le κ'∧Inv κ' σ''∧Rv κ' a' cv∧Q2 a' σ''):ACalls P f args σ Q2 :=
 fun κ vs hI hn hv=>(h κ vs hI hn hv).mono fun e w' ⟨cv,he,κ1,a,σ',h1,h2,h3,h4,h5⟩=>by
  obtain ⟨κ2,a',σ'',g1,g2,g3,g4,g5⟩:=hk κ1 a σ' cv h3 h4 h5
  exact ⟨cv,he,κ2,a',σ'',g1.trans h1,h2.trans g2,g3,g4,g5⟩
theorem lT_ {s:ByteArray} {σ:Store} (hs:s.size≤1000000):ACalls Tryz.prog 526 [vStr s,v47,vInt 0,vInt (-1)] σ fun v σ'=>∃ o,σ.heap o=none∧v=.msl o 1 0 ((b1_ (Lb s)).map B).length∧σ'=σ.set o (.cells (((b1_ (Lb s)).map B).map vStr)):=by
 have hz:(ByteArray.mk #[47]).size=1:=rfl
 have hne:¬ (ByteArray.mk #[47])=⟨#[]⟩:=by decide
 have hcn:(Lb s).count 47≤s.size:=by rw [← aX_];exact List.count_le_length ..
 obtain ⟨N,hN⟩:∃ N,(Lb s).count 47 + 1=N:=⟨_,rfl⟩
 refine en_ Tryz.func526 Tryz.ntmps526 Tryz.results526 ?_
 refine rr_ ?_
 refine s_ ?_
 refine aa_ ?_
 refine ab_ ?_
 refine rr_ ?_
 iterate 2 refine s_ ?_
 refine aa_ ?_
 refine cd_ (fun hc1=>?_) (fun hc1=>?_)
 ·simp at hc1
 ·refine ae_ ?_
  refine ab_ ?_
  refine rr_ ?_
  iterate 2 refine s_ ?_
  refine aa_ ?_
  refine cd_ (fun hc3=>?_) (fun hc3=>?_)
  ·exact absurd hc3 hne
  ·refine ae_ ?_
   refine ab_ ?_
   refine rr_ ?_
   iterate 2 refine s_ ?_
   refine aa_ ?_
   refine cd_ (fun hc5=>?_) (fun hc5=>?_)
   ·refine r_ ?_
    iterate 2 refine s_ ?_
    refine x_ g_ va_ (sf_) ?_;rintro _ _ ⟨rfl,rfl⟩
    iterate 2 refine s_ ?_
    refine aa_ ?_
    refine ab_ ?_
    have hmin:min (((Lb s).count 47:Int) + 1) ((s.size:Int) + 1)=N:=by omega
    have R:=hmin
    refine r_ ?_
    iterate 6 refine s_ ?_
    refine aa_ ?_
    refine rr_ ?_
    refine s_ ?_
    refine aL_X rfl rfl (AOp_makeSlice rfl g_ g_ g_ rfl v_ v_ (by omega) fun oa hoa=>?_)
    refine s_ ?_
    refine aa_ ?_
    refine rr_ ?_
    iterate 3 refine s_ ?_
    refine aa_ ?_
    refine rr_ ?_
    refine s_ ?_
    refine aa_ ?_
    refine ab_ ?_
    refine ah_ ?_
    refine ak_ (ι:=List ByteArray × ByteArray) (fun ⟨done,r⟩=>N - done.length) (fun ⟨done,r⟩=>Pc s N done r) (fun ⟨done,r⟩=>[(0,vStr r),(1,v47),(2,vInt 0),(3,vInt ((N:Int) - 1)),(9,.msl oa 1 0 N),(10,vInt done.length)]) (fun ⟨done,r⟩=>(σ.set oa (.cells (done.map vStr ++ List.replicate (N - done.length) (vStr ⟨#[]⟩))))) ([],s) ?_ ?_ ?_ ?_
    ·exact ⟨rfl,by rw [← hN];simp,Nat.le_refl _⟩
    ·exact cv_
    ·exact Store.Wk.refl _
    rintro ⟨done,r⟩ hP
    simp only [ar_,av_]
    refine ab_ ?_
    refine rr_ ?_
    iterate 3 refine s_ ?_
    refine aa_ ?_
    refine cd_ (fun hc11=>?_) (fun hc11=>?_)
    ·refine ae_ ?_
     refine ah_ ?_
     refine rr_ ?_
     iterate 2 refine s_ ?_
     refine x_ g_ va_ (qJ_) ?_;rintro _ _ ⟨rfl,rfl⟩
     refine s_ ?_
     refine aa_ ?_
     refine ab_ ?_
     refine ab_ ?_
     have hge:=Lib.indexByte_ge (Lb r) 47
     refine r_ ?_
     iterate 2 refine s_ ?_
     refine aa_ ?_
     refine cd_ (fun hc13=>?_) (fun hc13=>?_)
     ·have h1:=(ri_.1 (show idx47 (Lb r)=-1 by unfold idx47 at *;omega)).2;have h2:=hP.n;omega
     ·obtain ⟨i,hi⟩:∃ i:Nat,idx47 (Lb r)=i:=⟨(idx47 (Lb r)).toNat,by omega⟩
      obtain ⟨hPs,hir⟩:=hP.step hi
      have hrs:=hP.sz
      have hdn:done.length < N:=by have:=hP.n;omega
      have hls:=kK_ (x:=r.extract 0 i) hdn
      have hln:(((done ++ [r.extract 0 i]).length:Nat):Int)=(done.length:Int) + 1:=by rw [List.length_append,List.length_singleton];rfl
      rw [hi]
      refine ae_ ?_
      refine ab_ ?_
      have R:=hls
      refine r_ ?_
      iterate 8 refine s_ ?_
      refine hz_ rfl rfl rfl v_ v_ h_ g_ rfl g_ c_ (by rfl) le_ (by first | exact hls | (rw [Nat.mul_one];exact hls) | (rw [Nat.zero_add];exact hls) | (rw [Nat.mul_one,Nat.zero_add];exact hls)) ?_
      refine aa_ ?_
      refine ab_ ?_
      have htn:((i:Int) + ((1:Nat):Int)).toNat=i + 1:=by omega
      have R:=And.intro hz htn
      refine r_ ?_
      iterate 7 refine s_ ?_
      refine aa_ ?_
      refine r_ ?_
      iterate 3 refine s_ ?_
      refine aa_ ?_
      refine bb_ (ι:=List ByteArray × ByteArray) (i:=⟨done,r⟩) (done ++ [r.extract 0 i],r.extract (i + 1) r.size) ?_ ?_ ?_ ?_
      ·show N - (done ++ [r.extract 0 i]).length < N - done.length;rw [List.length_append,List.length_singleton];omega
      ·exact hPs
      ·have R:=hln;exact cv_
      ·(try dsimp only);rw [Store.set_set];exact Store.Wk.refl _
    ·refine ay_ ?_
     refine af_ ?_
     refine af_ ?_
     refine aq_ ?_
     refine ab_ ?_
     have hdn:done.length + 1=N:=by have:=hP.n;omega
     have hc0:(Lb r).count 47=0:=by have:=hP.n;omega
     have hls:=kK_ (x:=r) (show done.length < N by omega)
     refine r_ ?_
     iterate 4 refine s_ ?_
     refine hz_ rfl rfl rfl v_ v_ h_ g_ rfl g_ c_ (by rfl) le_ (by first | exact hls | (rw [Nat.mul_one];exact hls) | (rw [Nat.zero_add];exact hls) | (rw [Nat.mul_one,Nat.zero_add];exact hls)) ?_
     refine aa_ ?_
     refine ab_ ?_
     have hend:(b1_ (Lb s)).map B=done ++ [r]:=by
      rw [hP.sp,eo_ fun c hc e=>List.count_eq_zero.1 hc0 (e ▸ hc),List.map_singleton,B_Lb]
     have hsl:N - (done ++ [r]).length=0:=by rw [List.length_append,List.length_singleton];omega
     refine r_ ?_
     iterate 5 refine s_ ?_
     refine aa_ ?_
     refine ac_ ?_
     refine aE_ v_ (Store.Wk.refl _) ?_
     exact ⟨oa,hoa,by rw [hend,List.length_append,List.length_singleton];congr 1,by rw [hend,Store.set_set,hsl];simp⟩
   ·simp at hc5
theorem split47_c {s:ByteArray} {σ:Store} (hs:s.size≤1000000):ACalls Tryz.prog 412 [vStr s,v47] σ fun v σ'=>v=.sl 1 (((b1_ (Lb s)).map B).map vStr) false∧σ=σ':=by
 have key:ACalls Tryz.prog 526 [vStr s,v47,vInt 0,vInt (-1)] σ fun v σ'=>v=.sl 1 (((b1_ (Lb s)).map B).map vStr) false∧σ=σ':=by
  refine aftN (lT_ hs) ?_
  rintro κ a τ cv hI hr ⟨o,ho,rfl,rfl⟩
  obtain ⟨κ',h1,h2,h3,h4⟩:=Ab.freeze hI hr (Store.set_get ..) (l:=((b1_ (Lb s)).map B).map vStr) (by rw [Nat.mul_one,List.take_of_length_le (by simp),nk_]) (by simp) fun x hx=>by
   obtain ⟨z,_,rfl⟩:=List.mem_map.1 hx
   rfl
  rw [Store.set_del ho] at h3
  exact ⟨κ',_,_,h1,h2,h3,h4,rfl,rfl⟩
 refine en_ Tryz.func412 Tryz.ntmps412 Tryz.results412 ?_
 refine rr_ ?_
 refine s_ ?_
 refine aa_ ?_
 refine rr_ ?_
 iterate 2 refine s_ ?_
 refine x_ g_ va_ (key) ?_;rintro _ _ ⟨rfl,rfl⟩
 refine s_ ?_
 refine aa_ ?_
 refine ac_ ?_
 refine er_ σ ?_
 exact ⟨rfl,rfl⟩
end Go.Proofs.YtkjfpgjpeofndaaGreatDoor.SpN
end

section
set_option linter.all false
set_option maxRecDepth 100000
namespace Go.Proofs.YtkjfpgjpeofndaaGreatDoor
open Go.Ab
end Go.Proofs.YtkjfpgjpeofndaaGreatDoor
end

section
set_option linter.all false
set_option maxRecDepth 100000
namespace Go.Proofs
open Go.Shelf
def hd_:Go.Shelf.Ren:=⟨(fun n=>match n with | 129=>238 | 171=>373 | 243=>495 | 246=>577 | 283=>623 | 284=>624 | 285=>625 | 286=>626 | 317=>649 | 318=>650 | 319=>651 | 320=>652 | 337=>669 | 338=>670 | _=>0),(fun n=>match n with | 0=>0 | 2=>2 | 3=>3 | 4=>4 | 5=>5 | 9=>9 | 20=>20 | 37=>191 | 46=>151 | 51=>323 | 53=>325 | 171=>637 | 173=>639 | 212=>661 | 213=>662 | 232=>680 | 233=>612 | _=>0),(fun n=>match n with | 17=>3 | 18=>6 | 19=>7 | _=>0)⟩
theorem uW_:Lays.n171 Tryz.prog hd_:={
 mixed:=Tryz.mixed
 f129:=by kernel_rfl
 f171:=by kernel_rfl
 f243:=by kernel_rfl
 f246:=by kernel_rfl
 f283:=by kernel_rfl
 f284:=by kernel_rfl
 f285:=by kernel_rfl
 f286:=by kernel_rfl
 f317:=by kernel_rfl
 f318:=by kernel_rfl
 f319:=by kernel_rfl
 f320:=by kernel_rfl
 f337:=by kernel_rfl
 f338:=by kernel_rfl
 t0:=Tryz.underlying0
 a0:=Tryz.isAgg0
 z0:=Tryz.sizeOf0
 v0:=Tryz.zeroValue0
 t2:=Tryz.underlying2
 a2:=Tryz.isAgg2
 z2:=Tryz.sizeOf2
 v2:=Tryz.zeroValue2
 t3:=Tryz.underlying3
 a3:=Tryz.isAgg3
 z3:=Tryz.sizeOf3
 v3:=Tryz.zeroValue3
 t4:=Tryz.underlying4
 a4:=Tryz.isAgg4
 z4:=Tryz.sizeOf4
 v4:=Tryz.zeroValue4
 t5:=Tryz.underlying5
 a5:=Tryz.isAgg5
 z5:=Tryz.sizeOf5
 v5:=Tryz.zeroValue5
 t9:=Tryz.underlying9
 a9:=Tryz.isAgg9
 z9:=Tryz.sizeOf9
 v9:=Tryz.zeroValue9
 t20:=Tryz.underlying20
 a20:=Tryz.isAgg20
 z20:=Tryz.sizeOf20
 v20:=Tryz.zeroValue20
 t37:=Tryz.underlying191
 a37:=Tryz.isAgg191
 z37:=Tryz.sizeOf191
 v37:=Tryz.zeroValue191
 t46:=Tryz.underlying151
 a46:=Tryz.isAgg151
 z46:=Tryz.sizeOf151
 v46:=Tryz.zeroValue151
 t51:=Tryz.underlying323
 a51:=Tryz.isAgg323
 z51:=Tryz.sizeOf323
 v51:=Tryz.zeroValue323
 t53:=Tryz.underlying325
 a53:=Tryz.isAgg325
 z53:=Tryz.sizeOf325
 v53:=Tryz.zeroValue325
 t171:=Tryz.underlying637
 a171:=Tryz.isAgg637
 z171:=Tryz.sizeOf637
 v171:=Tryz.zeroValue637
 t173:=Tryz.underlying639
 a173:=Tryz.isAgg639
 z173:=Tryz.sizeOf639
 v173:=Tryz.zeroValue639
 t212:=Tryz.underlying661
 a212:=Tryz.isAgg661
 z212:=Tryz.sizeOf661
 v212:=Tryz.zeroValue661
 t213:=Tryz.underlying662
 a213:=Tryz.isAgg662
 z213:=Tryz.sizeOf662
 t232:=Tryz.underlying680
 a232:=Tryz.isAgg680
 z232:=Tryz.sizeOf680
 v232:=Tryz.zeroValue680
 t233:=Tryz.underlying612
 a233:=Tryz.isAgg612
 z233:=Tryz.sizeOf612
 v233:=Tryz.zeroValue612
 g17:=by kernel_rfl
 g18:=by kernel_rfl
 g19:=by kernel_rfl }
theorem w9_:LaysM.n171 Tryz.prog hd_:={ uW_ with
 i0:=by kernel_rfl
 i2:=by kernel_rfl
 i3:=by kernel_rfl
 i4:=by kernel_rfl
 i5:=by kernel_rfl
 i9:=by kernel_rfl
 i20:=by kernel_rfl
 i37:=by kernel_rfl
 i46:=by kernel_rfl
 i51:=by kernel_rfl
 i53:=by kernel_rfl
 i171:=by kernel_rfl
 i173:=by kernel_rfl
 i212:=by kernel_rfl
 i232:=by kernel_rfl
 i233:=by kernel_rfl
 m17:=by kernel_rfl
 m18:=by kernel_rfl
 m19:=by kernel_rfl }
end Go.Proofs
namespace Go.Ab
open Go.RowKit (Below)
theorem Inv.grown {κ:K} {σ:Store} (h:Inv κ σ) (k:Nat) (os:Array Obj):κ.Le { κ with w:=Sort.grow (κ.w.drewN k) os }∧Inv { κ with w:=Sort.grow (κ.w.drewN k) os } σ:=by
 have hh:∀ b,b < κ.w.heap.size→(Sort.grow (κ.w.drewN k) os).heap[b]?=κ.w.heap[b]?:=fun b hb=>by
  unfold Sort.grow World.drewN
  exact Array.getElem?_append_left hb
 have hsz:κ.w.heap.size≤(Sort.grow (κ.w.drewN k) os).heap.size:=by
  unfold Sort.grow World.drewN
  simp
 have hle:κ.Le { κ with w:=Sort.grow (κ.w.drewN k) os }:=by
  refine ⟨rfl,⟨rfl,rfl,rfl,hsz,fun b hb=>hh b (by have:=h.base;omega)⟩,fun b s e=>?_,fun _ _ e=>e,fun _ _ e=>e,fun _=>Nat.le_refl _,fun b off v _ e=>?_,by unfold Sort.grow World.drewN;simp,fun _ _=>rfl⟩
  ·have hlt:b < κ.w.heap.size:=by
    unfold World.shape? at e
    cases hq:κ.w.heap[b]? with
    |none=>rw [hq] at e;cases e
    |some q=>exact (Array.getElem?_eq_some_iff.1 hq).1
   unfold World.shape? at e ⊢
   dsimp only
   rw [hh b hlt];exact e
  ·have hlt:b < κ.w.heap.size:=by
    unfold World.cell? at e
    cases hq:κ.w.heap[b]? with
    |none=>rw [hq] at e;cases e
    |some q=>exact (Array.getElem?_eq_some_iff.1 hq).1
   simp only [World.cell?] at e ⊢
   rw [hh b hlt];exact e
 exact ⟨hle,h.quiet hle rfl rfl (fun _ _=>rfl) (fun b hb=>h.frI b (Nat.le_trans hsz hb)) hh⟩
end Go.Ab
namespace Go.Proofs.YtkjfpgjpeofndaaGreatDoor
open Go.Ab Go.Shelf
theorem htab {κ:K} {σ:Store} (h:Inv κ σ):Lib.TabIs Tryz.prog κ.w "internal/strconv.uint64pow10" .u64 Lib.pow10Tab:=by
 obtain ⟨_,_,e,fr,hh,rfl⟩:=h.glob (3,_) (by unfold uQ_;first | exact .head _ | exact .tail _ (.tail _ (.head _)))
 have hg:Tryz.prog.globalNamed "internal/strconv.uint64pow10"=some 3:=by kernel_rfl
 unfold Lib.TabIs World.var?
 rw [hg]
 simp only [Option.bind_some,hh]
 rfl
theorem uX_ {n:Int} {σ:Store} (h0:-9223372036854775808≤n) (h1:n≤9223372036854775807):ACalls Tryz.prog 373 [vInt n] σ fun v σ'=>v=vStr (B (Lib.itoa n))∧σ=σ':=by
 intro κ vs hI hn hv
 have e0:=(hv 0 (by simp)).litInv
 have hvs:vs=#[.int .i64 n]:=by
  apply Array.ext (by simpa using hn)
  intro i i1 i2
  simp at i2
  subst i2
  have eg:vs.getD 0 undef=vs[0]:=by simp [i1]
  rw [← eg,e0];rfl
 rw [hvs]
 refine (Any.strconv_Itoa w9_ n h0 h1 κ.w (htab hI)).mono fun ex w' ⟨he,k,os,hw⟩=>⟨_,he,?_⟩
 obtain ⟨g1,g2⟩:=hI.grown k os
 rw [hw]
 exact ⟨{ κ with w:=Sort.grow (κ.w.drewN k) os },vStr (B (Lib.itoa n)),σ,rfl,g1,g2,.lit _,rfl,rfl⟩
end Go.Proofs.YtkjfpgjpeofndaaGreatDoor
end

section
set_option linter.all false
set_option maxRecDepth 100000
namespace Go.Nb
open Go.Ab Go.Proofs.YtkjfpgjpeofndaaGreatDoor
noncomputable section
def strs:List AVal→Option (List ByteArray)
 |[]=>some []
 |.lit (.string s) :: l=>(strs l).map (s :: ·)
 |_=>none
theorem j5_:∀ {l:List AVal} {L:List ByteArray},strs l=some L→l=L.map vStr
 |[],L,h=>by cases h;rfl
 |a :: l,L,h=>by
  unfold strs at h
  split at h
  ·rename_i hh;cases hh
  ·rename_i s l' hl
   obtain ⟨M,hM,rfl⟩:=Option.map_eq_some_iff.1 h
   cases hl
   rw [j5_ hM];rfl
  ·cases h
theorem fQ_ {a b:ByteArray} (h:Lb a=Lb b):a=b:=by rw [← B_Lb a,h,B_Lb]
def ints:List AVal→Option (List Int)
 |[]=>some []
 |.lit (.int .i64 n) :: l=>(ints l).map (n :: ·)
 |_=>none
theorem gd_:∀ {l:List AVal} {L:List Int},ints l=some L→l=L.map vInt
 |[],L,h=>by cases h;rfl
 |a :: l,L,h=>by
  unfold ints at h
  split at h
  ·rename_i hh;cases hh
  ·rename_i s l' hl
   obtain ⟨M,hM,rfl⟩:=Option.map_eq_some_iff.1 h
   cases hl
   rw [gd_ hM];rfl
  ·cases h
def mn_:List AVal→Option (List Seen)
 |[]=>some []
 |.agg [.lit (.string s),.lit (.int .i64 n),.sl 1 m false] :: l=>match ints m,mn_ l with
  |some M,some L=>some (⟨s,n,M⟩ :: L)
  |_,_=>none
 |_=>none
theorem fN_:∀ {l:List AVal} {L:List Seen},mn_ l=some L→l=L.map aM_
 |[],L,h=>by cases h;rfl
 |a :: l,L,h=>by
  unfold mn_ at h
  split at h
  ·rename_i hh;cases hh
  ·rename_i s n m l' hl
   cases hl
   split at h
   ·rename_i M K hM hK
    cases h
    rw [gd_ hM,fN_ hK];rfl
   ·cases h
  ·cases h
theorem lb_:∀ {a b:List Seen},a.map (fun x=>(x.node,x.base,x.more))=b.map (fun x=>(x.node,x.base,x.more))→a=b
 |[],[],_=>rfl
 |[],_ :: _,h=>by simp at h
 |_ :: _,[],h=>by simp at h
 |x :: a,y :: b,h=>by
  rw [List.map_cons,List.map_cons,List.cons.injEq] at h
  obtain ⟨h1,h2⟩:=h
  rw [lb_ h2]
  cases x;cases y
  simp only [Prod.mk.injEq] at h1
  obtain ⟨rfl,rfl,rfl⟩:=h1
  rfl
theorem n3_ (L:List Int):nfL (L.map vInt)=true:=by
 induction L with
 |nil=>rfl
 |cons a L ih=>rw [List.map_cons,nfL,ih];rfl
theorem qi_ (L:List Seen):nfL (L.map aM_)=true:=by
 induction L with
 |nil=>rfl
 |cons a L ih =>
  rw [List.map_cons,nfL,ih]
  show (nfL [.lit (.string a.node),vInt a.base,.sl 1 (a.more.map vInt) false] && true)=true
  simp [nfL,nf,n3_]
def okL (e:Ran):Bool :=
 bif Nat.beq e.1 242 then (match e.2.1,e.2.2 with
  |[.sl 1 l false,.lit (.string sep)],.lit (.string v)=>(match strs l with
   |some L=>decide (L.length≤1000000) && decide ((L.flatMap Lb).length≤1000000) && ((beqB (Lb sep) [47] && beqB (tb_ L) (Lb v)) || (beqB (Lb sep) [] && beqB (L.flatMap Lb) (Lb v)))
   |none=>false)
  |_,_=>false)
 else bif Nat.beq e.1 373 then (match e.2.1,e.2.2 with
  |[.lit (.int .i64 n)],.lit (.string v)=>decide (-9223372036854775808≤n) && decide (n≤9223372036854775807) && beqB (Lib.itoa n) (Lb v)
  |_,_=>false)
 else bif Nat.beq e.1 518 then (match e.2.1,e.2.2 with
  |[.lit (.string s),.lit (.int .u8 47)],.lit (.int .i64 r)=>decide (SpN.idx47 (Lb s)=r)
  |_,_=>false)
 else bif Nat.beq e.1 412 then (match e.2.1,e.2.2 with
  |[.lit (.string s),.lit (.string sep)],.sl 1 l false=>(match strs l with
   |some L=>decide (s.size≤1000000) && decide (sep=⟨#[47]⟩) && decide ((b1_ (Lb s)).map B=L)
   |none=>false)
  |_,_=>false)
 else bif Nat.beq e.1 117 then (match e.2.1,e.2.2 with
  |[.lit (.string a),.lit (.string b)],.lit (.int .i64 r)=>decide (cmpS a b=r)
  |_,_=>false)
 else bif Nat.beq e.1 244 then (match e.2.1,e.2.2 with
  |[.lit (.int .i64 m),.lit (.string s)],.lit (.int .i64 r)=>decide (0≤m) && Nat.blt m.toNat 4294967296 && decide (s.size≤1000000000) && decide (((4294967295 - crcG (4294967295 - m.toNat) (Lb s):Nat):Int)=r)
  |_,_=>false)
 else bif Nat.beq e.1 609 then (match e.2.1,e.2.2 with
  |[.sl 1 [.sl 1 a _,.sl 1 b _] _],.sl 1 c false=>(match ints a,ints b,ints c with
   |some A,some B,some C=>decide (A.length≤10000000) && decide (B.length≤10000000) && decide (C=A ++ B)
   |_,_,_=>false)
  |_,_=>false)
 else bif Nat.beq e.1 565 then (match e.2.1,e.2.2 with
  |[.sl 1 [.sl 3 a _,.sl 3 b _] _],.sl 3 c false=>(match mn_ a,mn_ b,mn_ c with
   |some A,some B,some C=>decide (A.length≤10000000) && decide (B.length≤10000000) && decide (C.map (fun x=>(x.node,x.base,x.more))=(A ++ B).map (fun x=>(x.node,x.base,x.more)))
   |_,_,_=>false)
  |_,_=>false)
 else false
theorem vi_ {e:Ran} (h:okL e=true):ci_ Go.Proofs.Tryz.prog e:=by
 obtain ⟨f,args,v⟩:=e
 unfold okL at h
 simp only [cond_eq_ite] at h
 split at h
 ·rename_i hf
  obtain rfl:=aP_ hf
  split at h
  ·rename_i l sep r
   split at h
   ·rename_i L hL
    simp only [Bool.and_eq_true,Bool.or_eq_true,decide_eq_true_eq] at h
    obtain ⟨⟨h1,h2⟩,h3⟩:=h
    rw [j5_ hL]
    rcases h3 with ⟨q1,q2⟩ | ⟨q1,q2⟩
    ·obtain rfl:sep=⟨#[47]⟩:=fQ_ (dB_ q1)
     obtain rfl:qo_ L=r:=fQ_ (by rw [qo_,Lb_B];exact dB_ q2)
     exact ci_.of (fun σ=>sF_ h1 h2) rfl
    ·obtain rfl:sep=⟨#[]⟩:=fQ_ (dB_ q1)
     obtain rfl:B (L.flatMap Lb)=r:=fQ_ (by rw [Lb_B];exact dB_ q2)
     exact ci_.of (fun σ=>oJ_ (by omega) (by omega)) rfl
   ·cases h
  ·cases h
 split at h
 ·rename_i hf
  obtain rfl:=aP_ hf
  split at h
  ·simp only [Bool.and_eq_true,decide_eq_true_eq] at h
   obtain ⟨⟨h1,h2⟩,h3⟩:=h
   rename_i n r
   obtain rfl:B (Lib.itoa n)=r:=fQ_ (by rw [Lb_B];exact dB_ h3)
   exact ci_.of (fun σ=>uX_ h1 h2) rfl
  ·cases h
 split at h
 ·rename_i hf
  obtain rfl:=aP_ hf
  split at h
  ·simp only [decide_eq_true_eq] at h
   subst h
   exact ci_.of (fun σ=>SpN.indexByte_c) rfl
  ·cases h
 split at h
 ·rename_i hf
  obtain rfl:=aP_ hf
  split at h
  ·split at h
   ·rename_i L hL
    simp only [Bool.and_eq_true,decide_eq_true_eq] at h
    obtain ⟨⟨h1,rfl⟩,h3⟩:=h
    rw [j5_ hL,← h3]
    exact ci_.of (fun σ=>SpN.split47_c h1) (by
     have:∀ L:List ByteArray,nfL (L.map vStr)=true:=fun L=>by
      induction L with
      |nil=>rfl
      |cons a L ih=>rw [List.map_cons,nfL,ih];rfl
     exact this _)
   ·cases h
  ·cases h
 split at h
 ·rename_i hf
  obtain rfl:=aP_ hf
  split at h
  ·simp only [decide_eq_true_eq] at h
   subst h
   exact ci_.of (fun σ=>dD_) rfl
  ·cases h
 split at h
 ·rename_i hf
  obtain rfl:=aP_ hf
  split at h
  ·rename_i m s r
   simp only [Bool.and_eq_true,decide_eq_true_eq,Nat.blt_eq] at h
   obtain ⟨⟨⟨h1,h2⟩,h3⟩,rfl⟩:=h
   have:=fun σ=>nW_ (m:=m.toNat) (s:=Lb s) (σ:=σ) h2 (by rw [aX_];exact h3)
   rw [B_Lb,Int.toNat_of_nonneg h1] at this
   exact ci_.of this rfl
  ·cases h
 split at h
 ·rename_i hf
  obtain rfl:=aP_ hf
  split at h
  ·split at h
   ·rename_i A B C hA hB hC
    simp only [Bool.and_eq_true,decide_eq_true_eq] at h
    obtain ⟨⟨h1,h2⟩,h3⟩:=h
    rw [gd_ hA,gd_ hB,gd_ hC,h3]
    exact ci_.of (fun σ=>(f0_ h1 h2).frozen (tS_ _)) (n3_ _)
   ·cases h
  ·cases h
 split at h
 ·rename_i hf
  obtain rfl:=aP_ hf
  split at h
  ·split at h
   ·rename_i A B C hA hB hC
    simp only [Bool.and_eq_true,decide_eq_true_eq] at h
    obtain ⟨⟨h1,h2⟩,h3⟩:=h
    have hinj:C=A ++ B:=lb_ h3
    rw [fN_ hA,fN_ hB,fN_ hC,hinj]
    exact ci_.of (fun σ=>f1_ h1 h2) (qi_ _)
   ·cases h
  ·cases h
 ·cases h
theorem ov_:∀ e∈ranC,ci_ Go.Proofs.Tryz.prog e:=by
 have h:ranC.all okL=true:=by kernel_rfl
 exact fun e he=>vi_ (List.all_eq_true.1 h e he)
end
end Go.Nb
end
