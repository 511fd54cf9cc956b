/-
  Calls of the library,by their contracts,as rows of the interpreter's table. Own work (an AI agent).
-/
import Derived.Test.YtcdidkliidjoeaaGreatDoorGJ
import Derived.Test.YtcdidkliidjoeaaGreatDoorProg
import Derived.KernelRfl
import Derived.Test.YtcdidkliidjoeaaGreatDoorGE

section
set_option linter.all false
set_option maxRecDepth 100000
namespace Go.Nb
open Go.Ab Go.Proofs.YtcdidkliidjoeaaGreatDoor
noncomputable section
def strs:List AVal→Option (List ByteArray)
 |[]=>some []
 |.lit (.string s) :: l=>(strs l).map (s :: ·)
 |_=>none
theorem hQ_:∀ {l:List AVal} {L:List ByteArray},strs l=some L→l=L.map vStr
 |[],L,h=>by cases h;rfl
 |a :: l,L,h=>by
  unfold strs at h
  split at h
  ·rename_i hh;cases hh
  ·rename_i s l' hl
   obtain ⟨M,hM,rfl⟩:=Option.map_eq_some_iff.1 h
   cases hl
   rw [hQ_ hM];rfl
  ·cases h
theorem ep_ {a b:ByteArray} (h:Lb a=Lb b):a=b:=by rw [← B_Lb a,h,B_Lb]
def ints:List AVal→Option (List Int)
 |[]=>some []
 |.lit (.int .i64 n) :: l=>(ints l).map (n :: ·)
 |_=>none
theorem eG_:∀ {l:List AVal} {L:List Int},ints l=some L→l=L.map vInt
 |[],L,h=>by cases h;rfl
 |a :: l,L,h=>by
  unfold ints at h
  split at h
  ·rename_i hh;cases hh
  ·rename_i s l' hl
   obtain ⟨M,hM,rfl⟩:=Option.map_eq_some_iff.1 h
   cases hl
   rw [eG_ hM];rfl
  ·cases h
def i7_:List AVal→Option (List Seen)
 |[]=>some []
 |.agg [.lit (.string s),.lit (.int .i64 n),.sl 1 m false] :: l=>match ints m,i7_ l with
  |some M,some L=>some (⟨s,n,M⟩ :: L)
  |_,_=>none
 |_=>none
theorem eh_:∀ {l:List AVal} {L:List Seen},i7_ l=some L→l=L.map bX_
 |[],L,h=>by cases h;rfl
 |a :: l,L,h=>by
  unfold i7_ at h
  split at h
  ·rename_i hh;cases hh
  ·rename_i s n m l' hl
   cases hl
   split at h
   ·rename_i M K hM hK
    cases h
    rw [eG_ hM,eh_ hK];rfl
   ·cases h
  ·cases h
def ents:List AVal→Option (List Ent)
 |[]=>some []
 |.agg [.lit (.string s),.lit (.int .i64 n),.lit (.string w),.lit (.string v)] :: l=>(ents l).map (⟨s,n,w,v⟩ :: ·)
 |_=>none
theorem jJ_:∀ {l:List AVal} {L:List Ent},ents l=some L→l=L.map sEnt
 |[],L,h=>by cases h;rfl
 |a :: l,L,h=>by
  unfold ents at h
  split at h
  ·rename_i hh;cases hh
  ·rename_i s n w v l' hl
   obtain ⟨M,hM,rfl⟩:=Option.map_eq_some_iff.1 h
   cases hl
   rw [jJ_ hM];rfl
  ·cases h
def lL_:List AVal→Option (List (List Ent))
 |[]=>some []
 |.sl 4 m false :: l=>match ents m,lL_ l with
  |some M,some L=>some (M :: L)
  |_,_=>none
 |_=>none
theorem h5_:∀ {l:List AVal} {L:List (List Ent)},lL_ l=some L→l=L.map slE
 |[],L,h=>by cases h;rfl
 |a :: l,L,h=>by
  unfold lL_ at h
  split at h
  ·rename_i hh;cases hh
  ·rename_i m l' hl
   cases hl
   split at h
   ·rename_i M K hM hK
    cases h
    rw [jJ_ hM,h5_ hK];rfl
   ·cases h
  ·cases h
theorem n6_ (L:List Ent):nfL (L.map sEnt)=true:=by
 induction L with
 |nil=>rfl
 |cons a L ih=>rw [List.map_cons,nfL,ih];rfl
theorem iv_:∀ {a b:List Seen},a.map (fun x=>(x.node,x.base,x.more))=b.map (fun x=>(x.node,x.base,x.more))→a=b
 |[],[],_=>rfl
 |[],_ :: _,h=>by simp at h
 |_ :: _,[],h=>by simp at h
 |x :: a,y :: b,h=>by
  rw [List.map_cons,List.map_cons,List.cons.injEq] at h
  obtain ⟨h1,h2⟩:=h
  rw [iv_ h2]
  cases x;cases y
  simp only [Prod.mk.injEq] at h1
  obtain ⟨rfl,rfl,rfl⟩:=h1
  rfl
theorem kk_ (L:List Int):nfL (L.map vInt)=true:=by
 induction L with
 |nil=>rfl
 |cons a L ih=>rw [List.map_cons,nfL,ih];rfl
theorem l7_ (L:List Seen):nfL (L.map bX_)=true:=by
 induction L with
 |nil=>rfl
 |cons a L ih =>
  rw [List.map_cons,nfL,ih]
  show (nfL [.lit (.string a.node),vInt a.base,.sl 1 (a.more.map vInt) false] && true)=true
  simp [nfL,nf,kk_]
def okL (e:Ran):Bool :=
 bif Nat.beq e.1 281 then (match e.2.1,e.2.2 with
  |[.sl 1 l false,.lit (.string sep)],.lit (.string v)=>(match strs l with
   |some L=>decide (L.length≤1000000) && decide ((L.flatMap Lb).length≤1000000) && ((beqB (Lb sep) [47] && beqB (oc_ L) (Lb v)) || (beqB (Lb sep) [] && beqB (L.flatMap Lb) (Lb v)))
   |none=>false)
  |_,_=>false)
 else bif Nat.beq e.1 399 then (match e.2.1,e.2.2 with
  |[.lit (.int .i64 n)],.lit (.string v)=>decide (-9223372036854775808≤n) && decide (n≤9223372036854775807) && beqB (Lib.itoa n) (Lb v)
  |_,_=>false)
 else bif Nat.beq e.1 512 then (match e.2.1,e.2.2 with
  |[.lit (.string s),.lit (.int .u8 47)],.lit (.int .i64 r)=>decide (SpN.idx47 (Lb s)=r)
  |_,_=>false)
 else bif Nat.beq e.1 401 then (match e.2.1,e.2.2 with
  |[.lit (.string s),.lit (.string sep)],.sl 1 l false=>(match strs l with
   |some L=>decide (s.size≤1000000) && decide (sep=⟨#[47]⟩) && decide ((bl_ (Lb s)).map B=L)
   |none=>false)
  |_,_=>false)
 else bif Nat.beq e.1 171 then (match e.2.1,e.2.2 with
  |[.lit (.string a),.lit (.string b)],.lit (.int .i64 r)=>decide (cmpS a b=r)
  |_,_=>false)
 else bif Nat.beq e.1 302 then (match e.2.1,e.2.2 with
  |[.lit (.int .i64 m),.lit (.string s)],.lit (.int .i64 r)=>decide (0≤m) && Nat.blt m.toNat 4294967296 && decide (s.size≤1000000000) && decide (((4294967295 - crcG (4294967295 - m.toNat) (Lb s):Nat):Int)=r)
  |_,_=>false)
 else bif Nat.beq e.1 670 then (match e.2.1,e.2.2 with
  |[.sl 1 [.sl 1 a _,.sl 1 b _] _],.sl 1 c false=>(match ints a,ints b,ints c with
   |some A,some B,some C=>decide (A.length≤10000000) && decide (B.length≤10000000) && decide (C=A ++ B)
   |_,_,_=>false)
  |_,_=>false)
 else bif Nat.beq e.1 638 then (match e.2.1,e.2.2 with
  |[.sl 1 [.sl 3 a _,.sl 3 b _] _],.sl 3 c false=>(match i7_ a,i7_ b,i7_ c with
   |some A,some B,some C=>decide (A.length≤10000000) && decide (B.length≤10000000) && decide (C.map (fun x=>(x.node,x.base,x.more))=(A ++ B).map (fun x=>(x.node,x.base,x.more)))
   |_,_,_=>false)
  |_,_=>false)
 else bif Nat.beq e.1 174 then (match e.2.1,e.2.2 with
  |[.sl 1 a _],.sl 4 c false=>(match lL_ a with
   |some A=>decide (A.flatten.length≤10000000) && decide (A.length≤10) && aeqL (A.flatten.map sEnt) c
   |_=>false)
  |_,_=>false)
 else false
theorem py_ {e:Ran} (h:okL e=true):bt_ Go.Proofs.Tryz.prog e:=by
 obtain ⟨f,args,v⟩:=e
 unfold okL at h
 simp only [cond_eq_ite] at h
 split at h
 ·rename_i hf
  obtain rfl:=ao_ hf
  split at h
  ·rename_i l sep r
   split at h
   ·rename_i L hL
    simp only [Bool.and_eq_true,Bool.or_eq_true,decide_eq_true_eq] at h
    obtain ⟨⟨h1,h2⟩,h3⟩:=h
    rw [hQ_ hL]
    rcases h3 with ⟨q1,q2⟩ | ⟨q1,q2⟩
    ·obtain rfl:sep=⟨#[47]⟩:=ep_ (cA_ q1)
     obtain rfl:l9_ L=r:=ep_ (by rw [l9_,Lb_B];exact cA_ q2)
     exact bt_.of (fun σ=>nI_ h1 h2) rfl
    ·obtain rfl:sep=⟨#[]⟩:=ep_ (cA_ q1)
     obtain rfl:B (L.flatMap Lb)=r:=ep_ (by rw [Lb_B];exact cA_ q2)
     exact bt_.of (fun σ=>oo_ (by omega) (by omega)) rfl
   ·cases h
  ·cases h
 split at h
 ·rename_i hf
  obtain rfl:=ao_ hf
  split at h
  ·simp only [Bool.and_eq_true,decide_eq_true_eq] at h
   obtain ⟨⟨h1,h2⟩,h3⟩:=h
   rename_i n r
   obtain rfl:B (Lib.itoa n)=r:=ep_ (by rw [Lb_B];exact cA_ h3)
   exact bt_.of (fun σ=>pk_ h1 h2) rfl
  ·cases h
 split at h
 ·rename_i hf
  obtain rfl:=ao_ hf
  split at h
  ·simp only [decide_eq_true_eq] at h
   subst h
   exact bt_.of (fun σ=>SpN.indexByte_c) rfl
  ·cases h
 split at h
 ·rename_i hf
  obtain rfl:=ao_ hf
  split at h
  ·split at h
   ·rename_i L hL
    simp only [Bool.and_eq_true,decide_eq_true_eq] at h
    obtain ⟨⟨h1,rfl⟩,h3⟩:=h
    rw [hQ_ hL,← h3]
    exact bt_.of (fun σ=>SpN.split47_c h1) (by
     have:∀ L:List ByteArray,nfL (L.map vStr)=true:=fun L=>by
      induction L with
      |nil=>rfl
      |cons a L ih=>rw [List.map_cons,nfL,ih];rfl
     exact this _)
   ·cases h
  ·cases h
 split at h
 ·rename_i hf
  obtain rfl:=ao_ hf
  split at h
  ·simp only [decide_eq_true_eq] at h
   subst h
   exact bt_.of (fun σ=>eA_) rfl
  ·cases h
 split at h
 ·rename_i hf
  obtain rfl:=ao_ hf
  split at h
  ·rename_i m s r
   simp only [Bool.and_eq_true,decide_eq_true_eq,Nat.blt_eq] at h
   obtain ⟨⟨⟨h1,h2⟩,h3⟩,rfl⟩:=h
   have:=fun σ=>pt_ (m:=m.toNat) (s:=Lb s) (σ:=σ) h2 (by rw [aD_];exact h3)
   rw [B_Lb,Int.toNat_of_nonneg h1] at this
   exact bt_.of this rfl
  ·cases h
 split at h
 ·rename_i hf
  obtain rfl:=ao_ hf
  split at h
  ·split at h
   ·rename_i A B C hA hB hC
    simp only [Bool.and_eq_true,decide_eq_true_eq] at h
    obtain ⟨⟨h1,h2⟩,h3⟩:=h
    rw [eG_ hA,eG_ hB,eG_ hC,h3]
    exact bt_.of (fun σ=>(hj_ h1 h2).frozen (ox_ _)) (kk_ _)
   ·cases h
  ·cases h
 split at h
 ·rename_i hf
  obtain rfl:=ao_ hf
  split at h
  ·split at h
   ·rename_i A B C hA hB hC
    simp only [Bool.and_eq_true,decide_eq_true_eq] at h
    obtain ⟨⟨h1,h2⟩,h3⟩:=h
    have hinj:C=A ++ B:=iv_ h3
    rw [eh_ hA,eh_ hB,eh_ hC,hinj]
    exact bt_.of (fun σ=>hk_ h1 h2) (l7_ _)
   ·cases h
  ·cases h
 split at h
 ·rename_i hf
  obtain rfl:=ao_ hf
  split at h
  ·split at h
   ·rename_i A hA
    simp only [Bool.and_eq_true,decide_eq_true_eq] at h
    obtain ⟨⟨h1,h2⟩,h3⟩:=h
    rw [h5_ hA,← b6_ h3]
    exact bt_.of (fun σ=>jE_ h1 h2) (n6_ _)
   ·cases h
  ·cases h
 ·cases h
theorem kK_:∀ e∈ranC,bt_ Go.Proofs.Tryz.prog e:=by
 have h:ranC.all okL=true:=by kernel_rfl
 exact fun e he=>py_ (List.all_eq_true.1 h e he)
end
end Go.Nb
end
