/-
  What is read of bytes: the program's reader; What the program's values are; What is read of bytes: numbers,texts,lists; Contexts and objects read of bytes: the program's; What is read of bytes: the reference's reader; Contexts and objects read of bytes: the reference's; What is written as bytes: the program's writer; Contexts and objects as bytes: what the program writes; Messages as bytes: the program's writer; Names: the program's,and the reference's; Whether a context may be: the program's Check,the reference's May. Own work (an AI agent).
-/
import Derived.Test.YtcdidkliidjoeaaGreatDoorGD
import Derived.Laws.RangeString
import Derived.Laws.RangeAny

section
set_option linter.all false
set_option maxRecDepth 100000
namespace Go.Proofs.YtcdidkliidjoeaaGreatDoor
open Go.Ab
abbrev Rd:=List UInt8 × Bool
def e0_ (x:Rd) (n:Nat):List UInt8 × Rd:=if x.2=true∧n≤x.1.length then (x.1.take n,x.1.drop n,true) else ([],x.1,false)
def eZ_ (x:Rd) (n:Nat):Int × Rd:=(rdI (e0_ x n).1,(e0_ x n).2)
end Go.Proofs.YtcdidkliidjoeaaGreatDoor
end

section
set_option linter.all false
namespace Go.Ab
structure Seen where
 node:ByteArray
 base:Int
 more:List Int
structure Sib where
 node:ByteArray
 n:Int
 value:ByteArray
 gone:Bool
 time:Int
structure Obj' where
 ctx:List Seen
 sibs:List Sib
@[reducible] def bX_ (x:Seen):AVal:=.agg [.lit (.string x.node),vInt x.base,.sl 1 (x.more.map vInt) false]
@[reducible] def sSib (x:Sib):AVal:=.agg [.lit (.string x.node),vInt x.n,.lit (.string x.value),.lit (.bool x.gone),vInt x.time]
@[reducible] def sObj (x:Obj'):AVal:=.agg [.sl 3 (x.ctx.map bX_) false,.sl 5 (x.sibs.map sSib) false]
end Go.Ab
end

section
set_option linter.all false
set_option maxRecDepth 100000
namespace Go.Proofs.YtcdidkliidjoeaaGreatDoor
open Go.Ab
def mj_ (x:Rd) (m:Nat):Nat × Rd:=if m < natB (e0_ x 4).1 then (0,(e0_ x 4).2.1,false) else (natB (e0_ x 4).1,(e0_ x 4).2)
def g1_ (x:Rd):List UInt8 × Rd:=e0_ (mj_ x 1048576).2 (mj_ x 1048576).1
def kL_ {α:Type} (f:Rd→α × Rd):Nat→Rd→List α × Rd
 |0,x=>([],x)
 |n + 1,x=>if x.2 then ((f x).1 :: (kL_ f n (f x).2).1,(kL_ f n (f x).2).2) else ([],x)
def ok_ {α:Type} (f:Rd→α × Rd) (x:Rd):List α × Rd :=
 let r:=kL_ f (mj_ x 65536).1 (mj_ x 65536).2
 if r.2.2 then r else ([],r.2)
theorem SubX.trans {l:List Nat} {a b c:Store} (h:SubX l a b) (k:SubX l b c):SubX l a c:=⟨fun i x hi hx=>k.1 i x hi (h.1 i x hi hx),fun t n ht=>k.2 t n (h.2 t n ht)⟩
theorem SubX.newTok {l:List Nat} {a b:Store} (h:SubX l a b) {old:Option Nat} {k:Nat} {p:TypeId × Nat} (ho:∀ j,old=some j→a.tok j=none) (hk:b.tok k=none):SubX l a (b.newTok old k p):=⟨h.1,fun t n ht=>by
 have h1:=h.2 t n ht
 simp only [Store.newTok]
 rw [if_neg (fun hh=>by rw [hh,hk] at h1;cases h1),if_neg (fun hh=>by rw [ho t hh.symm] at ht;cases ht)]
 exact h1⟩
def rdI8 (x:Rd):Int × Rd:=eZ_ x 8
def rj_ (x:Rd):Seen × Rd :=
 let a:=g1_ x;let b:=eZ_ a.2 8;let c:=ok_ rdI8 b.2
 (⟨B a.1,b.1,c.1⟩,c.2)
def tT_ (x:Rd):List Seen × Rd:=ok_ rj_ x
def tU_ (x:Rd):Sib × Rd :=
 let a:=g1_ x;let b:=eZ_ a.2 8;let c:=g1_ b.2;let d:=eZ_ c.2 1;let e:=eZ_ d.2 8
 (⟨B a.1,b.1,B c.1,!decide (d.1=0),e.1⟩,e.2)
def mk_ (x:Rd):Obj' × Rd :=
 let c:=tT_ x;let l:=ok_ tU_ c.2
 if l.2.2 then (⟨c.1,l.1⟩,l.2) else (⟨[],[]⟩,l.2)
theorem keep {l:List Nat} {a b:Store} {i:Nat} {x:AObj} (h:SubX l a b) (hx:a.heap i=some x) (hi:i ∉ l):b.heap i=some x:=h.1 i x hi hx
def ct_ (σ:Store) (e:TypeId) (sz:Nat) (l:List AVal) (a:AVal) (old:Option Nat):Prop:=(∃ k,a=.own k sz l∧σ.tok k=some (e,sz)∧old=some k)∨(a=.lit (.slice none 0 0)∧l=[]∧old=none)
theorem ct_.wk {σ:Store} {e:TypeId} {sz:Nat} {l:List AVal} {a:AVal} {old:Option Nat} (h:ct_ σ e sz l a old):Wk a (.sl sz l false):=by
 rcases h with ⟨k,rfl,_⟩ | ⟨rfl,rfl,_⟩
 ·exact .own1 _ _ _
 ·exact .nil _ _
theorem ct_.of {σ:Store} {e:TypeId} {sz:Nat} {l:List AVal} {a b:AVal} {old:Option Nat} (h:ct_ σ e sz l a old) (hb:b=a):ct_ σ e sz l b old:=hb ▸ h
def WA (o:Nat) (a:AVal):Prop:=a=.ref o 0∨a=.nilp o 324 2
def WR (σ:Store) (o:Nat) (l:List UInt8):Prop:=∃ a b old,σ.heap o=some (.cells [a,b])∧WA o a∧ct_ σ 5 1 (aj_ (B l)) b old
def Hld (σ:Store) (o t:Nat):Prop:=∃ a sz l,σ.heap o=some (.cells [a,.own t sz l])
def WF (o:Nat) (σ σ':Store):Prop:=(∀ i x,i≠o→σ.heap i=some x→σ'.heap i=some x)∧∀ t n,σ.tok t=some n→¬ Hld σ o t→σ'.tok t=some n∧¬ Hld σ' o t
theorem WF.refl {o:Nat} {σ:Store}:WF o σ σ:=⟨fun _ _ _ h=>h,fun _ _ h k=>⟨h,k⟩⟩
theorem WF.trans {o:Nat} {a b c:Store} (h:WF o a b) (k:WF o b c):WF o a c :=
 ⟨fun i x hi hx=>k.1 i x hi (h.1 i x hi hx),fun t n ht hn=>k.2 t n (h.2 t n ht hn).1 (h.2 t n ht hn).2⟩
theorem WF.sub {o:Nat} {σ σ':Store} {x:AObj} (ho:σ.heap o=none) (h:WF o (σ.set o x) σ') (hx:∀ a t sz l,x≠.cells [a,.own t sz l]):σ.Sub σ' :=
 ⟨fun i y hy=>h.1 i y (fun hh=>by rw [hh,ho] at hy;cases hy) (by rw [Store.set_ne _ _ (fun hh=>by rw [hh,ho] at hy;cases hy)];exact hy),fun t n ht=>(h.2 t n ht fun ⟨a,sz,l,hh⟩=>by
  rw [Store.set_get] at hh
  exact hx _ _ _ _ (Option.some.inj hh)).1⟩
theorem WF.put {σ:Store} {o k:Nat} {a b c:AVal} {l l':List AVal} {old:Option Nat} {p:TypeId × Nat} {e:TypeId} {sz sz':Nat} (ho:σ.heap o=some (.cells [a,b])) (hb:ct_ σ e sz l b old) (hk:σ.tok k=none) :
  WF o σ ((σ.newTok old k p).set o (.cells [c,.own k sz' l'])):=by
 refine ⟨fun i x hi hx=>by rw [Store.set_ne _ _ hi];exact hx,fun t n ht hn=>?_⟩
 have hkt:t≠k:=fun hh=>by rw [hh,hk] at ht;cases ht
 refine ⟨?_,?_⟩
 ·rw [Store.set_tok]
  simp only [Store.newTok]
  rw [if_neg hkt,if_neg (fun hh=>?_)]
  ·exact ht
  ·rcases hb with ⟨j,rfl,_,hj⟩ | ⟨rfl,_,hj⟩
   ·rw [hj] at hh
    obtain rfl:=Option.some.inj hh
    exact hn ⟨_,_,_,ho⟩
   ·rw [hj] at hh;cases hh
 ·rintro ⟨a',sz2,l2,hh⟩
  rw [Store.set_get] at hh
  simp only [Option.some.injEq,AObj.cells.injEq,List.cons.injEq,AVal.own.injEq,and_true] at hh
  exact hkt hh.2.1.symm
theorem iu_ {σ:Store} {c:Bool} {o:Nat}:abin Tryz.prog σ .neq 320 c (.ref o 0) (.ref o 0)=some (.lit (.bool false)):=by
 simp only [abin,aeq,go_sem]
theorem eB_ {o:Nat} {b:AVal} {σ:Store} (ho:σ.heap o=some (.cells [.ref o 0,b])):ACalls Tryz.prog 538 [.ref o 0] σ fun v σ'=>v=.tup []∧σ'=σ.set o (.cells [.ref o 0,b]):=by
 refine en_ Tryz.func538 Tryz.ntmps538 Tryz.results538 ?_
 refine ac_ ?_
 have R:=And.intro ho @iu_
 refine r_ ?_
 iterate 5 refine s_ ?_
 refine aa_ ?_
 refine cd_ (fun hc0=>?_) (fun hc0=>?_)
 ·cases hc0
 ·refine ac_ ?_
  have R:=And.intro ho @iu_
  refine r_ ?_
  iterate 6 refine s_ ?_
  refine aa_ ?_
  refine cd_ (fun hc2=>?_) (fun hc2=>?_)
  ·cases hc2
  ·refine ag_ ?_
   refine bK_ v_ (Store.Wk.refl _) ?_
   exact ⟨rfl,(Store.set_self ho).symm⟩
theorem hm_ {o:Nat} {b:AVal} {σ:Store} (ho:σ.heap o=some (.cells [.nilp o 324 2,b])):ACalls Tryz.prog 538 [.ref o 0] σ fun v σ'=>v=.tup []∧σ'=σ.set o (.cells [.ref o 0,b]):=by
 refine en_ Tryz.func538 Tryz.ntmps538 Tryz.results538 ?_
 refine ac_ ?_
 have R:=ho
 refine r_ ?_
 iterate 5 refine s_ ?_
 refine aa_ ?_
 refine cd_ (fun hc0=>?_) (fun hc0=>?_)
 ·have R:=ho
  refine r_ ?_
  iterate 2 refine s_ ?_
  refine aL_X rfl rfl (AOp_toUnsafe (t:=322) rfl Tryz.underlying320 Tryz.underlying628 kr_ g_ ho (by decide) ?_)
  refine aL_X rfl rfl (AOp_extern rfl (e:=Extern.AbiNoEscape.same) kr_ g_ (fun κ ev _ h=>ga_ (h _ (by simp))) ?_)
  refine aL_X rfl rfl (AOp_fromUnsafe (u:=322) rfl Tryz.underlying628 Tryz.underlying320 kr_ g_ ho kr_ ?_)
  iterate 2 refine s_ ?_
  refine st_ ?_
  refine aa_ ?_
  refine bK_ v_ (Store.Wk.refl _) ?_
  exact ⟨rfl,rfl⟩
 ·cases hc0
theorem hn_ {o:Nat} {a b:AVal} {σ:Store} (ho:σ.heap o=some (.cells [a,b])) (ha:WA o a):ACalls Tryz.prog 538 [.ref o 0] σ fun v σ'=>v=.tup []∧σ'=σ.set o (.cells [.ref o 0,b]):=by
 rcases ha with rfl | rfl
 ·exact eB_ ho
 ·exact hm_ ho
theorem gm_ {o:Nat} {a b:AVal} {σ:Store} {s:ByteArray} {l:List UInt8} {old:Option Nat} (ho:σ.heap o=some (.cells [a,b])) (ha:WA o a) (hb:ct_ σ 5 1 (aj_ (B l)) b old) (hl:l.length≤1099511627776) (hs:s.size≤1099511627776) :
  ACalls Tryz.prog 415 [.ref o 0,vStr s] σ fun v σ'=>∃ k,v=.tup [vInt s.size,.lit .nilIface]∧σ.tok k=none∧σ'=(σ.newTok old k (5,1)).set o (.cells [.ref o 0,.own k 1 (aj_ (B (l ++ Lb s)))]):=by
 have e1:aj_ (B l) ++ aj_ s=aj_ (B (l ++ Lb s)):=by rw [ck_,← fN_,B_Lb]
 have hbl:(aj_ (B l)).length=l.length:=by rw [ap_,c9_]
 have hsl:=ap_ s
 refine en_ Tryz.func415 Tryz.ntmps415 Tryz.results415 ?_
 refine rr_ ?_
 iterate 2 refine s_ ?_
 refine aa_ ?_
 refine rr_ ?_
 refine s_ ?_
 refine x_ g_ va_ (hn_ ho ha) ?_;rintro _ _ ⟨rfl,rfl⟩
 refine aa_ ?_
 refine rr_ ?_
 iterate 6 refine s_ ?_
 refine aL_X rfl rfl (AOp_appendS rfl g_ g_ (ct_.of hb va_) (hX_ g_) (by simp;omega) fun k14 hk14=>?_);rw [e1]
 iterate 2 refine s_ ?_
 refine st_ ?_
 refine aa_ ?_
 refine rr_ ?_
 iterate 4 refine s_ ?_
 refine aa_ ?_
 refine aq_ ?_
 refine aK_ v_ (Store.Wk.refl _) ?_
 exact ⟨k14,rfl,hk14,by rw [Store.newTok_set,Store.set_set]⟩
theorem mw_ {o k:Nat} {s:ByteArray} {σ:Store} {a:AVal} (ho:σ.heap o=some (.cells [a,.own k 1 (aj_ s)])) (hk:σ.tok k=some (5,1)) (hs:s.size≤1099511627776):ACalls Tryz.prog 390 [.ref o 0] σ fun v σ'=>v=vStr s∧σ'=σ.delTok k:=by
 have hsl:=ap_ s
 refine en_ Tryz.func390 Tryz.ntmps390 Tryz.results390 ?_
 refine ac_ ?_
 have R:=And.intro ho hsl
 refine r_ ?_
 refine s_ ?_
 refine aa_ ?_
 refine ac_ ?_
 have R:=And.intro ho hsl
 refine b1_ (.op 0 0 (.op 1 0 (.op 2 0 (.op 3 0 (.op 5 0 (.op 6 0 (.op 7 0 (.op 8 0 (.op 9 0 (.op 4 1 (.op 10 2 (.op 11 0 .nil)))))))))))) Tryz.mixed kr_ ?_
 iterate 9 refine ds_ ?_
 refine dR_X o_ (by rfl) (by rfl) (AOp_sliceData (by rfl) g_ (.inl ⟨va_,hk⟩) ⟨sub_,?_⟩)
 refine dR_T o_ (by rfl) (by rfl) (AOp_unsafeString (by rfl) g_ kr_ va_ va_ (.inr hk) (by omega) ?_)
 refine ds_ ?_
 refine gA_ ?_
 refine aq_ ?_
 refine aK_ v_ (Store.Wk.refl _) ?_
 exact ⟨rfl,rfl⟩
theorem iz_ {o:Nat} {σ:Store} {a:AVal} (ho:σ.heap o=some (.cells [a,.lit (.slice none 0 0)])):ACalls Tryz.prog 390 [.ref o 0] σ fun v σ'=>v=vStr (B [])∧σ=σ':=by
 refine en_ Tryz.func390 Tryz.ntmps390 Tryz.results390 ?_
 refine ac_ ?_
 have R:=ho
 refine r_ ?_
 refine s_ ?_
 refine aa_ ?_
 refine ac_ ?_
 have R:=ho
 refine b1_ (.op 0 0 (.op 1 0 (.op 2 0 (.op 3 0 (.op 5 0 (.op 6 0 (.op 7 0 (.op 8 0 (.op 9 0 (.op 4 1 (.op 10 2 (.op 11 0 .nil)))))))))))) Tryz.mixed kr_ ?_
 iterate 9 refine ds_ ?_
 refine dR_X o_ (by rfl) (by rfl) (AOp_sliceData (k:=0) (l:=[]) (e0:=0) (by rfl) g_ (.inr ⟨va_,rfl⟩) ⟨sub_,?_⟩)
 refine dR_T o_ (by rfl) (by rfl) (dG_ (by rfl) va_ va_ ?_)
 refine ds_ ?_
 refine gA_ ?_
 refine aq_ ?_
 refine er_ σ ?_
 exact ⟨rfl,rfl⟩
def fb_ (s:ByteArray):List UInt8:=beI 4 s.size ++ Lb s
theorem WF.del {σ:Store} {o k:Nat} {a:AVal} {l:List AVal} {sz:Nat} (ho:σ.heap o=some (.cells [a,.own k sz l])):WF o σ (σ.delTok k):=by
 refine ⟨fun i x _ hx=>hx,fun t n ht hn=>⟨?_,hn⟩⟩
 have:t≠k:=fun hh=>hn ⟨_,_,_,by rw [hh];exact ho⟩
 simp [Store.delTok,this,ht]
def n0_ {α:Type} (f:α→List UInt8) (l:List α):List UInt8:=beI 4 l.length ++ l.flatMap f
def tX_ (x:Seen):List UInt8:=fb_ x.node ++ beI 8 x.base ++ n0_ (beI 8) x.more
def ctxB (c:List Seen):List UInt8:=n0_ tX_ c
def sn_ (b:Bool):Int:=if b then 1 else 0
def sibB (x:Sib):List UInt8:=fb_ x.node ++ beI 8 x.n ++ fb_ x.value ++ beI 1 (sn_ x.gone) ++ beI 8 x.time
def objB (o:Obj'):List UInt8:=ctxB o.ctx ++ n0_ sibB o.sibs
theorem gF_ {α β:Type} {f:α→List β} {l:List α} {i:Nat} {x:α} (h:l[i]?=some x):(l.take (i + 1)).flatMap f=(l.take i).flatMap f ++ f x:=by
 rw [dC_ h,List.flatMap_append];simp
theorem a0_ {α β:Type} {f:α→List β} (l:List α) (i:Nat):((l.take i).flatMap f).length≤(l.flatMap f).length:=by
 conv=>rhs;rw [← List.take_append_drop i l,List.flatMap_append,List.length_append]
 omega
theorem WF.keep {o i:Nat} {a b:Store} {x:AObj} (h:WF o a b) (hx:a.heap i=some x) (hi:i≠o):b.heap i=some x:=h.1 i x hi hx
theorem WF.alloc {o i:Nat} {a b:Store} {x:AObj} (h:WF o a b) (hi:b.heap i=none) (ho:i≠o):WF o a (b.set i x) :=
 ⟨fun j y hj hy=>by rw [Store.set_ne _ _ (fun hh=>by have:=h.1 j y hj hy;rw [hh,hi] at this;cases this)];exact h.1 j y hj hy,fun t n ht hn=>⟨(h.2 t n ht hn).1,fun ⟨a,sz,l,hh⟩=>(h.2 t n ht hn).2 ⟨a,sz,l,by rw [Store.set_ne _ _ (Ne.symm ho)] at hh;exact hh⟩⟩⟩
theorem WR.alloc {o i:Nat} {l:List UInt8} {σ:Store} {x:AObj} (h:WR σ o l) (hi:i≠o):WR (σ.set i x) o l:=by
 obtain ⟨a,b,old,h1,h2,h3⟩:=h
 exact ⟨a,b,old,by rw [Store.set_ne _ _ (Ne.symm hi)];exact h1,h2,h3⟩
theorem WR.some {o:Nat} {l:List UInt8} {σ:Store} (h:WR σ o l):∃ x,σ.heap o=some x:=by obtain ⟨a,b,old,h1,_⟩:=h;exact ⟨_,h1⟩
structure SeenSm (x:Seen):Prop where
 node:x.node.size≤1000000
 more:x.more.length≤1000000
structure SibSm (x:Sib):Prop where
 node:x.node.size≤1000000
 value:x.value.size≤1000000
structure ObjSm (x:Obj'):Prop where
 ctx:∀ y∈x.ctx,SeenSm y
 sibs:∀ y∈x.sibs,SibSm y
 nc:x.ctx.length≤1000
 ns:x.sibs.length≤1000
end Go.Proofs.YtcdidkliidjoeaaGreatDoor
end

section
set_option linter.all false
set_option maxRecDepth 100000
namespace Go.Ab
structure Leaf where
 place:ByteArray
 digest:ByteArray
structure Itm where
 place:ByteArray
 obj:Obj'
structure Ent where
 key:ByteArray
 n:Int
 who:ByteArray
 value:ByteArray
structure Msg where
 kind:Int
 frm:ByteArray
 to:ByteArray
 num:Int
 err:Int
 place:ByteArray
 obj:Obj'
 texts:List ByteArray
 leaves:List Leaf
 items:List Itm
 ents:List Ent
@[reducible] def tV_ (x:Leaf):AVal:=.agg [.lit (.string x.place),.lit (.string x.digest)]
@[reducible] def ro_ (x:Itm):AVal:=.agg [.lit (.string x.place),.sl 3 (x.obj.ctx.map bX_) false,.sl 5 (x.obj.sibs.map sSib) false]
@[reducible] def sEnt (x:Ent):AVal:=.agg [.lit (.string x.key),vInt x.n,.lit (.string x.who),.lit (.string x.value)]
@[reducible] def sMsg (m:Msg):AVal:=.agg [vInt m.kind,.lit (.string m.frm),.lit (.string m.to),vInt m.num,vInt m.err,.lit (.string m.place),.sl 3 (m.obj.ctx.map bX_) false,.sl 5 (m.obj.sibs.map sSib) false,.sl 1 (m.texts.map vStr) false,.sl 2 (m.leaves.map tV_) false,.sl 3 (m.items.map ro_) false,.sl 4 (m.ents.map sEnt) false]
end Go.Ab
namespace Go.Proofs.YtcdidkliidjoeaaGreatDoor
open Go.Ab
def su_ (x:Leaf):List UInt8:=fb_ x.place ++ fb_ x.digest
def pi_ (x:Itm):List UInt8:=fb_ x.place ++ objB x.obj
def entB (x:Ent):List UInt8:=fb_ x.key ++ beI 8 x.n ++ fb_ x.who ++ fb_ x.value
structure LeafSm (x:Leaf):Prop where
 place:x.place.size≤1000000
 digest:x.digest.size≤1000000
structure ItemSm (x:Itm):Prop where
 place:x.place.size≤1000000
 obj:ObjSm x.obj
structure EntSm (x:Ent):Prop where
 key:x.key.size≤1000000
 who:x.who.size≤1000000
 value:x.value.size≤1000000
structure MsgSm (m:Msg):Prop where
 frm:m.frm.size≤1000000
 to:m.to.size≤1000000
 place:m.place.size≤1000000
 obj:ObjSm m.obj
 texts:∀ x∈m.texts,x.size≤1000000
 leaves:∀ x∈m.leaves,LeafSm x
 items:∀ x∈m.items,ItemSm x
 ents:∀ x∈m.ents,EntSm x
 nt:m.texts.length≤1000
 nl:m.leaves.length≤1000
 ni:m.items.length≤1000
 li:(m.items.flatMap pi_).length≤260000000000
 ne:m.ents.length≤5000
structure MsgLn (m:Msg):Prop where
 texts:(m.texts.flatMap fb_).length≤1100000000
 leaves:(m.leaves.flatMap su_).length≤2100000000
 items:(m.items.flatMap pi_).length≤260000000000
 ents:(m.ents.flatMap entB).length≤16000000000
 obj:(objB m.obj).length≤12000000000
end Go.Proofs.YtcdidkliidjoeaaGreatDoor
end

section
set_option linter.all false
set_option maxRecDepth 100000
namespace Go.Proofs.YtcdidkliidjoeaaGreatDoor
open Go.Ab
def lett (c:Int):Bool:=decide (97≤c) && decide (c≤122) || (decide (48≤c) && decide (c≤57)) || decide (c=45)
def letB (b:UInt8):Bool:=lett b.toNat
def ik_ (s:ByteArray):Bool:=decide (1≤s.size) && decide (s.size≤16) && (Lb s).all letB
def m9_:Int→List Int→Bool
 |_,[]=>true
 |last,n :: l=>decide (last < n) && decide (n≤9007199254740992) && m9_ n l
def rp_ (x:Seen):Bool:=ik_ x.node && decide (0≤x.base) && decide (x.base≤9007199254740992) && !(decide (x.base=0) && decide (x.more.length=0))
def nc_ (x:Seen):Bool:=rp_ x && m9_ (x.base + 1) x.more
def he_ (pv:Option ByteArray) (s:ByteArray):Bool:=match pv with | none=>true | some p=>sLt p s
def o6_:Option ByteArray→Int→List Seen→Bool
 |_,_,[]=>true
 |pv,room,x :: l=>nc_ x && he_ pv x.node && decide ((x.more.length:Int)≤room) && o6_ (some x.node) (room - x.more.length) l
def si_ (c:List Seen):Bool:=o6_ none 4096 c
theorem cm_ {α:Type} {l:List α} {k:Nat} (h:k < l.length):∃ x,l[k]?=some x:=⟨l[k],List.getElem?_eq_getElem h⟩
end Go.Proofs.YtcdidkliidjoeaaGreatDoor
end
