/-
  Walks and plain laws for the statement (see the law's own text). Own work (an AI agent).
-/
import Derived.Test.YtkjfpgjpeofndaaGreatDoorGE
import Derived.Test.YtkjfpgjpeofndaaGreatDoorGM
import Derived.Lib.Bytealg

section
set_option linter.all false
set_option maxRecDepth 100000
namespace Go.Proofs.YtkjfpgjpeofndaaGreatDoor
open Go.Ab
def I64 (n:Int):Prop:=-9223372036854775808≤n∧n≤9223372036854775807
structure SeenRt (x:Seen):Prop where
 node:x.node.size≤1048576
 base:I64 x.base
 len:x.more.length≤65536
 more:∀ n∈x.more,I64 n
structure SibRt (x:Sib):Prop where
 node:x.node.size≤1048576
 n:I64 x.n
 value:x.value.size≤1048576
 time:I64 x.time
structure ObjRt (o:Obj'):Prop where
 ctx:∀ x∈o.ctx,SeenRt x
 sibs:∀ x∈o.sibs,SibRt x
 nc:o.ctx.length≤65536
 ns:o.sibs.length≤65536
def rdTx (x:Rd):ByteArray × Rd:=(B (al_ x).1,(al_ x).2)
def eO_ (x:Rd):Leaf × Rd :=
 let a:=al_ x;let b:=al_ a.2
 (⟨B a.1,B b.1⟩,b.2)
def dJ_ (x:Rd):Itm × Rd :=
 let a:=al_ x;let b:=c7_ a.2
 (⟨B a.1,b.1⟩,b.2)
def fj_ (x:Rd):Ent × Rd :=
 let a:=al_ x;let b:=aV_ a.2 8;let c:=al_ b.2;let d:=al_ c.2
 (⟨B a.1,b.1,B c.1,B d.1⟩,d.2)
def bY_ {α:Type} (f:Rd→α × Rd) (x:Rd):List α × Rd:=aK_ f (b7_ x 65536).1 (b7_ x 65536).2
theorem qE_ {o:Nat} {x:Rd} {σ:Store} (ho:σ.heap o=some (rdO x)):ACalls Tryz.prog 199 ([.ref o 0] ++ [] ++ []) σ fun v σ'=>v=vStr (rdTx x).1∧σ'.heap o=some (rdO (rdTx x).2)∧SubX [o] σ σ' :=
 (a9_ ho).mono fun v τ ⟨h1,h2⟩=>⟨h1,by rw [h2];exact Store.set_get ..,by rw [h2];exact SubX.self⟩
theorem oQ_ {o G N:Nat} {x0:Rd} {σ:Store} {fs cp:List AVal} {f:Rd→ByteArray × Rd} (Kp:Store→Prop) (hgo:isGo Tryz.prog G=true) (hK:∀ τ τ',Kp τ→SubX [o] τ τ'→Kp τ') (ho:σ.heap o=some (rdO x0)) (hKσ:Kp σ) (hNb:N≤65536)
  (hf:∀ τ y,τ.heap o=some (rdO y)→Kp τ→ACalls Tryz.prog G (fs ++ [] ++ cp) τ fun v τ'=>v=vStr (f y).1∧τ'.heap o=some (rdO (f y).2)∧SubX [o] τ τ') :
  ACalls Tryz.prog 443 [.ref o 0,vInt N,.fn (.func G) fs cp] σ fun v σ'=>v=.sl 1 ((if (aK_ f N x0).2.2 then (aK_ f N x0).1 else []).map vStr) false∧σ'.heap o=some (rdO (aK_ f N x0).2)∧SubX [o] σ σ':=by
 refine en_ Tryz.func443 Tryz.ntmps443 Tryz.results443 ?_
 refine rr_ ?_
 refine s_ ?_
 refine aa_ ?_
 refine rr_ ?_
 refine cq_ 9 1 rfl rfl rfl (by rfl) fun k7 hk7=>?_
 refine aa_ ?_
 refine ab_ ?_
 refine rr_ ?_
 refine s_ ?_
 refine aa_ ?_
 refine ah_ ?_
 refine ak_ (ι:=Store × Nat × List ByteArray × Rd × Nat) (fun ⟨τ,i,L,y,k⟩=>N - i) (fun ⟨τ,i,L,y,k⟩=>i≤N∧aK_ f N x0=(L ++ (aK_ f (N - i) y).1,(aK_ f (N - i) y).2)∧L.length=i∧τ.heap o=some (rdO y)∧SubX [o] σ τ∧τ.tok k=some (9,1)∧σ.tok k=none) (fun ⟨τ,i,L,y,k⟩=>[(0,.ref o 0),(1,vInt N),(2,.fn (.func G) fs cp),(7,.own k 1 (L.map vStr)),(8,vInt i)]) (fun ⟨τ,i,L,y,k⟩=>τ) (σ.newTok none k7 (9,1),0,[],x0,k7) ?_ ?_ ?_ ?_
 ·exact ⟨Nat.zero_le _,rfl,rfl,by rw [Store.newTok_heap];exact ho,bz_ hk7 a5_,Store.newTok_get ..,hk7⟩
 ·exact cv_
 ·exact Store.Wk.refl _
 rintro ⟨τ,i,L,y,k⟩ ⟨hi,h1,h2,h3,h4,h5,h6⟩
 simp only [ar_,av_]
 refine ab_ ?_
 refine ab_ ?_
 have R:=h3
 refine r_ ?_
 iterate 4 refine s_ ?_
 refine gt_ ?_
 refine bQ_ rfl rfl v_ rfl (fun hb=>aw_ (by rfl) (by rfl) (.inr ⟨by rfl,by rfl,by rfl⟩) g_ cg_ (fd_ h3)) ?_
 refine gt_ ?_
 refine s_ ?_
 refine aa_ ?_
 refine cd_ (fun hc3=>?_) (fun hc3=>?_)
 ·refine ae_ ?_
  refine ab_ ?_
  refine ah_ ?_
  have hn0:i < N∧y.2=true:=by simpa using hc3
  have hn1:N - i=(N - i - 1) + 1:=by omega
  have hy:=hn0.2
  refine r_ ?_
  iterate 2 refine s_ ?_
  refine aL_X rfl rfl (bu_ rfl rfl (.inl v_) g_ va_ (hf _ _ h3 (hK _ _ hKσ h4)) ?_);rintro _ υ ⟨rfl,hu1,hu2⟩
  refine aJ_ rfl rfl rfl g_ g_ rfl rfl h_ c2_ (by decide) ?_
  have R:=hu2.2 _ _ h5
  refine cp_ rfl rfl rfl g_ g_ v_ h_ v_ c_ (by simp;omega) fun k23 hk23=>?_
  refine s_ ?_
  refine aa_ ?_
  refine r_ ?_
  iterate 3 refine s_ ?_
  refine aa_ ?_
  refine bb_ (ι:=Store × Nat × List ByteArray × Rd × Nat) (i:=⟨τ,i,L,y,k⟩) (υ.newTok (some k) k23 (9,1),i + 1,L ++ [(f y).1],(f y).2,k23) ?_ ?_ ?_ ?_
  ·show N - (i + 1) < N - i;omega
  ·exact ⟨by show i + 1≤N;omega,by rw [h1,hn1,aK_,hy];simp [show N - i - 1=N - (i + 1) by omega],by simp [h2],by rw [Store.newTok_heap];exact hu1,SubX.newTok (SubX.trans h4 hu2) (fun j hj=>by cases hj;exact h6) hk23,Store.newTok_get ..,SubX.noTok (SubX.trans h4 hu2) hk23⟩
  ·exact cv_
  ·exact Store.Wk.refl _
 ·refine ay_ ?_
  refine af_ ?_
  refine af_ ?_
  refine aq_ ?_
  refine ab_ ?_
  refine ab_ ?_
  skip
  have hs:aK_ f N x0=(L,y):=by
   have hd:N - i=0∨y.2=false:=by
    rcases hc3 with h | h
    ·exact .inl (by omega)
    ·exact .inr (by simpa using h)
   rw [h1,em_ f hd];simp
  refine r_ ?_
  refine s_ ?_
  refine x_ g_ va_ (fd_ h3) ?_;rintro _ _ ⟨rfl,rfl⟩
  refine aa_ ?_
  refine cd_ (fun hc6=>?_) (fun hc6=>?_)
  ·refine rr_ ?_
   refine s_ ?_
   refine aa_ ?_
   refine ac_ ?_
   have hy:y.2=false:=by simpa using hc6
   refine a2_ (v:=.sl 1 ((if (aK_ f N x0).2.2 then (aK_ f N x0).1 else []).map vStr) false) (v':=.lit (.slice none 0 0)) (σ':=τ) va_ ?_ (Store.Wk.refl _) ⟨rfl,?_,h4⟩
   ·rw [hs,hy];exact .nil _ _
   ·rw [hs];exact h3
  ·refine ae_ ?_
   refine rr_ ?_
   iterate 2 refine s_ ?_
   refine aa_ ?_
   refine ac_ ?_
   have hy:y.2=true:=by simpa using hc6
   refine a2_ (v:=.sl 1 ((if (aK_ f N x0).2.2 then (aK_ f N x0).1 else []).map vStr) false) (v':=.own k 1 (L.map vStr)) (σ':=τ) va_ ?_ (Store.Wk.refl _) ⟨rfl,?_,h4⟩
   ·rw [hs,hy];exact .own1 _ _ _
   ·rw [hs];exact h3
theorem eQ_ {α:Type} {f:Rd→α × Rd} {x:Rd}:bd_ f x=(if (bY_ f x).2.2 then (bY_ f x).1 else [],(bY_ f x).2):=by
 unfold bd_ bY_
 dsimp only
 split <;> rfl
theorem tT_ {o:Nat} {x:Rd} {σ:Store} (ho:σ.heap o=some (rdO x)):ACalls Tryz.prog 306 [.ref o 0] σ fun v σ'=>v=.sl 1 ((bd_ rdTx x).1.map vStr) false∧σ'.heap o=some (rdO (bd_ rdTx x).2)∧SubX [o] σ σ':=by
 obtain ⟨N,hN⟩:∃ N,(b7_ x 65536).1=N:=⟨_,rfl⟩
 have hNb:N≤65536:=by rw [← hN];exact dp_ _ _
 refine en_ Tryz.func306 Tryz.ntmps306 Tryz.results306 ?_
 refine rr_ ?_
 refine s_ ?_
 refine aa_ ?_
 refine ab_ ?_
 have R:=hN
 refine r_ ?_
 iterate 2 refine s_ ?_
 refine x_ g_ va_ (cw_ (m:=65536) ho) ?_;rintro _ _ ⟨rfl,rfl⟩
 iterate 2 refine s_ ?_
 refine x_ g_ va_ (oQ_ (N:=N) (x0:=(b7_ x 65536).2) (f:=rdTx) (fun _=>True) kr_ (fun _ _ _ _=>trivial) (Store.set_get ..) trivial hNb (fun _ _ h _=>qE_ h)) ?_;rintro _ υ ⟨rfl,u1,u2⟩
 refine s_ ?_
 refine aa_ ?_
 refine ac_ ?_
 refine aE_ v_ (Store.Wk.refl _) ?_
 refine ⟨by rw [eQ_,bY_,hN],by rw [u1,eQ_,bY_,hN],SubX.trans SubX.self u2⟩
theorem oN_ {o G:Nat} {x:Rd} {σ:Store} {fs cp:List AVal} {f:Rd→Leaf × Rd} (Kp:Store→Prop) (hgo:isGo Tryz.prog G=true) (hK:∀ τ τ',Kp τ→SubX [o] τ τ'→Kp τ') (ho:σ.heap o=some (rdO x)) (hKσ:Kp σ)
  (hf:∀ τ y,τ.heap o=some (rdO y)→Kp τ→ACalls Tryz.prog G (fs ++ [] ++ cp) τ fun v τ'=>v=eV_ (f y).1∧τ'.heap o=some (rdO (f y).2)∧SubX [o] τ τ') :
  ACalls Tryz.prog 307 [.ref o 0,.fn (.func G) fs cp] σ fun v σ'=>v=.sl 2 ((bY_ f x).1.map eV_) false∧σ'.heap o=some (rdO (bY_ f x).2)∧SubX [o] σ σ':=by
 obtain ⟨N,hN⟩:∃ N,(b7_ x 65536).1=N:=⟨_,rfl⟩
 obtain ⟨x0,hx0⟩:∃ x0,(b7_ x 65536).2=x0:=⟨_,rfl⟩
 have hNb:N≤65536:=by rw [← hN];exact dp_ _ _
 refine en_ Tryz.func307 Tryz.ntmps307 Tryz.results307 ?_
 refine rr_ ?_
 refine s_ ?_
 refine aa_ ?_
 refine rr_ ?_
 refine cq_ 281 2 rfl rfl rfl (by rfl) fun k5 hk5=>?_
 refine aa_ ?_
 refine ab_ ?_
 refine ab_ ?_
 have R:=And.intro hN hx0
 refine r_ ?_
 refine s_ ?_
 refine x_ g_ va_ (cw_ (m:=65536) ho) ?_;rintro _ _ ⟨rfl,rfl⟩
 refine s_ ?_
 refine aa_ ?_
 refine ah_ ?_
 refine ak_ (ι:=Store × Nat × List Leaf × Rd × Nat) (fun ⟨τ,n,L,y,k⟩=>n) (fun ⟨τ,n,L,y,k⟩=>aK_ f N x0=(L ++ (aK_ f n y).1,(aK_ f n y).2)∧L.length + n≤65536∧τ.heap o=some (rdO y)∧SubX [o] σ τ∧τ.tok k=some (281,2)∧σ.tok k=none) (fun ⟨τ,n,L,y,k⟩=>[(0,.ref o 0),(1,.fn (.func G) fs cp),(5,.own k 2 (L.map eV_)),(6,vInt n)]) (fun ⟨τ,n,L,y,k⟩=>τ) ((σ.newTok none k5 (281,2)).set o (rdO x0),N,[],x0,k5) ?_ ?_ ?_ ?_
 ·exact ⟨rfl,by simpa using hNb,Store.set_get ..,SubX.trans (bz_ hk5 a5_) SubX.self,by rw [Store.set_tok];exact Store.newTok_get ..,hk5⟩
 ·have R:=hN;exact cv_
 ·rw [hx0];exact Store.Wk.refl _
 rintro ⟨τ,n,L,y,k⟩ ⟨h1,h2,h3,h4,h5,h6⟩
 simp only [ar_,av_]
 refine ab_ ?_
 refine ab_ ?_
 have R:=h3
 refine r_ ?_
 iterate 3 refine s_ ?_
 refine gt_ ?_
 refine bQ_ rfl rfl v_ rfl (fun hb=>aw_ (by rfl) (by rfl) (.inr ⟨by rfl,by rfl,by rfl⟩) g_ cg_ (fd_ h3)) ?_
 refine gt_ ?_
 refine s_ ?_
 refine aa_ ?_
 refine cd_ (fun hc3=>?_) (fun hc3=>?_)
 ·refine ae_ ?_
  refine ab_ ?_
  refine ah_ ?_
  have hn0:0 < n∧y.2=true:=by simpa using hc3
  have hn1:n=(n - 1) + 1:=by omega
  have hn2:(n:Int) - 1=((n - 1:Nat):Int):=by omega
  have hy:=hn0.2
  refine r_ ?_
  iterate 2 refine s_ ?_
  refine aL_X rfl rfl (bu_ rfl rfl (.inl v_) g_ va_ (hf _ _ h3 (hK _ _ hKσ h4)) ?_);rintro _ υ ⟨rfl,hu1,hu2⟩
  refine aJ_ rfl rfl rfl g_ g_ rfl rfl h_ c2_ (by decide) ?_
  have R:=hu2.2 _ _ h5
  refine cp_ rfl rfl rfl g_ g_ v_ h_ v_ c_ (by simp;omega) fun k22 hk22=>?_
  refine s_ ?_
  refine aa_ ?_
  refine r_ ?_
  iterate 3 refine s_ ?_
  refine aa_ ?_
  refine bb_ (ι:=Store × Nat × List Leaf × Rd × Nat) (i:=⟨τ,n,L,y,k⟩) (υ.newTok (some k) k22 (281,2),n - 1,L ++ [(f y).1],(f y).2,k22) ?_ ?_ ?_ ?_
  ·show n - 1 < n;omega
  ·exact ⟨by rw [h1,hn1,aK_,hy];simp,by simp;omega,hu1,SubX.newTok (SubX.trans h4 hu2) (fun j hj=>by cases hj;exact h6) hk22,Store.newTok_get ..,SubX.noTok (SubX.trans h4 hu2) hk22⟩
  ·have R:=hn2;exact cv_
  ·exact Store.Wk.refl _
 ·refine ay_ ?_
  refine af_ ?_
  refine af_ ?_
  refine aq_ ?_
  refine ab_ ?_
  skip
  have hs:bY_ f x=(L,y):=by
   have hd:n=0∨y.2=false:=by
    rcases hc3 with h | h
    ·exact .inl (by omega)
    ·exact .inr (by simpa using h)
   unfold bY_
   rw [hN,hx0,h1,em_ f hd];simp
  refine r_ ?_
  iterate 2 refine s_ ?_
  refine aa_ ?_
  refine ac_ ?_
  refine a2_ (v:=.sl 2 ((bY_ f x).1.map eV_) false) (v':=.own k 2 (L.map eV_)) (σ':=τ) va_ ?_ (Store.Wk.refl _) ⟨rfl,?_,h4⟩
  ·rw [hs];exact .own1 _ _ _
  ·rw [hs];exact h3
theorem oL_ {o G:Nat} {x:Rd} {σ:Store} {fs cp:List AVal} {f:Rd→Itm × Rd} (Kp:Store→Prop) (hgo:isGo Tryz.prog G=true) (hK:∀ τ τ',Kp τ→SubX [o] τ τ'→Kp τ') (ho:σ.heap o=some (rdO x)) (hKσ:Kp σ)
  (hf:∀ τ y,τ.heap o=some (rdO y)→Kp τ→ACalls Tryz.prog G (fs ++ [] ++ cp) τ fun v τ'=>v=cI_ (f y).1∧τ'.heap o=some (rdO (f y).2)∧SubX [o] τ τ') :
  ACalls Tryz.prog 309 [.ref o 0,.fn (.func G) fs cp] σ fun v σ'=>v=.sl 3 ((bY_ f x).1.map cI_) false∧σ'.heap o=some (rdO (bY_ f x).2)∧SubX [o] σ σ':=by
 obtain ⟨N,hN⟩:∃ N,(b7_ x 65536).1=N:=⟨_,rfl⟩
 obtain ⟨x0,hx0⟩:∃ x0,(b7_ x 65536).2=x0:=⟨_,rfl⟩
 have hNb:N≤65536:=by rw [← hN];exact dp_ _ _
 refine en_ Tryz.func309 Tryz.ntmps309 Tryz.results309 ?_
 refine rr_ ?_
 refine s_ ?_
 refine aa_ ?_
 refine rr_ ?_
 refine cq_ 118 3 rfl rfl rfl (by rfl) fun k5 hk5=>?_
 refine aa_ ?_
 refine ab_ ?_
 refine ab_ ?_
 have R:=And.intro hN hx0
 refine r_ ?_
 refine s_ ?_
 refine x_ g_ va_ (cw_ (m:=65536) ho) ?_;rintro _ _ ⟨rfl,rfl⟩
 refine s_ ?_
 refine aa_ ?_
 refine ah_ ?_
 refine ak_ (ι:=Store × Nat × List Itm × Rd × Nat) (fun ⟨τ,n,L,y,k⟩=>n) (fun ⟨τ,n,L,y,k⟩=>aK_ f N x0=(L ++ (aK_ f n y).1,(aK_ f n y).2)∧L.length + n≤65536∧τ.heap o=some (rdO y)∧SubX [o] σ τ∧τ.tok k=some (118,3)∧σ.tok k=none) (fun ⟨τ,n,L,y,k⟩=>[(0,.ref o 0),(1,.fn (.func G) fs cp),(5,.own k 3 (L.map cI_)),(6,vInt n)]) (fun ⟨τ,n,L,y,k⟩=>τ) ((σ.newTok none k5 (118,3)).set o (rdO x0),N,[],x0,k5) ?_ ?_ ?_ ?_
 ·exact ⟨rfl,by simpa using hNb,Store.set_get ..,SubX.trans (bz_ hk5 a5_) SubX.self,by rw [Store.set_tok];exact Store.newTok_get ..,hk5⟩
 ·have R:=hN;exact cv_
 ·rw [hx0];exact Store.Wk.refl _
 rintro ⟨τ,n,L,y,k⟩ ⟨h1,h2,h3,h4,h5,h6⟩
 simp only [ar_,av_]
 refine ab_ ?_
 refine ab_ ?_
 have R:=h3
 refine r_ ?_
 iterate 3 refine s_ ?_
 refine gt_ ?_
 refine bQ_ rfl rfl v_ rfl (fun hb=>aw_ (by rfl) (by rfl) (.inr ⟨by rfl,by rfl,by rfl⟩) g_ cg_ (fd_ h3)) ?_
 refine gt_ ?_
 refine s_ ?_
 refine aa_ ?_
 refine cd_ (fun hc3=>?_) (fun hc3=>?_)
 ·refine ae_ ?_
  refine ab_ ?_
  refine ah_ ?_
  have hn0:0 < n∧y.2=true:=by simpa using hc3
  have hn1:n=(n - 1) + 1:=by omega
  have hn2:(n:Int) - 1=((n - 1:Nat):Int):=by omega
  have hy:=hn0.2
  refine r_ ?_
  iterate 2 refine s_ ?_
  refine aL_X rfl rfl (bu_ rfl rfl (.inl v_) g_ va_ (hf _ _ h3 (hK _ _ hKσ h4)) ?_);rintro _ υ ⟨rfl,hu1,hu2⟩
  refine aJ_ rfl rfl rfl g_ g_ rfl rfl h_ c2_ (by decide) ?_
  have R:=hu2.2 _ _ h5
  refine cp_ rfl rfl rfl g_ g_ v_ h_ v_ c_ (by simp;omega) fun k22 hk22=>?_
  refine s_ ?_
  refine aa_ ?_
  refine r_ ?_
  iterate 3 refine s_ ?_
  refine aa_ ?_
  refine bb_ (ι:=Store × Nat × List Itm × Rd × Nat) (i:=⟨τ,n,L,y,k⟩) (υ.newTok (some k) k22 (118,3),n - 1,L ++ [(f y).1],(f y).2,k22) ?_ ?_ ?_ ?_
  ·show n - 1 < n;omega
  ·exact ⟨by rw [h1,hn1,aK_,hy];simp,by simp;omega,hu1,SubX.newTok (SubX.trans h4 hu2) (fun j hj=>by cases hj;exact h6) hk22,Store.newTok_get ..,SubX.noTok (SubX.trans h4 hu2) hk22⟩
  ·have R:=hn2;exact cv_
  ·exact Store.Wk.refl _
 ·refine ay_ ?_
  refine af_ ?_
  refine af_ ?_
  refine aq_ ?_
  refine ab_ ?_
  skip
  have hs:bY_ f x=(L,y):=by
   have hd:n=0∨y.2=false:=by
    rcases hc3 with h | h
    ·exact .inl (by omega)
    ·exact .inr (by simpa using h)
   unfold bY_
   rw [hN,hx0,h1,em_ f hd];simp
  refine r_ ?_
  iterate 2 refine s_ ?_
  refine aa_ ?_
  refine ac_ ?_
  refine a2_ (v:=.sl 3 ((bY_ f x).1.map cI_) false) (v':=.own k 3 (L.map cI_)) (σ':=τ) va_ ?_ (Store.Wk.refl _) ⟨rfl,?_,h4⟩
  ·rw [hs];exact .own1 _ _ _
  ·rw [hs];exact h3
theorem mc_ {o ob:Nat} {x:Rd} {σ:Store} (ho:σ.heap o=some (rdO x)) (hb:σ.heap ob=some (.cells [.ref o 0])):ACalls Tryz.prog 308 [.ref ob 0] σ fun v σ'=>v=eV_ (eO_ x).1∧σ'.heap o=some (rdO (eO_ x).2)∧SubX [o] σ σ':=by
 have hne:ob≠o:=fun hh=>by rw [hh,ho] at hb;cases hb
 refine en_ Tryz.func308 Tryz.ntmps308 Tryz.results308 ?_
 refine rr_ ?_
 refine lc_ fun o1 ho1=>?_
 repeat (rw [ad_] at ho1;obtain ⟨_,ho1⟩:=ho1)
 refine aa_ ?_
 have n1:=an_ ho ho1
 have n1b:=an_ hb ho1
 refine ab_ ?_
 have R:=hb
 refine r_ ?_
 refine s_ ?_
 refine x_ g_ va_ (a9_ (x:=x) (by first | exact ho | simp (disch:=omega) only [Store.set_ne,ho])) ?_;rintro _ _ ⟨rfl,rfl⟩
 refine s_ ?_
 refine aa_ ?_
 refine ab_ ?_
 have R:=hb
 refine r_ ?_
 iterate 2 refine s_ ?_
 refine x_ g_ va_ (a9_ (x:=(al_ x).2) (Store.set_get ..)) ?_;rintro _ _ ⟨rfl,rfl⟩
 refine s_ ?_
 refine st_ ?_
 refine aa_ ?_
 refine ac_ ?_
 refine aE_ v_ (Store.Wk.refl _) ?_
 refine ⟨rfl,by simp (disch:=omega) only [Store.set_ne,Store.set_get];rfl,?_⟩
 exact sub_
theorem eS_ {o:Nat} {x:Rd} {Q:Obj' × Rd} {σ:Store} (hQ:c7_ x=Q) (ho:σ.heap o=some (rdO x)):ACalls Tryz.prog 201 [.ref o 0] σ fun v σ'=>v=sObj Q.1∧σ'.heap o=some (rdO Q.2)∧SubX [o] σ σ':=by
 subst hQ;exact oE_ ho
theorem ox_ {x:Rd} {T:List UInt8} {y:Rd} {Q:Obj' × Rd} (h1:al_ x=(T,y)) (h2:c7_ y=Q):dJ_ x=(⟨B T,Q.1⟩,Q.2):=by
 unfold dJ_
 rw [h1];dsimp only;rw [h2]
theorem mb_ {o ob:Nat} {x:Rd} {σ:Store} (ho:σ.heap o=some (rdO x)) (hb:σ.heap ob=some (.cells [.ref o 0])):ACalls Tryz.prog 310 [.ref ob 0] σ fun v σ'=>v=cI_ (dJ_ x).1∧σ'.heap o=some (rdO (dJ_ x).2)∧SubX [o] σ σ':=by
 have hne:ob≠o:=fun hh=>by rw [hh,ho] at hb;cases hb
 obtain ⟨⟨T,y⟩,hT⟩:∃ Z,al_ x=Z:=⟨_,rfl⟩
 obtain ⟨Q,hQ⟩:∃ Q,c7_ y=Q:=⟨_,rfl⟩
 rw [ox_ hT hQ]
 refine en_ Tryz.func310 Tryz.ntmps310 Tryz.results310 ?_
 refine rr_ ?_
 refine lc_ fun o1 ho1=>?_
 repeat (rw [ad_] at ho1;obtain ⟨_,ho1⟩:=ho1)
 refine aa_ ?_
 have n1:=an_ ho ho1
 have n1b:=an_ hb ho1
 refine ab_ ?_
 have R:=And.intro hb hT
 refine r_ ?_
 refine s_ ?_
 refine x_ g_ va_ (a9_ (x:=x) (by first | exact ho | simp (disch:=omega) only [Store.set_ne,ho])) ?_;rintro _ _ ⟨rfl,rfl⟩
 refine s_ ?_
 refine aa_ ?_
 refine ab_ ?_
 have R:=And.intro hb hT
 refine r_ ?_
 iterate 2 refine s_ ?_
 refine x_ g_ va_ (eS_ (x:=y) hQ (by rw [hT];exact Store.set_get ..)) ?_;rintro _ υ ⟨rfl,u1,u2⟩
 have R:=keep (i:=o1) u2 h_ (by simp;omega)
 refine s_ ?_
 refine st_ ?_
 refine aa_ ?_
 refine ac_ ?_
 refine aE_ v_ (Store.Wk.refl _) ?_
 refine ⟨rfl,by simp (disch:=omega) only [Store.set_ne,u1],?_⟩
 exact ai_ ho1 (SubX.trans sub_ u2)
theorem oD_ {o:Nat} {x:Rd} {σ:Store} (ho:σ.heap o=some (rdO x)):ACalls Tryz.prog 444 [.agg [.ref o 0]] σ fun v σ'=>v=sEnt (fj_ x).1∧σ'.heap o=some (rdO (fj_ x).2)∧SubX [o] σ σ':=by
 obtain ⟨z,hz⟩:∃ z,AObj.cells [.lit (.string ⟨#[]⟩),.lit (.int .i64 0),.lit (.string ⟨#[]⟩),.lit (.string ⟨#[]⟩)]=z:=⟨_,rfl⟩
 obtain ⟨x1,e1⟩:∃ x1,aV_ (al_ x).2 8=x1:=⟨_,rfl⟩
 obtain ⟨x2,e2⟩:∃ x2,al_ x1.2=x2:=⟨_,rfl⟩
 obtain ⟨x3,e3⟩:∃ x3,al_ x2.2=x3:=⟨_,rfl⟩
 refine en_ Tryz.func444 Tryz.ntmps444 Tryz.results444 ?_
 refine rr_ ?_
 refine bx_ fun o1 ho1=>?_
 repeat (rw [ad_] at ho1;obtain ⟨_,ho1⟩:=ho1)
 refine lc_ fun o2 ho2=>?_
 repeat (rw [ad_] at ho2;obtain ⟨_,ho2⟩:=ho2)
 refine aa_ ?_
 have n1:=an_ ho ho1
 have n2:=an_ ho ho2
 refine rr_ ?_
 refine lc_ fun o3 ho3=>?_
 repeat (rw [ad_] at ho3;obtain ⟨_,ho3⟩:=ho3)
 refine aa_ ?_
 have n3:=an_ ho ho3
 refine bw_ (ι:=Store) (fun υ=>υ.heap o=some (rdO x1.2)∧υ.heap o1=some (.cells [.ref o 0])∧υ.heap o2=some z∧υ.heap o3=some (.cells [vStr (B (al_ x).1),vInt x1.1,.lit (.string ⟨#[]⟩),.lit (.string ⟨#[]⟩)])∧SubX [o] σ υ) (fun υ=>[(1,.ref o1 0),(2,.ref o2 0),(3,.ref o3 0)]) (fun υ=>υ) ?_ ?_
 ·refine aL_ (.op 0 0 (.op 3 0 (.alt 1 2 (.alt 2 2 (.op 6 0 (.op 4 2 (.op 5 2 (.op 7 2 (.op 8 0 (.op 9 0 (.op 10 2 .nil))))))) (.op 4 2 (.op 2 2 (.op 6 0 (.op 5 2 (.op 7 2 (.op 8 0 (.op 9 0 (.op 10 2 .nil))))))))) (.op 4 2 (.op 1 2 (.op 2 2 (.op 6 0 (.op 5 2 (.op 7 2 (.op 8 0 (.op 9 0 (.op 10 2 .nil)))))))))))) Tryz.mixed kr_ ?_
  iterate 2 refine ds_ ?_
  refine a3_ ?_ ?_
  ·refine dR_T o_ (by rfl) (by rfl) (ao_ v_ ?_)
   refine a3_ ?_ ?_
   ·refine tx_ o_ g_ va_ (a9_ (x:=x) (by first | exact ho | simp (disch:=omega) only [Store.set_ne,ho])) ?_;rintro _ _ ⟨rfl,rfl⟩
    refine ds_ ?_
    refine dR_T o_ (by rfl) (by rfl) (ao_ v_ ?_)
    refine tx_ o_ g_ va_ (cz_ (Store.set_get ..)) ?_;rintro _ _ ⟨rfl,rfl⟩
    refine dst_ ?_
    iterate 2 refine ds_ ?_
    refine dst_ ?_
    refine aG_ ?_
    refine ⟨(((((((σ.set o1 (.cells [.ref o 0])).set o2 (.cells [.lit (.string ⟨#[]⟩),.lit (.int .i64 0),.lit (.string ⟨#[]⟩),.lit (.string ⟨#[]⟩)])).set o3 (.cells [.lit (.string ⟨#[]⟩),.lit (.int .i64 0),.lit (.string ⟨#[]⟩),.lit (.string ⟨#[]⟩)])).set o (rdO (al_ x).2)).set o (rdO (aV_ (al_ x).2 8).2)).set o3 (.cells [vStr (B (al_ x).1),.lit (.int .i64 0),.lit (.string ⟨#[]⟩),.lit (.string ⟨#[]⟩)])).set o3 (.cells [vStr (B (al_ x).1),vInt (aV_ (al_ x).2 8).1,.lit (.string ⟨#[]⟩),.lit (.string ⟨#[]⟩)])),?_,?_,?_⟩
    ·rw [← e1,← hz];exact ⟨h_,h_,h_,h_,sub_⟩
    ·exact cv_
    ·exact Store.Wk.refl _
   refine dR_T o_ (by rfl) (by rfl) (ao_ v_ ?_)
   refine tx_ o_ g_ va_ (a9_ (x:=x) (by first | exact ho | simp (disch:=omega) only [Store.set_ne,ho])) ?_;rintro _ _ ⟨rfl,rfl⟩
   refine ds_ ?_
   refine tx_ o_ g_ va_ (cz_ (Store.set_get ..)) ?_;rintro _ _ ⟨rfl,rfl⟩
   refine dst_ ?_
   iterate 2 refine ds_ ?_
   refine dst_ ?_
   refine aG_ ?_
   refine ⟨(((((((σ.set o1 (.cells [.ref o 0])).set o2 (.cells [.lit (.string ⟨#[]⟩),.lit (.int .i64 0),.lit (.string ⟨#[]⟩),.lit (.string ⟨#[]⟩)])).set o3 (.cells [.lit (.string ⟨#[]⟩),.lit (.int .i64 0),.lit (.string ⟨#[]⟩),.lit (.string ⟨#[]⟩)])).set o (rdO (al_ x).2)).set o (rdO (aV_ (al_ x).2 8).2)).set o3 (.cells [vStr (B (al_ x).1),.lit (.int .i64 0),.lit (.string ⟨#[]⟩),.lit (.string ⟨#[]⟩)])).set o3 (.cells [vStr (B (al_ x).1),vInt (aV_ (al_ x).2 8).1,.lit (.string ⟨#[]⟩),.lit (.string ⟨#[]⟩)])),?_,?_,?_⟩
   ·rw [← e1,← hz];exact ⟨h_,h_,h_,h_,sub_⟩
   ·exact cv_
   ·exact Store.Wk.refl _
  refine dR_T o_ (by rfl) (by rfl) (ao_ v_ ?_)
  refine dR_T o_ (by rfl) (by rfl) (ao_ v_ ?_)
  refine tx_ o_ g_ va_ (a9_ (x:=x) (by first | exact ho | simp (disch:=omega) only [Store.set_ne,ho])) ?_;rintro _ _ ⟨rfl,rfl⟩
  refine ds_ ?_
  refine tx_ o_ g_ va_ (cz_ (Store.set_get ..)) ?_;rintro _ _ ⟨rfl,rfl⟩
  refine dst_ ?_
  iterate 2 refine ds_ ?_
  refine dst_ ?_
  refine aG_ ?_
  refine ⟨(((((((σ.set o1 (.cells [.ref o 0])).set o2 (.cells [.lit (.string ⟨#[]⟩),.lit (.int .i64 0),.lit (.string ⟨#[]⟩),.lit (.string ⟨#[]⟩)])).set o3 (.cells [.lit (.string ⟨#[]⟩),.lit (.int .i64 0),.lit (.string ⟨#[]⟩),.lit (.string ⟨#[]⟩)])).set o (rdO (al_ x).2)).set o (rdO (aV_ (al_ x).2 8).2)).set o3 (.cells [vStr (B (al_ x).1),.lit (.int .i64 0),.lit (.string ⟨#[]⟩),.lit (.string ⟨#[]⟩)])).set o3 (.cells [vStr (B (al_ x).1),vInt (aV_ (al_ x).2 8).1,.lit (.string ⟨#[]⟩),.lit (.string ⟨#[]⟩)])),?_,?_,?_⟩
  ·rw [← e1,← hz];exact ⟨h_,h_,h_,h_,sub_⟩
  ·exact cv_
  ·exact Store.Wk.refl _
 ·rintro υ ⟨u1,u2,u3,u4,u5⟩
  simp only [ar_,av_]
  refine bw_ (ι:=Store) (fun φ=>φ.heap o=some (rdO x3.2)∧φ.heap o2=some z∧φ.heap o3=some (.cells [vStr (B (al_ x).1),vInt x1.1,vStr (B x2.1),vStr (B x3.1)])∧SubX [o] σ φ) (fun φ=>[(1,.ref o1 0),(2,.ref o2 0),(3,.ref o3 0)]) (fun φ=>φ) ?_ ?_
  ·have R:=And.intro u2 u4
   refine aL_ (.op 0 0 (.op 3 0 (.alt 1 2 (.alt 2 2 (.op 6 0 (.op 7 0 (.op 4 2 (.op 5 2 (.op 8 2 (.op 9 0 (.op 10 0 (.op 11 2 .nil)))))))) (.op 4 2 (.op 2 2 (.op 6 0 (.op 7 0 (.op 5 2 (.op 8 2 (.op 9 0 (.op 10 0 (.op 11 2 .nil)))))))))) (.op 4 2 (.op 1 2 (.op 2 2 (.op 6 0 (.op 7 0 (.op 5 2 (.op 8 2 (.op 9 0 (.op 10 0 (.op 11 2 .nil))))))))))))) Tryz.mixed kr_ ?_
   iterate 2 refine ds_ ?_
   refine a3_ ?_ ?_
   ·refine dR_T o_ (by rfl) (by rfl) (ao_ v_ ?_)
    refine a3_ ?_ ?_
    ·refine tx_ o_ g_ va_ (a9_ (x:=x1.2) (by simp (disch:=omega) only [Store.set_ne,u1])) ?_;rintro _ _ ⟨rfl,rfl⟩
     iterate 2 refine ds_ ?_
     refine dR_T o_ (by rfl) (by rfl) (ao_ v_ ?_)
     refine tx_ o_ g_ va_ (a9_ (Store.set_get ..)) ?_;rintro _ _ ⟨rfl,rfl⟩
     refine dst_ ?_
     iterate 2 refine ds_ ?_
     refine dst_ ?_
     refine aG_ ?_
     refine ⟨((((υ.set o (rdO (al_ x1.2).2)).set o (rdO (al_ (al_ x1.2).2).2)).set o3 (.cells [vStr (B (al_ x).1),vInt x1.1,vStr (B (al_ x1.2).1),.lit (.string ⟨#[]⟩)])).set o3 (.cells [vStr (B (al_ x).1),vInt x1.1,vStr (B (al_ x1.2).1),vStr (B (al_ (al_ x1.2).2).1)])),?_,?_,?_⟩
     ·rw [← e3,← e2];exact ⟨by simp (disch:=omega) only [Store.set_ne,Store.set_get],by simp (disch:=omega) only [Store.set_ne,u3],h_,ai_ ho3 (ai_ ho3 (az_ (.head _) (az_ (.head _) u5)))⟩
     ·exact cv_
     ·exact Store.Wk.refl _
    refine dR_T o_ (by rfl) (by rfl) (ao_ v_ ?_)
    refine tx_ o_ g_ va_ (a9_ (x:=x1.2) (by simp (disch:=omega) only [Store.set_ne,u1])) ?_;rintro _ _ ⟨rfl,rfl⟩
    iterate 2 refine ds_ ?_
    refine tx_ o_ g_ va_ (a9_ (Store.set_get ..)) ?_;rintro _ _ ⟨rfl,rfl⟩
    refine dst_ ?_
    iterate 2 refine ds_ ?_
    refine dst_ ?_
    refine aG_ ?_
    refine ⟨((((υ.set o (rdO (al_ x1.2).2)).set o (rdO (al_ (al_ x1.2).2).2)).set o3 (.cells [vStr (B (al_ x).1),vInt x1.1,vStr (B (al_ x1.2).1),.lit (.string ⟨#[]⟩)])).set o3 (.cells [vStr (B (al_ x).1),vInt x1.1,vStr (B (al_ x1.2).1),vStr (B (al_ (al_ x1.2).2).1)])),?_,?_,?_⟩
    ·rw [← e3,← e2];exact ⟨by simp (disch:=omega) only [Store.set_ne,Store.set_get],by simp (disch:=omega) only [Store.set_ne,u3],h_,ai_ ho3 (ai_ ho3 (az_ (.head _) (az_ (.head _) u5)))⟩
    ·exact cv_
    ·exact Store.Wk.refl _
   refine dR_T o_ (by rfl) (by rfl) (ao_ v_ ?_)
   refine dR_T o_ (by rfl) (by rfl) (ao_ v_ ?_)
   refine tx_ o_ g_ va_ (a9_ (x:=x1.2) (by simp (disch:=omega) only [Store.set_ne,u1])) ?_;rintro _ _ ⟨rfl,rfl⟩
   iterate 2 refine ds_ ?_
   refine tx_ o_ g_ va_ (a9_ (Store.set_get ..)) ?_;rintro _ _ ⟨rfl,rfl⟩
   refine dst_ ?_
   iterate 2 refine ds_ ?_
   refine dst_ ?_
   refine aG_ ?_
   refine ⟨((((υ.set o (rdO (al_ x1.2).2)).set o (rdO (al_ (al_ x1.2).2).2)).set o3 (.cells [vStr (B (al_ x).1),vInt x1.1,vStr (B (al_ x1.2).1),.lit (.string ⟨#[]⟩)])).set o3 (.cells [vStr (B (al_ x).1),vInt x1.1,vStr (B (al_ x1.2).1),vStr (B (al_ (al_ x1.2).2).1)])),?_,?_,?_⟩
   ·rw [← e3,← e2];exact ⟨by simp (disch:=omega) only [Store.set_ne,Store.set_get],by simp (disch:=omega) only [Store.set_ne,u3],h_,ai_ ho3 (ai_ ho3 (az_ (.head _) (az_ (.head _) u5)))⟩
   ·exact cv_
   ·exact Store.Wk.refl _
  ·rintro φ ⟨q1,q3,q4,q5⟩
   simp only [ar_,av_]
   refine ab_ ?_
   have q3':φ.heap o2=some (.cells [.lit (.string ⟨#[]⟩),.lit (.int .i64 0),.lit (.string ⟨#[]⟩),.lit (.string ⟨#[]⟩)]):=by rw [q3,hz]
   have R:=And.intro q3' q4
   refine r_ ?_
   refine s_ ?_
   refine st_ ?_
   refine aa_ ?_
   refine ac_ ?_
   refine aE_ v_ (Store.Wk.refl _) ?_
   refine ⟨by subst e3;subst e2;subst e1;rfl,by simp (disch:=omega) only [Store.set_ne,q1];subst e3;subst e2;subst e1;rfl,ai_ ho2 q5⟩
theorem l9_ {o:Nat} {x:Rd} {σ:Store} (ho:σ.heap o=some (rdO x)):ACalls Tryz.prog 311 [.ref o 0] σ fun v σ'=>v=.sl 4 ((bd_ fj_ x).1.map sEnt) false∧σ'.heap o=some (rdO (bd_ fj_ x).2)∧SubX [o] σ σ':=by
 obtain ⟨f,hf⟩:∃ f,fj_=f:=⟨_,rfl⟩
 obtain ⟨N,hN⟩:∃ N,(b7_ x 65536).1=N:=⟨_,rfl⟩
 obtain ⟨x0,hx0⟩:∃ x0,(b7_ x 65536).2=x0:=⟨_,rfl⟩
 have hNb:N≤65536:=by rw [← hN];exact dp_ _ _
 rw [hf]
 refine en_ Tryz.func311 Tryz.ntmps311 Tryz.results311 ?_
 refine rr_ ?_
 refine s_ ?_
 refine aa_ ?_
 refine rr_ ?_
 iterate 4 refine s_ ?_
 refine aa_ ?_
 refine rr_ ?_
 refine cq_ 74 4 rfl rfl rfl (by rfl) fun k4 hk4=>?_
 refine aa_ ?_
 refine ab_ ?_
 refine ab_ ?_
 have R:=And.intro hN hx0
 refine r_ ?_
 refine s_ ?_
 refine x_ g_ va_ (cw_ (m:=65536) ho) ?_;rintro _ _ ⟨rfl,rfl⟩
 refine s_ ?_
 refine aa_ ?_
 refine ah_ ?_
 refine ak_ (ι:=Store × Nat × List Ent × Rd × Nat) (fun ⟨τ,n,L,y,k⟩=>n) (fun ⟨τ,n,L,y,k⟩=>aK_ f N x0=(L ++ (aK_ f n y).1,(aK_ f n y).2)∧L.length + n≤65536∧τ.heap o=some (rdO y)∧SubX [o] σ τ∧τ.tok k=some (74,4)∧σ.tok k=none) (fun ⟨τ,n,L,y,k⟩=>[(0,.ref o 0),(3,.fn (.func 444) [.agg [.ref o 0]] []),(4,.own k 4 (L.map sEnt)),(5,vInt n)]) (fun ⟨τ,n,L,y,k⟩=>τ) ((σ.newTok none k4 (74,4)).set o (rdO x0),N,[],x0,k4) ?_ ?_ ?_ ?_
 ·exact ⟨rfl,by simpa using hNb,Store.set_get ..,SubX.trans (bz_ hk4 a5_) SubX.self,by rw [Store.set_tok];exact Store.newTok_get ..,hk4⟩
 ·have R:=hN;exact cv_
 ·rw [hx0];exact Store.Wk.refl _
 rintro ⟨τ,n,L,y,k⟩ ⟨h1,h2,h3,h4,h5,h6⟩
 simp only [ar_,av_]
 refine ab_ ?_
 refine ab_ ?_
 have R:=h3
 refine r_ ?_
 iterate 3 refine s_ ?_
 refine gt_ ?_
 refine bQ_ rfl rfl v_ rfl (fun hb=>aw_ (by rfl) (by rfl) (.inr ⟨by rfl,by rfl,by rfl⟩) g_ cg_ (fd_ h3)) ?_
 refine gt_ ?_
 refine s_ ?_
 refine aa_ ?_
 refine cd_ (fun hc4=>?_) (fun hc4=>?_)
 ·refine ae_ ?_
  refine ab_ ?_
  refine ah_ ?_
  have hn0:0 < n∧y.2=true:=by simpa using hc4
  have hn1:n=(n - 1) + 1:=by omega
  have hn2:(n:Int) - 1=((n - 1:Nat):Int):=by omega
  have hy:=hn0.2
  refine r_ ?_
  iterate 2 refine s_ ?_
  refine aL_X rfl rfl (bu_ rfl rfl (.inl v_) g_ va_ (hf ▸ oD_ h3) ?_);rintro _ υ ⟨rfl,hu1,hu2⟩
  refine aJ_ rfl rfl rfl g_ g_ rfl rfl h_ c2_ (by decide) ?_
  have R:=hu2.2 _ _ h5
  refine cp_ rfl rfl rfl g_ g_ v_ h_ v_ c_ (by simp;omega) fun k24 hk24=>?_
  refine s_ ?_
  refine aa_ ?_
  refine r_ ?_
  iterate 3 refine s_ ?_
  refine aa_ ?_
  refine bb_ (ι:=Store × Nat × List Ent × Rd × Nat) (i:=⟨τ,n,L,y,k⟩) (υ.newTok (some k) k24 (74,4),n - 1,L ++ [(f y).1],(f y).2,k24) ?_ ?_ ?_ ?_
  ·show n - 1 < n;omega
  ·exact ⟨by rw [h1,hn1,aK_,hy];simp,by simp;omega,by rw [Store.newTok_heap];exact hu1,SubX.newTok (SubX.trans h4 hu2) (fun j hj=>by cases hj;exact h6) hk24,Store.newTok_get ..,SubX.noTok (SubX.trans h4 hu2) hk24⟩
  ·have R:=hn2;exact cv_
  ·exact Store.Wk.refl _
 ·refine ay_ ?_
  refine af_ ?_
  refine af_ ?_
  refine aq_ ?_
  refine ab_ ?_
  refine ab_ ?_
  skip
  have hs:bd_ f x=if y.2 then (L ++ (aK_ f n y).1,(aK_ f n y).2) else ([],y):=by
   unfold bd_
   rw [hN,hx0]
   dsimp only
   rw [h1]
   cases hy:y.2 with
   |false=>rw [cM_ f hy];simp [hy]
   |true =>
    have:n=0:=by rw [hy] at hc4;simp at hc4;omega
    subst this
    simp [aK_,hy]
  refine r_ ?_
  refine s_ ?_
  refine x_ g_ va_ (fd_ h3) ?_;rintro _ _ ⟨rfl,rfl⟩
  refine aa_ ?_
  refine cd_ (fun hc7=>?_) (fun hc7=>?_)
  ·refine rr_ ?_
   refine s_ ?_
   refine aa_ ?_
   refine ac_ ?_
   have hy:y.2=false:=by simpa using hc7
   rw [hy] at hs
   refine a2_ (v:=.sl 4 ((bd_ f x).1.map sEnt) false) (v':=.lit (.slice none 0 0)) (σ':=τ) va_ ?_ (Store.Wk.refl _) ⟨rfl,?_,h4⟩
   ·rw [hs];exact .nil _ _
   ·rw [hs];exact h3
  ·refine ae_ ?_
   refine rr_ ?_
   iterate 2 refine s_ ?_
   refine aa_ ?_
   refine ac_ ?_
   have hy:y.2=true:=by simpa using hc7
   have hn:n=0:=by rw [hy] at hc4;simp at hc4;omega
   rw [hy] at hs
   subst hn
   refine a2_ (v:=.sl 4 ((bd_ f x).1.map sEnt) false) (v':=.own k 4 (L.map sEnt)) (σ':=τ) va_ ?_ (Store.Wk.refl _) ⟨rfl,?_,h4⟩
   ·rw [hs];simp [aK_];exact .own1 _ _ _
   ·rw [hs];exact h3
def dd_ (x:Rd):Msg × Rd :=
 let a:=aV_ x 1;let b:=al_ a.2;let c:=al_ b.2;let d:=aV_ c.2 8;let e:=aV_ d.2 1;let f:=al_ e.2
 let g:=c7_ f.2;let h:=bd_ rdTx g.2;let i:=bY_ eO_ h.2;let j:=bY_ dJ_ i.2;let k:=bd_ fj_ j.2
 (⟨a.1,B b.1,B c.1,d.1,e.1,B f.1,g.1,h.1,i.1,j.1,k.1⟩,k.2)
theorem h1_ {x:Rd} {a:Int × Rd} {b c:List UInt8 × Rd} {d e:Int × Rd} {f:List UInt8 × Rd} {g:Obj' × Rd} {h:List ByteArray × Rd} {i:List Leaf × Rd} {j:List Itm × Rd} {k:List Ent × Rd} (ha:aV_ x 1=a) (hb:al_ a.2=b) (hc:al_ b.2=c) (hd:aV_ c.2 8=d) (he:aV_ d.2 1=e) (hf:al_ e.2=f)
  (hg:c7_ f.2=g) (hh:bd_ rdTx g.2=h) (hi:bY_ eO_ h.2=i) (hj:bY_ dJ_ i.2=j) (hk:bd_ fj_ j.2=k):dd_ x=(⟨a.1,B b.1,B c.1,d.1,e.1,B f.1,g.1,h.1,i.1,j.1,k.1⟩,k.2):=by
 unfold dd_
 dsimp only
 rw [ha,hb,hc,hd,he,hf,hg,hh,hi,hj,hk]
theorem a1_ {o:Nat} {x:Rd} {q:Int × Rd} {σ:Store} (hq:aV_ x 1=q) (ho:σ.heap o=some (rdO x)):ACalls Tryz.prog 198 [.ref o 0] σ fun v σ'=>v=vInt q.1∧σ'=σ.set o (rdO q.2):=by
 subst hq;exact fL_ ho
theorem cW_ {o:Nat} {x:Rd} {q:Int × Rd} {σ:Store} (hq:aV_ x 8=q) (ho:σ.heap o=some (rdO x)):ACalls Tryz.prog 206 [.ref o 0] σ fun v σ'=>v=vInt q.1∧σ'=σ.set o (rdO q.2):=by
 subst hq;exact cz_ ho
theorem aH_ {o:Nat} {x:Rd} {q:List UInt8 × Rd} {σ:Store} (hq:al_ x=q) (ho:σ.heap o=some (rdO x)):ACalls Tryz.prog 199 [.ref o 0] σ fun v σ'=>v=vStr (B q.1)∧σ'=σ.set o (rdO q.2):=by
 subst hq;exact a9_ ho
theorem j7_ {o:Nat} {x:Rd} {q:List ByteArray × Rd} {σ:Store} (hq:bd_ rdTx x=q) (ho:σ.heap o=some (rdO x)):ACalls Tryz.prog 306 [.ref o 0] σ fun v σ'=>v=.sl 1 (q.1.map vStr) false∧σ'.heap o=some (rdO q.2)∧SubX [o] σ σ':=by
 subst hq;exact tT_ ho
theorem ma_ {o:Nat} {x:Rd} {q:List Ent × Rd} {σ:Store} (hq:bd_ fj_ x=q) (ho:σ.heap o=some (rdO x)):ACalls Tryz.prog 311 [.ref o 0] σ fun v σ'=>v=.sl 4 (q.1.map sEnt) false∧σ'.heap o=some (rdO q.2)∧SubX [o] σ σ':=by
 subst hq;exact l9_ ho
theorem oO_ {o G:Nat} {x:Rd} {q:List Leaf × Rd} {σ:Store} {fs cp:List AVal} {f:Rd→Leaf × Rd} (Kp:Store→Prop) (hq:bY_ f x=q) (hgo:isGo Tryz.prog G=true) (hK:∀ τ τ',Kp τ→SubX [o] τ τ'→Kp τ') (ho:σ.heap o=some (rdO x)) (hKσ:Kp σ)
  (hf:∀ τ y,τ.heap o=some (rdO y)→Kp τ→ACalls Tryz.prog G (fs ++ [] ++ cp) τ fun v τ'=>v=eV_ (f y).1∧τ'.heap o=some (rdO (f y).2)∧SubX [o] τ τ') :
  ACalls Tryz.prog 307 [.ref o 0,.fn (.func G) fs cp] σ fun v σ'=>v=.sl 2 (q.1.map eV_) false∧σ'.heap o=some (rdO q.2)∧SubX [o] σ σ':=by
 subst hq;exact oN_ Kp hgo hK ho hKσ hf
theorem oM_ {o G:Nat} {x:Rd} {q:List Itm × Rd} {σ:Store} {fs cp:List AVal} {f:Rd→Itm × Rd} (Kp:Store→Prop) (hq:bY_ f x=q) (hgo:isGo Tryz.prog G=true) (hK:∀ τ τ',Kp τ→SubX [o] τ τ'→Kp τ') (ho:σ.heap o=some (rdO x)) (hKσ:Kp σ)
  (hf:∀ τ y,τ.heap o=some (rdO y)→Kp τ→ACalls Tryz.prog G (fs ++ [] ++ cp) τ fun v τ'=>v=cI_ (f y).1∧τ'.heap o=some (rdO (f y).2)∧SubX [o] τ τ') :
  ACalls Tryz.prog 309 [.ref o 0,.fn (.func G) fs cp] σ fun v σ'=>v=.sl 3 (q.1.map cI_) false∧σ'.heap o=some (rdO q.2)∧SubX [o] σ σ':=by
 subst hq;exact oL_ Kp hgo hK ho hKσ hf
def sS_ (s:ByteArray):Bool:=decide (1≤s.size) && decide (s.size≤64)
def idx47 (l:List UInt8):Int:=Lib.indexByte l 47
def cutS (s:ByteArray):ByteArray × ByteArray × Bool:=if 0≤idx47 (Lb s) then (s.extract 0 (idx47 (Lb s)).toNat,s.extract ((idx47 (Lb s)).toNat + 1) s.size,true) else (s,⟨#[]⟩,false)
def hr_ (s:ByteArray):ByteArray × ByteArray × Bool:=if (cutS s).2.2=true∧bX_ (cutS s).1=true∧sS_ (cutS s).2.1=true then ((cutS s).1,(cutS s).2.1,true) else (⟨#[]⟩,⟨#[]⟩,false)
def b4_ (s:ByteArray):Bool:=(hr_ s).2.2
theorem pW_ (l:List UInt8):-1≤idx47 l:=Lib.indexByte_ge l 47
theorem lW_ (b:UInt8) (l:List UInt8):idx47 (b :: l)=if b=47 then 0 else if idx47 l=-1 then -1 else idx47 l + 1:=by
 have h:idx47 (b :: l)=if b == 47 then 0 else if idx47 l == -1 then -1 else idx47 l + 1:=rfl
 rw [h]
 simp only [beq_iff_eq]
theorem kE_:∀ (l:List UInt8),idx47 l < l.length
 |[]=>by rw [show idx47 []=-1 from rfl];simp
 |b :: l=>by
  have ih:=kE_ l
  rw [lW_,List.length_cons]
  split
  ·omega
  ·split <;> omega
theorem sB_ {κ:K} {α:Operand→AVal} {x y:Operand} {ev:Operand→Value} {s:ByteArray} (hx:α x=vStr s) (hy:α y=.lit (.int .u8 47)) (h:∀ z∈#[x,y],Rv κ (α z) (ev z)):∃ cv,(Extern.BytealgIndexByte.indexByte (#[x,y].map ev)).run Tryz.prog κ.w=.ok cv κ.w∧Rv κ (vInt (idx47 (Lb s))) cv:=by
 have h1:=h x (by simp);have h2:=h y (by simp)
 rw [hx] at h1
 rw [hy] at h2
 refine ⟨_,?_,.lit _⟩
 rw [show #[x,y].map ev=#[ev x,ev y] from by simp,h1.litInv,h2.litInv]
 exact Lib.run_indexByteString s 47 κ.w
theorem indexByte_c {s:ByteArray} {σ:Store}:ACalls Tryz.prog 518 [vStr s,.lit (.int .u8 47)] σ fun v σ'=>v=vInt (idx47 (Lb s))∧σ=σ':=by
 refine en_ Tryz.func518 Tryz.ntmps518 Tryz.results518 ?_
 refine rr_ ?_
 refine s_ ?_
 refine aa_ ?_
 refine rr_ ?_
 iterate 2 refine s_ ?_
 refine aL_X rfl rfl (AOp_extern rfl (e:=Extern.BytealgIndexByte.indexByte) kr_ g_ (fun κ ev _ h=>sB_ (s:=s) va_ va_ h) ?_)
 refine s_ ?_
 refine aa_ ?_
 refine ac_ ?_
 refine er_ σ ?_
 exact ⟨rfl,rfl⟩
theorem eZ_ {s:ByteArray} {σ:Store}:ACalls Tryz.prog 403 [vStr s,vStr ⟨#[47]⟩] σ fun v σ'=>v=vInt (idx47 (Lb s))∧σ=σ':=by
 have hz:(ByteArray.mk #[47]).size=1:=rfl
 have hb:(ByteArray.mk #[47])[0]?=some 47:=rfl
 refine en_ Tryz.func403 Tryz.ntmps403 Tryz.results403 ?_
 refine rr_ ?_
 refine s_ ?_
 refine aa_ ?_
 refine ab_ ?_
 have R:=hz
 refine r_ ?_
 iterate 3 refine s_ ?_
 refine aa_ ?_
 refine ab_ ?_
 refine ah_ ?_
 refine rr_ ?_
 iterate 3 refine s_ ?_
 refine gf_ ?_
 refine gf_ ?_
 refine gf_ ?_
 iterate 2 refine s_ ?_
 refine aa_ ?_
 refine cd_ (fun hc2=>?_) (fun hc2=>?_)
 ·refine rr_ ?_
  refine s_ ?_
  refine aa_ ?_
  refine ac_ ?_
  refine er_ σ ?_
  refine ⟨?_,rfl⟩
  have h1:(ByteArray.mk #[47])=s:=by simpa using hc2
  rw [← h1];rfl
 ·refine rr_ ?_
  iterate 3 refine s_ ?_
  refine aa_ ?_
  refine cd_ (fun hc4=>?_) (fun hc4=>?_)
  ·refine ab_ ?_
   have R:=And.intro hb hz
   refine r_ ?_
   iterate 3 refine s_ ?_
   refine x_ g_ va_ (indexByte_c) ?_;rintro _ _ ⟨rfl,rfl⟩
   refine s_ ?_
   refine aa_ ?_
   refine ac_ ?_
   refine er_ σ ?_
   exact ⟨rfl,rfl⟩
  ·simp at hc4
theorem gb_ (s:ByteArray):(idx47 (Lb s)=-1∧cutS s=(s,⟨#[]⟩,false))∨∃ k:Nat,idx47 (Lb s)=k∧k < s.size∧cutS s=(s.extract 0 k,s.extract (k + 1) s.size,true):=by
 have h1:=pW_ (Lb s);have h2:=kE_ (Lb s)
 rw [aX_] at h2
 by_cases h:0≤idx47 (Lb s)
 ·refine .inr ⟨(idx47 (Lb s)).toNat,by omega,by omega,?_⟩
  rw [cutS,if_pos h]
 ·exact .inl ⟨by omega,by rw [cutS,if_neg h]⟩
theorem tG_ {s:ByteArray} {σ:Store} (hs:s.size≤1000000000000):ACalls Tryz.prog 258 [vStr s,vStr ⟨#[47]⟩] σ fun v σ'=>v=.tup [vStr (cutS s).1,vStr (cutS s).2.1,vB (cutS s).2.2]∧σ=σ':=by
 have hz:(ByteArray.mk #[47]).size=1:=rfl
 rcases gb_ s with ⟨he,hcut⟩ | ⟨k,he,hk,hcut⟩
 refine en_ Tryz.func258 Tryz.ntmps258 Tryz.results258 ?_
 refine rr_ ?_
 iterate 3 refine s_ ?_
 refine aa_ ?_
 refine ab_ ?_
 refine rr_ ?_
 iterate 2 refine s_ ?_
 refine x_ g_ va_ (eZ_) ?_;rintro _ _ ⟨rfl,rfl⟩
 refine s_ ?_
 refine aa_ ?_
 refine ab_ ?_
 have R:=he
 refine r_ ?_
 iterate 2 refine s_ ?_
 refine aa_ ?_
 refine cd_ (fun hc2=>?_) (fun hc2=>?_)
 ·first | exact absurd hc2 (by omega) | exact absurd hc2 (by decide) | (revert hc2;decide)
 ·refine ae_ ?_
  refine rr_ ?_
  iterate 4 refine s_ ?_
  refine aa_ ?_
  refine ac_ ?_
  refine er_ σ ?_
  exact ⟨by rw [hcut],rfl⟩
 refine en_ Tryz.func258 Tryz.ntmps258 Tryz.results258 ?_
 refine rr_ ?_
 iterate 3 refine s_ ?_
 refine aa_ ?_
 refine ab_ ?_
 refine rr_ ?_
 iterate 2 refine s_ ?_
 refine x_ g_ va_ (eZ_) ?_;rintro _ _ ⟨rfl,rfl⟩
 refine s_ ?_
 refine aa_ ?_
 refine ab_ ?_
 have R:=he
 refine r_ ?_
 iterate 2 refine s_ ?_
 refine aa_ ?_
 refine cd_ (fun hc2=>?_) (fun hc2=>?_)
 ·refine ab_ ?_
  have R:=And.intro he hz
  refine aL_ (.op 0 0 (.op 1 0 (.op 2 0 (.op 3 0 (.op 4 0 (.op 5 0 (.op 6 0 (.op 7 0 (.op 8 0 (.op 9 0 (.op 10 0 (.op 11 0 .nil)))))))))))) Tryz.mixed kr_ ?_
  iterate 12 refine ds_ ?_
  refine aG_ ?_
  refine ac_ ?_
  refine er_ σ ?_
  refine ⟨?_,rfl⟩
  have htn:((k:Int) + ((1:Nat):Int)).toNat=k + 1:=by omega
  rw [hcut,htn]
 ·exact absurd hc2 (by omega)
theorem w1_ {s:ByteArray} {σ:Store} (hs:s.size≤1000000000000):ACalls Tryz.prog 127 [vStr s,vStr ⟨#[47]⟩] σ fun v σ'=>v=.tup [vStr (cutS s).1,vStr (cutS s).2.1,vB (cutS s).2.2]∧σ=σ':=by
 refine en_ Tryz.func127 Tryz.ntmps127 Tryz.results127 ?_
 refine rr_ ?_
 iterate 3 refine s_ ?_
 refine aa_ ?_
 refine rr_ ?_
 iterate 2 refine s_ ?_
 refine x_ g_ va_ (tG_ hs) ?_;rintro _ _ ⟨rfl,rfl⟩
 iterate 6 refine s_ ?_
 refine aa_ ?_
 refine ac_ ?_
 refine er_ σ ?_
 exact ⟨rfl,rfl⟩
theorem sD_ {s:ByteArray} {σ:Store} (hs:s.size≤1000000000000):ACalls Tryz.prog 128 [vStr s] σ fun v σ'=>v=vB (sS_ s)∧σ=σ':=by
 have h0:s=⟨#[]⟩ ↔ s.size=0:=⟨fun h=>by rw [h];rfl,fun h=>by apply ByteArray.ext;exact Array.eq_empty_of_size_eq_zero h⟩
 refine en_ Tryz.func128 Tryz.ntmps128 Tryz.results128 ?_
 refine rr_ ?_
 refine s_ ?_
 refine aa_ ?_
 refine ab_ ?_
 have R:=h0
 refine r_ ?_
 iterate 3 refine s_ ?_
 refine gt_ ?_
 refine gt_ ?_
 refine gt_ ?_
 iterate 2 refine s_ ?_
 refine aa_ ?_
 refine ac_ ?_
 refine er_ σ ?_
 refine ⟨?_,rfl⟩
 unfold sS_
 by_cases h1:s.size=0 <;> by_cases h2:s.size≤64 <;> simp [h1,h2,h0] <;> omega
theorem na_ (s:ByteArray):(cutS s).1.size≤s.size∧(cutS s).2.1.size≤s.size:=by
 rcases gb_ s with ⟨he,hcut⟩ | ⟨k,he,hk,hcut⟩
 ·rw [hcut];exact ⟨Nat.le_refl _,Nat.zero_le _⟩
 ·rw [hcut]
  simp only [ByteArray.size_extract]
  omega
theorem tL_ {s:ByteArray} {σ:Store} (hs:s.size≤1000000000000):ACalls Tryz.prog 64 [vStr s] σ fun v σ'=>v=.tup [vStr (hr_ s).1,vStr (hr_ s).2.1,vB (hr_ s).2.2]∧σ=σ':=by
 obtain ⟨z1,z2⟩:=na_ s
 refine en_ Tryz.func64 Tryz.ntmps64 Tryz.results64 ?_
 refine rr_ ?_
 iterate 3 refine s_ ?_
 refine aa_ ?_
 refine rr_ ?_
 refine s_ ?_
 refine x_ g_ va_ (w1_ hs) ?_;rintro _ _ ⟨rfl,rfl⟩
 iterate 7 refine s_ ?_
 refine aa_ ?_
 refine ab_ ?_
 refine rr_ ?_
 iterate 3 refine s_ ?_
 refine gf_ ?_
 refine bi_ rfl rfl v_ rfl (fun hb=>aw_ (by rfl) (by rfl) (.inr ⟨by rfl,by rfl,by rfl⟩) g_ cg_ (cF_ (by omega))) ?_
 refine gf_ ?_
 iterate 2 refine s_ ?_
 refine gf_ ?_
 refine bi_ rfl rfl v_ rfl (fun hb=>aw_ (by rfl) (by rfl) (.inr ⟨by rfl,by rfl,by rfl⟩) g_ cg_ (sD_ (by omega))) ?_
 refine gf_ ?_
 refine s_ ?_
 refine aa_ ?_
 refine cd_ (fun hc2=>?_) (fun hc2=>?_)
 ·refine rr_ ?_
  iterate 3 refine s_ ?_
  refine aa_ ?_
  refine ac_ ?_
  refine er_ σ ?_
  refine ⟨?_,rfl⟩
  rw [hr_,if_neg (fun ⟨q1,q2,q3⟩=>by rcases hc2 with (h | h) | h <;> simp_all)]
 ·refine ae_ ?_
  refine rr_ ?_
  iterate 5 refine s_ ?_
  refine aa_ ?_
  refine ac_ ?_
  refine er_ σ ?_
  refine ⟨?_,rfl⟩
  rw [hr_,if_pos (by simpa [and_assoc] using hc2)]
theorem nx_ {s:ByteArray} {σ:Store} (hs:s.size≤1000000000000):ACalls Tryz.prog 200 [vStr s] σ fun v σ'=>v=vB (b4_ s)∧σ=σ':=by
 refine en_ Tryz.func200 Tryz.ntmps200 Tryz.results200 ?_
 refine rr_ ?_
 refine s_ ?_
 refine aa_ ?_
 refine rr_ ?_
 refine s_ ?_
 refine x_ g_ va_ (tL_ hs) ?_;rintro _ _ ⟨rfl,rfl⟩
 iterate 7 refine s_ ?_
 refine aa_ ?_
 refine rr_ ?_
 iterate 2 refine s_ ?_
 refine aa_ ?_
 refine ac_ ?_
 refine er_ σ ?_
 exact ⟨rfl,rfl⟩
def upGo {α:Type} (ok:α→Bool) (key:α→ByteArray):Option ByteArray→List α→Bool
 |_,[]=>true
 |pv,x :: l=>ok x && ca_ pv (key x) && upGo ok key (some (key x)) l
theorem lq_ {α:Type} {f g:α→Bool} {key:α→ByteArray}:∀ {pv:Option ByteArray} {l:List α},upGo (fun x=>f x && g x) key pv l=(upGo f key pv l && l.all g)
 |_,[]=>rfl
 |pv,x :: l=>by
  simp only [upGo,List.all_cons,lq_ (l:=l)]
  cases f x <;> cases g x <;> cases ca_ pv (key x) <;> simp
def pvK {α:Type} (key:α→ByteArray) (c:List α) (k:Nat):Option ByteArray:=if k=0 then none else (c[k - 1]?).map key
theorem hY_ {α:Type} {key:α→ByteArray} {c:List α} {k:Nat} {x:α} (h:c[k]?=some x):pvK key c (k + 1)=some (key x):=by simp [pvK,h]
theorem hZ_ {α:Type} (key:α→ByteArray) (c:List α) (k:Nat) (hk:k < c.length):∃ y:α,(0 < k→c[((k:Int) - 1).toNat]?=some y)∧∀ s,ca_ (pvK key c k) s=(decide (k=0) || sLt (key y) s):=by
 by_cases h0:k=0
 ·subst h0
  obtain ⟨y,hy⟩:=a0_ hk
  exact ⟨y,fun h=>by omega,fun s=>rfl⟩
 ·obtain ⟨y,hy⟩:=a0_ (l:=c) (k:=k - 1) (by omega)
  have e:((k:Int) - 1).toNat=k - 1:=by omega
  exact ⟨y,fun _=>by rw [e];exact hy,fun s=>by simp [pvK,h0,hy,ca_]⟩
theorem t0_ {a b r s:Bool} {k:Nat} (hb:b=(decide (k=0) || s)) (h:a=false∨0 < (k:Int)∧s=false):(a && b && r)=false:=by
 rcases h with h | ⟨h,h'⟩
 ·rw [h];rfl
 ·rw [hb,h',decide_eq_false (show ¬ k=0 by omega)];simp
theorem o9_ {a b r s:Bool} {k:Nat} (hb:b=(decide (k=0) || s)) (h:a=true∧((k:Int)≤0∨s=true)):(a && b && r)=r:=by
 obtain ⟨h1,h2⟩:=h
 have:b=true:=by
  rw [hb]
  rcases h2 with h | h
  ·rw [decide_eq_true (show k=0 by omega)];rfl
  ·rw [h];simp
 rw [h1,this];rfl
def hS_ (l:List Itm):Bool:=upGo (fun x=>b4_ x.place && dI_ x.obj) Itm.place none l
theorem ei_ {x:Itm} {σ:Store}:ACalls Tryz.prog 203 [cI_ x] σ fun v σ'=>v=vStr x.place∧σ=σ':=by
 refine en_ Tryz.func203 Tryz.ntmps203 Tryz.results203 ?_
 refine rr_ ?_
 refine bx_ fun o1 ho1=>?_
 repeat (rw [ad_] at ho1;obtain ⟨_,ho1⟩:=ho1)
 refine s_ ?_
 refine aa_ ?_
 refine rr_ ?_
 iterate 3 refine s_ ?_
 refine aa_ ?_
 refine ac_ ?_
 refine er_ σ ?_
 exact ⟨rfl,rfl⟩
theorem tv_ {l:List Itm} {t:Bool} {σ:Store} (hx:∀ x∈l,x.place.size≤1000000) (hn:l.length≤1000000):ACalls Tryz.prog 351 [.sl 3 (l.map cI_) t,.lit (.func (.func 203) #[] #[])] σ fun v σ'=>v=vB (upGo (fun x=>b4_ x.place) Itm.place none l)∧σ=σ':=by
 refine en_ Tryz.func351 Tryz.ntmps351 Tryz.results351 ?_
 refine rr_ ?_
 refine s_ ?_
 refine aa_ ?_
 refine ab_ ?_
 refine rr_ ?_
 iterate 3 refine s_ ?_
 refine aa_ ?_
 refine ah_ ?_
 refine ak_ (ι:=Nat) (fun k=>l.length - k) (fun k=>k≤l.length∧upGo (fun x=>b4_ x.place) Itm.place (pvK Itm.place l k) (l.drop k)=upGo (fun x=>b4_ x.place) Itm.place none l) (fun k=>[(0,.sl 3 (l.map cI_) t),(1,.lit (.func (.func 203) #[] #[])),(7,.sl 3 (l.map cI_) t),(8,vInt l.length),(9,vInt k)]) (fun k=>σ) 0 ?_ ?_ ?_ ?_
 ·exact ⟨Nat.zero_le _,rfl⟩
 ·exact cv_
 ·exact sub_
 rintro k ⟨hk,hr⟩
 simp only [ar_,av_]
 refine rr_ ?_
 refine s_ ?_
 refine aa_ ?_
 refine ab_ ?_
 refine cd_ (fun hc2=>?_) (fun hc2=>?_)
 ·refine ae_ ?_
  refine ab_ ?_
  refine ah_ ?_
  refine ab_ ?_
  obtain ⟨x,hxk⟩:=a0_ (l:=l) (k:=k) (by omega)
  have hsx:=hx x (List.mem_of_getElem? hxk)
  obtain ⟨y,hy,hah⟩:=hZ_ Itm.place l k (by omega)
  have hst:upGo (fun x=>b4_ x.place) Itm.place (pvK Itm.place l k) (l.drop k)=(b4_ x.place && ca_ (pvK Itm.place l k) x.place && upGo (fun x=>b4_ x.place) Itm.place (some x.place) (l.drop (k + 1))):=by rw [dc_ hxk];rfl
  have R:=hxk
  refine r_ ?_
  iterate 3 refine s_ ?_
  refine lc_ fun o6 ho6=>?_
  repeat (rw [ad_] at ho6;obtain ⟨_,ho6⟩:=ho6)
  refine s_ ?_
  refine st_ ?_
  refine aa_ ?_
  refine ab_ ?_
  have R:=hy
  refine aL_ (.op 0 0 (.op 1 0 (.op 2 1 (.op 3 1 (.op 4 0 (.op 5 0 (.op 6 0 (.op 7 0 (.op 8 0 (.op 9 0 (.op 10 0 (.op 11 0 (.op 12 0 (.op 13 0 (.op 14 0 (.op 16 0 (.op 17 0 (.op 15 1 (.op 18 1 (.op 19 0 (.op 20 0 (.op 21 0 .nil)))))))))))))))))))))) Tryz.mixed kr_ ?_
  iterate 2 refine ds_ ?_
  refine dR_X o_ (by rfl) (by rfl) (bu_ (by rfl) (by rfl) (.inr ⟨va_,by rfl,by rfl⟩) g_ va_ (ei_) ?_);rintro _ _ ⟨rfl,rfl⟩;refine ⟨sub_,?_⟩
  refine dx_ o_ g_ va_ (nx_ (by omega)) ?_;rintro _ _ ⟨rfl,rfl⟩;refine ⟨sub_,?_⟩
  iterate 2 refine ds_ ?_
  refine dgf_ ?_
  refine dgf_ ?_
  refine dgf_ ?_
  refine bl_ ?_
  refine bl_ ?_
  refine bl_ ?_
  refine bl_ ?_
  refine bl_ ?_
  refine bl_ ?_
  refine bl_ ?_
  refine bl_ ?_
  refine jD_ o_ (by rfl) (by rfl) v_ (by rfl) sub_ (fun hb=>aw_ (by rfl) (by rfl) (.inr ⟨vh_,by rfl,by rfl⟩) g_ cg_ (ei_)) ?_
  refine jD_ o_ (by rfl) (by rfl) v_ (by rfl) sub_ (fun hb=>aw_ (by rfl) (by rfl) (.inr ⟨vh_,by rfl,by rfl⟩) g_ cg_ (ei_)) ?_
  refine bl_ ?_
  refine dgf_ ?_
  refine ds_ ?_
  refine aG_ ?_
  refine cd_ (fun hc4=>?_) (fun hc4=>?_)
  ·refine rr_ ?_
   refine s_ ?_
   refine aa_ ?_
   refine ac_ ?_
   refine er_ σ ?_
   refine ⟨?_,rfl⟩
   rw [← hr,hst,t0_ (hah _) hc4]
  ·have hnx:upGo (fun x=>b4_ x.place) Itm.place (pvK Itm.place l (k + 1)) (l.drop (k + 1))=upGo (fun x=>b4_ x.place) Itm.place none l:=by rw [hY_ hxk,← hr,hst,o9_ (hah _) hc4]
   refine ae_ ?_
   refine r_ ?_
   iterate 2 refine s_ ?_
   refine aa_ ?_
   refine bb_ (ι:=Nat) (i:=k) (k + 1) ?_ ?_ ?_ ?_
   ·omega
   ·exact ⟨by omega,hnx⟩
   ·exact cv_
   ·exact sub_
 ·refine ay_ ?_
  refine af_ ?_
  refine af_ ?_
  refine aq_ ?_
  refine rr_ ?_
  refine s_ ?_
  refine aa_ ?_
  refine ac_ ?_
  refine er_ σ ?_
  refine ⟨?_,rfl⟩
  rw [← hr,List.drop_eq_nil_of_le (by omega)];rfl
theorem tu_ {σ:Store}:ACalls Tryz.prog 352 [.lit (.slice none 0 0),.lit (.func (.func 209) #[] #[])] σ fun v σ'=>v=vB true∧σ=σ':=by
 refine en_ Tryz.func352 Tryz.ntmps352 Tryz.results352 ?_
 refine rr_ ?_
 refine s_ ?_
 refine aa_ ?_
 refine ab_ ?_
 refine rr_ ?_
 iterate 3 refine s_ ?_
 refine aa_ ?_
 refine ah_ ?_
 refine ak_ (ι:=Nat) (fun k=>0 - k) (fun k=>k=0) (fun k=>[(0,.lit (.slice none 0 0)),(1,.lit (.func (.func 209) #[] #[])),(7,.lit (.slice none 0 0)),(8,vInt 0),(9,vInt k)]) (fun k=>σ) 0 ?_ ?_ ?_ ?_
 ·rfl
 ·exact cv_
 ·exact sub_
 rintro k hk
 simp only [ar_,av_]
 refine rr_ ?_
 refine s_ ?_
 refine aa_ ?_
 refine ab_ ?_
 refine cd_ (fun hc2=>?_) (fun hc2=>?_)
 ·subst hk;exact absurd hc2 (by decide)
 ·refine ay_ ?_
  refine af_ ?_
  refine af_ ?_
  refine aq_ ?_
  refine rr_ ?_
  refine s_ ?_
  refine aa_ ?_
  refine ac_ ?_
  refine er_ σ ?_
  exact ⟨rfl,rfl⟩
theorem mW_ {x:Itm} {σ:Store} (hx:ObjSm x.obj):ACalls Tryz.prog 354 [cI_ x] σ fun v σ'=>v=vB (!dI_ x.obj)∧σ=σ':=by
 refine en_ Tryz.func354 Tryz.ntmps354 Tryz.results354 ?_
 refine rr_ ?_
 refine bx_ fun o1 ho1=>?_
 repeat (rw [ad_] at ho1;obtain ⟨_,ho1⟩:=ho1)
 refine s_ ?_
 refine aa_ ?_
 refine rr_ ?_
 iterate 2 refine s_ ?_
 refine x_ g_ va_ (kO_ hx) ?_;rintro _ _ ⟨rfl,rfl⟩
 iterate 2 refine s_ ?_
 refine aa_ ?_
 refine ac_ ?_
 refine er_ σ ?_
 refine ⟨?_,rfl⟩
 cases dI_ x.obj <;> rfl
theorem pY_ {l:List Itm} {t:Bool} {σ:Store} (hx:∀ x∈l,ObjSm x.obj) (hn:l.length≤1000000):ACalls Tryz.prog 366 [.sl 3 (l.map cI_) t,.lit (.func (.func 354) #[] #[])] σ fun v σ'=>(∃ r,v=vInt r∧decide (0≤r)=l.any (fun x=>!dI_ x.obj))∧σ=σ':=by
 refine en_ Tryz.func366 Tryz.ntmps366 Tryz.results366 ?_
 refine rr_ ?_
 refine s_ ?_
 refine aa_ ?_
 refine ab_ ?_
 refine rr_ ?_
 iterate 3 refine s_ ?_
 refine aa_ ?_
 refine ah_ ?_
 refine ak_ (ι:=Nat) (fun k=>l.length - k) (fun k=>k≤l.length∧(l.take k).any (fun x=>!dI_ x.obj)=false) (fun k=>[(0,.sl 3 (l.map cI_) t),(1,.lit (.func (.func 354) #[] #[])),(7,vInt l.length),(8,vInt k)]) (fun k=>σ) 0 ?_ ?_ ?_ ?_
 ·exact ⟨Nat.zero_le _,rfl⟩
 ·exact cv_
 ·exact sub_
 rintro k ⟨hk,ha⟩
 simp only [ar_,av_]
 refine rr_ ?_
 refine s_ ?_
 refine aa_ ?_
 refine ab_ ?_
 refine cd_ (fun hc2=>?_) (fun hc2=>?_)
 ·refine ae_ ?_
  refine ab_ ?_
  refine ah_ ?_
  refine ab_ ?_
  obtain ⟨x,hxk⟩:=a0_ (l:=l) (k:=k) (by omega)
  have hsx:=hx x (List.mem_of_getElem? hxk)
  refine r_ ?_
  iterate 2 refine s_ ?_
  refine aa_ ?_
  refine ab_ ?_
  have R:=hxk
  refine r_ ?_
  iterate 5 refine s_ ?_
  refine aL_X rfl rfl (bu_ rfl rfl (.inr ⟨va_,rfl,rfl⟩) g_ va_ (mW_ hsx) ?_);rintro _ _ ⟨rfl,rfl⟩
  refine aa_ ?_
  refine cd_ (fun hc4=>?_) (fun hc4=>?_)
  ·refine rr_ ?_
   iterate 2 refine s_ ?_
   refine aa_ ?_
   refine ac_ ?_
   refine er_ σ ?_
   exact ⟨⟨(k:Int),rfl,by rw [decide_eq_true (by omega)];exact (jr_ hxk (by simpa using hc4)).symm⟩,rfl⟩
  ·refine ae_ ?_
   refine r_ ?_
   iterate 2 refine s_ ?_
   refine aa_ ?_
   refine bb_ (ι:=Nat) (i:=k) (k + 1) ?_ ?_ ?_ ?_
   ·omega
   ·exact ⟨by omega,hD_ hxk (by simpa using hc4) ha⟩
   ·exact cv_
   ·exact sub_
 ·refine ay_ ?_
  refine af_ ?_
  refine af_ ?_
  refine aq_ ?_
  refine rr_ ?_
  refine s_ ?_
  refine aa_ ?_
  refine ac_ ?_
  refine er_ σ ?_
  exact ⟨⟨-1,rfl,(jq_ (by omega) ha).symm⟩,rfl⟩
theorem jz_ {l:List Itm} {t:Bool} {σ:Store} (hx:∀ x∈l,ObjSm x.obj) (hn:l.length≤1000000):ACalls Tryz.prog 353 [.sl 3 (l.map cI_) t,.lit (.func (.func 354) #[] #[])] σ fun v σ'=>v=vB (l.any fun x=>!dI_ x.obj)∧σ=σ':=by
 refine en_ Tryz.func353 Tryz.ntmps353 Tryz.results353 ?_
 refine rr_ ?_
 refine s_ ?_
 refine aa_ ?_
 refine rr_ ?_
 iterate 2 refine s_ ?_
 refine x_ g_ va_ (pY_ hx hn) ?_;rintro _ _ ⟨⟨r,rfl,hr⟩,rfl⟩
 iterate 2 refine s_ ?_
 refine aa_ ?_
 refine ac_ ?_
 refine er_ σ ?_
 exact ⟨by rw [← hr],rfl⟩
theorem pX_ {σ:Store}:ACalls Tryz.prog 369 [.lit (.slice none 0 0),.lit (.func (.func 356) #[] #[])] σ fun v σ'=>v=vInt (-1)∧σ=σ':=by
 refine en_ Tryz.func369 Tryz.ntmps369 Tryz.results369 ?_
 refine rr_ ?_
 refine s_ ?_
 refine aa_ ?_
 refine ab_ ?_
 refine rr_ ?_
 iterate 3 refine s_ ?_
 refine aa_ ?_
 refine ah_ ?_
 refine ak_ (ι:=Nat) (fun k=>0 - k) (fun k=>k=0) (fun k=>[(0,.lit (.slice none 0 0)),(1,.lit (.func (.func 356) #[] #[])),(7,vInt 0),(8,vInt k)]) (fun k=>σ) 0 ?_ ?_ ?_ ?_
 ·rfl
 ·exact cv_
 ·exact sub_
 rintro k hk
 simp only [ar_,av_]
 refine rr_ ?_
 refine s_ ?_
 refine aa_ ?_
 refine ab_ ?_
 refine cd_ (fun hc2=>?_) (fun hc2=>?_)
 ·subst hk;exact absurd hc2 (by decide)
 ·refine ay_ ?_
  refine af_ ?_
  refine af_ ?_
  refine aq_ ?_
  refine rr_ ?_
  refine s_ ?_
  refine aa_ ?_
  refine ac_ ?_
  refine er_ σ ?_
  exact ⟨rfl,rfl⟩
theorem jy_ {σ:Store}:ACalls Tryz.prog 355 [.lit (.slice none 0 0),.lit (.func (.func 356) #[] #[])] σ fun v σ'=>v=vB false∧σ=σ':=by
 refine en_ Tryz.func355 Tryz.ntmps355 Tryz.results355 ?_
 refine rr_ ?_
 refine s_ ?_
 refine aa_ ?_
 refine rr_ ?_
 iterate 2 refine s_ ?_
 refine x_ g_ va_ (pX_) ?_;rintro _ _ ⟨rfl,rfl⟩
 iterate 2 refine s_ ?_
 refine aa_ ?_
 refine ac_ ?_
 refine er_ σ ?_
 exact ⟨rfl,rfl⟩
theorem jt_ {l:List Itm} {t:Bool} {σ:Store} (hx:∀ x∈l,ItemSm x) (hn:l.length≤1000000):ACalls Tryz.prog 182 [.agg [.sl 3 (l.map cI_) t,.lit (.slice none 0 0)]] σ fun v σ'=>v=vInt (if hS_ l then 0 else 1)∧σ=σ':=by
 have hob:hS_ l=(upGo (fun x=>b4_ x.place) Itm.place none l && l.all fun x=>dI_ x.obj):=lq_
 have hna:(l.all fun x=>dI_ x.obj)=!(l.any fun x=>!dI_ x.obj):=by rw [List.not_any_eq_all_not];simp
 rw [hna] at hob
 refine en_ Tryz.func182 Tryz.ntmps182 Tryz.results182 ?_
 refine rr_ ?_
 refine bx_ fun o1 ho1=>?_
 repeat (rw [ad_] at ho1;obtain ⟨_,ho1⟩:=ho1)
 refine s_ ?_
 refine aa_ ?_
 refine rr_ ?_
 iterate 2 refine s_ ?_
 refine x_ g_ va_ (tv_ (fun x h=>(hx x h).place) hn) ?_;rintro _ _ ⟨rfl,rfl⟩
 iterate 2 refine s_ ?_
 refine gf_ ?_
 refine gf_ ?_
 refine bi_ rfl rfl v_ rfl (fun hb=>aw_ (by rfl) (by rfl) (.inr ⟨by rfl,by rfl,by rfl⟩) g_ cg_ (tu_)) ?_
 refine gf_ ?_
 iterate 2 refine s_ ?_
 refine aa_ ?_
 refine rr_ ?_
 iterate 2 refine s_ ?_
 refine gf_ ?_
 refine gf_ ?_
 refine bi_ rfl rfl v_ rfl (fun hb=>aw_ (by rfl) (by rfl) (.inr ⟨by rfl,by rfl,by rfl⟩) g_ cg_ (jz_ (fun x h=>(hx x h).obj) hn)) ?_
 iterate 2 refine s_ ?_
 refine aa_ ?_
 refine ab_ ?_
 refine rr_ ?_
 iterate 2 refine s_ ?_
 refine gf_ ?_
 refine gf_ ?_
 refine bi_ rfl rfl v_ rfl (fun hb=>aw_ (by rfl) (by rfl) (.inr ⟨by rfl,by rfl,by rfl⟩) g_ cg_ (jy_)) ?_
 refine s_ ?_
 refine aa_ ?_
 refine cd_ (fun hc3=>?_) (fun hc3=>?_)
 ·refine rr_ ?_
  refine s_ ?_
  refine aa_ ?_
  refine ac_ ?_
  refine er_ σ ?_
  refine ⟨?_,rfl⟩
  rw [hob]
  rcases hc3 with h | h <;> simp [h]
 ·refine ae_ ?_
  refine rr_ ?_
  refine s_ ?_
  refine aa_ ?_
  refine ac_ ?_
  refine er_ σ ?_
  refine ⟨?_,rfl⟩
  rw [hob];simp [hc3]
def gT_ (n:Int) (w v:ByteArray):Bool:=decide (1≤n) && decide (n≤9007199254740992) && (decide (w.size=0) || bX_ w) && decide (v.size≤256)
def dm_ (x:Ent):Bool:=decide (1≤x.key.size) && decide (x.key.size≤128) && gT_ x.n x.who x.value
def ct_ (l:List Ent):Bool:=decide (l.length≤4096) && upGo dm_ Ent.key none l
theorem ne0 (s:ByteArray):s=⟨#[]⟩ ↔ s.size=0:=⟨fun h=>by rw [h];rfl,fun h=>by apply ByteArray.ext;exact Array.eq_empty_of_size_eq_zero h⟩
theorem mg_ {n:Int} {w v:ByteArray} {σ:Store} (hw:w.size≤1000000):ACalls Tryz.prog 371 [.agg [vInt n,vStr w,vStr v]] σ fun u σ'=>u=vInt (if gT_ n w v then 0 else 1)∧σ=σ':=by
 have hw0:=ne0 w
 refine en_ Tryz.func371 Tryz.ntmps371 Tryz.results371 ?_
 refine rr_ ?_
 refine bx_ fun o1 ho1=>?_
 repeat (rw [ad_] at ho1;obtain ⟨_,ho1⟩:=ho1)
 refine s_ ?_
 refine aa_ ?_
 refine ab_ ?_
 refine ab_ ?_
 have R:=hw0
 refine r_ ?_
 iterate 4 refine s_ ?_
 refine gf_ ?_
 refine gf_ ?_
 refine gf_ ?_
 iterate 2 refine s_ ?_
 refine gf_ ?_
 refine gf_ ?_
 refine gf_ ?_
 refine gf_ ?_
 refine c0_ rfl rfl v_ rfl vg_ ?_
 refine c0_ rfl rfl v_ rfl vg_ ?_
 refine rS_ rfl rfl v_ rfl (fun hb=>aw_ (by rfl) (by rfl) (.inr ⟨by rfl,by rfl,by rfl⟩) g_ cg_ (cF_ (by omega))) ?_
 refine c0_ rfl rfl v_ rfl vg_ ?_
 refine gf_ ?_
 iterate 2 refine s_ ?_
 refine gf_ ?_
 refine gf_ ?_
 refine gf_ ?_
 refine gf_ ?_
 refine s_ ?_
 refine aa_ ?_
 refine cd_ (fun hc1=>?_) (fun hc1=>?_)
 ·refine rr_ ?_
  refine s_ ?_
  refine aa_ ?_
  refine ac_ ?_
  refine er_ σ ?_
  refine ⟨?_,rfl⟩
  have:gT_ n w v=false:=by
   unfold gT_
   rcases hc1 with ((h | h) | h) | h
   ·rw [decide_eq_false (show ¬ 1≤n by omega)];rfl
   ·rw [decide_eq_false (show ¬ n≤9007199254740992 by omega)];simp
   ·rw [decide_eq_false (show ¬ w.size=0 by omega),h.2];simp
   ·rw [decide_eq_false (show ¬ v.size≤256 by omega)];simp
  rw [this];rfl
 ·refine ae_ ?_
  refine rr_ ?_
  refine s_ ?_
  refine aa_ ?_
  refine ac_ ?_
  refine er_ σ ?_
  refine ⟨?_,rfl⟩
  have:gT_ n w v=true:=by
   unfold gT_
   obtain ⟨⟨⟨h1,h2⟩,h3⟩,h4⟩:=hc1
   rw [decide_eq_true (show 1≤n by omega),decide_eq_true (show n≤9007199254740992 by omega),decide_eq_true (show v.size≤256 by omega)]
   rcases h3 with h | h
   ·rw [decide_eq_true (show w.size=0 by omega)];rfl
   ·rw [h];simp
  rw [this];rfl
theorem nu_ {x:Ent} {σ:Store} (hx:EntSm x):ACalls Tryz.prog 211 [sEnt x] σ fun u σ'=>u=vB (dm_ x)∧σ=σ':=by
 have h1:=hx.key;have h2:=hx.who
 have hk0:=ne0 x.key
 refine en_ Tryz.func211 Tryz.ntmps211 Tryz.results211 ?_
 refine rr_ ?_
 refine bx_ fun o1 ho1=>?_
 repeat (rw [ad_] at ho1;obtain ⟨_,ho1⟩:=ho1)
 refine s_ ?_
 refine aa_ ?_
 refine ab_ ?_
 have R:=hk0
 refine r_ ?_
 iterate 4 refine s_ ?_
 refine gt_ ?_
 refine gt_ ?_
 refine gt_ ?_
 refine gt_ ?_
 iterate 2 refine s_ ?_
 refine gt_ ?_
 refine gt_ ?_
 refine bQ_ rfl rfl v_ rfl (fun hb=>aw_ (by rfl) (by rfl) (.inr ⟨by rfl,by rfl,by rfl⟩) g_ cg_ (mg_ (by omega))) ?_
 refine gt_ ?_
 iterate 2 refine s_ ?_
 refine aa_ ?_
 refine ac_ ?_
 refine er_ σ ?_
 refine ⟨?_,rfl⟩
 unfold dm_
 by_cases q1:x.key.size=0 <;> by_cases q2:x.key.size≤128 <;> cases gT_ x.n x.who x.value <;> simp [q1,q2,hk0] <;> omega
theorem op_ {n:Int} {w v:ByteArray} {σ:Store} (hw:w.size≤1000000):ACalls Tryz.prog 123 [.agg [vInt n,vStr w,vStr v]] σ fun u σ'=>u=vB (gT_ n w v)∧σ=σ':=by
 have hw0:=ne0 w
 refine en_ Tryz.func123 Tryz.ntmps123 Tryz.results123 ?_
 refine rr_ ?_
 refine bx_ fun o1 ho1=>?_
 repeat (rw [ad_] at ho1;obtain ⟨_,ho1⟩:=ho1)
 refine s_ ?_
 refine aa_ ?_
 refine ab_ ?_
 have R:=hw0
 refine r_ ?_
 iterate 4 refine s_ ?_
 refine gt_ ?_
 refine gt_ ?_
 refine gt_ ?_
 iterate 2 refine s_ ?_
 refine gt_ ?_
 refine gt_ ?_
 refine gt_ ?_
 refine gt_ ?_
 refine bJ_ rfl rfl v_ rfl vg_ ?_
 refine bJ_ rfl rfl v_ rfl vg_ ?_
 refine my_ rfl rfl v_ rfl (fun hb=>aw_ (by rfl) (by rfl) (.inr ⟨by rfl,by rfl,by rfl⟩) g_ cg_ (xY_ (by omega))) ?_
 refine gt_ ?_
 iterate 2 refine s_ ?_
 refine gt_ ?_
 refine gt_ ?_
 refine gt_ ?_
 refine gt_ ?_
 iterate 2 refine s_ ?_
 refine aa_ ?_
 refine ac_ ?_
 refine er_ σ ?_
 refine ⟨?_,rfl⟩
 unfold gT_
 by_cases q1:1≤n <;> by_cases q2:n≤9007199254740992 <;> by_cases q3:w.size=0 <;> by_cases q4:v.size≤256 <;> cases bX_ w <;> simp [q1,q2,q3,q4,hw0] <;> omega
theorem l7_ {x:Ent} {σ:Store} (hx:EntSm x):ACalls Tryz.prog 61 [sEnt x] σ fun u σ'=>u=vB (dm_ x)∧σ=σ':=by
 have h1:=hx.key;have h2:=hx.who
 refine en_ Tryz.func61 Tryz.ntmps61 Tryz.results61 ?_
 refine rr_ ?_
 refine bx_ fun o1 ho1=>?_
 repeat (rw [ad_] at ho1;obtain ⟨_,ho1⟩:=ho1)
 refine s_ ?_
 refine aa_ ?_
 refine rr_ ?_
 iterate 5 refine s_ ?_
 refine gt_ ?_
 refine gt_ ?_
 refine gt_ ?_
 refine gt_ ?_
 iterate 2 refine s_ ?_
 refine gt_ ?_
 refine gt_ ?_
 refine bQ_ rfl rfl v_ rfl (fun hb=>aw_ (by rfl) (by rfl) (.inr ⟨by rfl,by rfl,by rfl⟩) g_ cg_ (op_ (by omega))) ?_
 iterate 2 refine s_ ?_
 refine aa_ ?_
 refine ac_ ?_
 refine er_ σ ?_
 refine ⟨?_,rfl⟩
 unfold dm_
 by_cases q1:1≤x.key.size <;> by_cases q2:x.key.size≤128 <;> cases gT_ x.n x.who x.value <;> simp [q1,q2] <;> omega
theorem eg_ {l:List Ent} {t:Bool} {σ:Store} (hx:∀ x∈l,EntSm x) (hn:l.length≤1000000):ACalls Tryz.prog 105 [.sl 4 (l.map sEnt) t] σ fun v σ'=>v=vInt (if ct_ l then 0 else 1)∧σ=σ':=by
 refine en_ Tryz.func105 Tryz.ntmps105 Tryz.results105 ?_
 refine rr_ ?_
 refine s_ ?_
 refine aa_ ?_
 refine ab_ ?_
 refine rr_ ?_
 iterate 3 refine s_ ?_
 refine aa_ ?_
 refine cd_ (fun hc1=>?_) (fun hc1=>?_)
 ·refine rr_ ?_
  refine s_ ?_
  refine aa_ ?_
  refine ac_ ?_
  refine er_ σ ?_
  refine ⟨?_,rfl⟩
  rw [ct_,decide_eq_false (by omega)];rfl
 ·have hln:decide (l.length≤4096)=true:=decide_eq_true (by omega)
  refine ae_ ?_
  refine ab_ ?_
  refine rr_ ?_
  iterate 3 refine s_ ?_
  refine aa_ ?_
  refine ah_ ?_
  refine ak_ (ι:=Nat) (fun k=>l.length - k) (fun k=>k≤l.length∧upGo dm_ Ent.key (pvK Ent.key l k) (l.drop k)=upGo dm_ Ent.key none l) (fun k=>[(0,.sl 4 (l.map sEnt) t),(8,.sl 4 (l.map sEnt) t),(9,vInt l.length),(10,vInt k)]) (fun k=>σ) 0 ?_ ?_ ?_ ?_
  ·exact ⟨Nat.zero_le _,rfl⟩
  ·exact cv_
  ·exact sub_
  rintro k ⟨hk,hr⟩
  simp only [ar_,av_]
  refine rr_ ?_
  refine s_ ?_
  refine aa_ ?_
  refine ab_ ?_
  refine cd_ (fun hc4=>?_) (fun hc4=>?_)
  ·refine ae_ ?_
   refine ab_ ?_
   refine ah_ ?_
   refine ab_ ?_
   obtain ⟨x,hxk⟩:=a0_ (l:=l) (k:=k) (by omega)
   have hsx:=hx x (List.mem_of_getElem? hxk)
   obtain ⟨y,hy,hah⟩:=hZ_ Ent.key l k (by omega)
   have hst:upGo dm_ Ent.key (pvK Ent.key l k) (l.drop k)=(dm_ x && ca_ (pvK Ent.key l k) x.key && upGo dm_ Ent.key (some x.key) (l.drop (k + 1))):=by rw [dc_ hxk];rfl
   have R:=hxk
   refine r_ ?_
   iterate 3 refine s_ ?_
   refine lc_ fun o4 ho4=>?_
   repeat (rw [ad_] at ho4;obtain ⟨_,ho4⟩:=ho4)
   refine s_ ?_
   refine st_ ?_
   refine aa_ ?_
   refine ab_ ?_
   have R:=hy
   refine aL_ (.op 0 0 (.op 1 1 (.op 2 0 (.op 3 0 (.op 4 0 (.op 5 0 (.op 6 0 (.op 7 0 (.op 8 0 (.op 9 0 (.op 10 0 (.op 11 0 (.op 12 0 (.op 13 0 (.op 14 0 (.op 15 0 (.op 16 0 (.op 17 0 .nil)))))))))))))))))) Tryz.mixed kr_ ?_
   refine ds_ ?_
   refine dx_ o_ g_ va_ (nu_ hsx) ?_;rintro _ _ ⟨rfl,rfl⟩;refine ⟨sub_,?_⟩
   iterate 2 refine ds_ ?_
   refine dgf_ ?_
   refine dgf_ ?_
   refine dgf_ ?_
   refine bl_ ?_
   refine bl_ ?_
   refine bl_ ?_
   refine bl_ ?_
   refine bl_ ?_
   refine bl_ ?_
   refine bl_ ?_
   refine bl_ ?_
   refine bl_ ?_
   refine dgf_ ?_
   refine ds_ ?_
   refine aG_ ?_
   refine cd_ (fun hc6=>?_) (fun hc6=>?_)
   ·refine rr_ ?_
    refine s_ ?_
    refine aa_ ?_
    refine ac_ ?_
    refine er_ σ ?_
    refine ⟨?_,rfl⟩
    rw [ct_,← hr,hst,t0_ (hah _) hc6,Bool.and_false];rfl
   ·have hnx:upGo dm_ Ent.key (pvK Ent.key l (k + 1)) (l.drop (k + 1))=upGo dm_ Ent.key none l:=by rw [hY_ hxk,← hr,hst,o9_ (hah _) hc6]
    refine ae_ ?_
    refine r_ ?_
    iterate 2 refine s_ ?_
    refine aa_ ?_
    refine bb_ (ι:=Nat) (i:=k) (k + 1) ?_ ?_ ?_ ?_
    ·omega
    ·exact ⟨by omega,hnx⟩
    ·exact cv_
    ·exact sub_
  ·refine ay_ ?_
   refine af_ ?_
   refine af_ ?_
   refine aq_ ?_
   refine rr_ ?_
   refine s_ ?_
   refine aa_ ?_
   refine ac_ ?_
   refine er_ σ ?_
   refine ⟨?_,rfl⟩
   rw [ct_,hln,← hr,List.drop_eq_nil_of_le (by omega)];rfl
theorem kV_ {l:List Ent} {t:Bool} {σ:Store} (hx:∀ x∈l,EntSm x) (hn:l.length≤1000000):ACalls Tryz.prog 19 [.sl 4 (l.map sEnt) t] σ fun v σ'=>v=vB (ct_ l)∧σ=σ':=by
 refine en_ Tryz.func19 Tryz.ntmps19 Tryz.results19 ?_
 refine rr_ ?_
 refine s_ ?_
 refine aa_ ?_
 refine ab_ ?_
 refine rr_ ?_
 iterate 3 refine s_ ?_
 refine aa_ ?_
 refine cd_ (fun hc1=>?_) (fun hc1=>?_)
 ·refine rr_ ?_
  refine s_ ?_
  refine aa_ ?_
  refine ac_ ?_
  refine er_ σ ?_
  refine ⟨?_,rfl⟩
  rw [ct_,decide_eq_false (by omega)];rfl
 ·have hln:decide (l.length≤4096)=true:=decide_eq_true (by omega)
  refine ae_ ?_
  refine ab_ ?_
  refine rr_ ?_
  refine s_ ?_
  refine aa_ ?_
  refine ah_ ?_
  refine ak_ (ι:=Nat) (fun k=>l.length - k) (fun k=>k≤l.length∧upGo dm_ Ent.key (pvK Ent.key l k) (l.drop k)=upGo dm_ Ent.key none l) (fun k=>[(0,.sl 4 (l.map sEnt) t),(3,vInt k)]) (fun k=>σ) 0 ?_ ?_ ?_ ?_
  ·exact ⟨Nat.zero_le _,rfl⟩
  ·exact cv_
  ·exact sub_
  rintro k ⟨hk,hr⟩
  simp only [ar_,av_]
  refine ab_ ?_
  refine rr_ ?_
  iterate 4 refine s_ ?_
  refine aa_ ?_
  refine cd_ (fun hc4=>?_) (fun hc4=>?_)
  ·refine ae_ ?_
   refine ab_ ?_
   refine ah_ ?_
   refine ab_ ?_
   obtain ⟨x,hxk⟩:=a0_ (l:=l) (k:=k) (by omega)
   have hsx:=hx x (List.mem_of_getElem? hxk)
   obtain ⟨y,hy,hah⟩:=hZ_ Ent.key l k (by omega)
   have hst:upGo dm_ Ent.key (pvK Ent.key l k) (l.drop k)=(dm_ x && ca_ (pvK Ent.key l k) x.key && upGo dm_ Ent.key (some x.key) (l.drop (k + 1))):=by rw [dc_ hxk];rfl
   have R:=And.intro hxk hy
   refine aL_ (.op 0 0 (.op 1 0 (.op 2 0 (.op 3 0 (.op 4 1 (.op 5 0 (.op 6 0 (.op 7 0 (.op 8 0 (.op 9 0 (.op 10 0 (.op 11 0 (.op 12 0 (.op 13 0 (.op 14 0 (.op 15 0 (.op 16 0 (.op 17 0 (.op 18 0 (.op 19 0 (.op 20 0 (.op 21 0 (.op 22 0 (.op 23 0 .nil)))))))))))))))))))))))) Tryz.mixed kr_ ?_
   iterate 4 refine ds_ ?_
   refine dx_ o_ g_ va_ (l7_ hsx) ?_;rintro _ _ ⟨rfl,rfl⟩;refine ⟨sub_,?_⟩
   iterate 2 refine ds_ ?_
   refine dgf_ ?_
   refine dgf_ ?_
   refine dgf_ ?_
   refine bl_ ?_
   refine bl_ ?_
   refine bl_ ?_
   refine bl_ ?_
   refine bl_ ?_
   refine bl_ ?_
   refine bl_ ?_
   refine bl_ ?_
   refine bl_ ?_
   refine bl_ ?_
   refine bl_ ?_
   refine bl_ ?_
   refine dgf_ ?_
   refine ds_ ?_
   refine aG_ ?_
   refine cd_ (fun hc6=>?_) (fun hc6=>?_)
   ·refine rr_ ?_
    refine s_ ?_
    refine aa_ ?_
    refine ac_ ?_
    refine er_ σ ?_
    refine ⟨?_,rfl⟩
    rw [ct_,← hr,hst,t0_ (hah _) hc6,Bool.and_false]
   ·have hnx:upGo dm_ Ent.key (pvK Ent.key l (k + 1)) (l.drop (k + 1))=upGo dm_ Ent.key none l:=by rw [hY_ hxk,← hr,hst,o9_ (hah _) hc6]
    refine ae_ ?_
    refine r_ ?_
    iterate 3 refine s_ ?_
    refine aa_ ?_
    refine bb_ (ι:=Nat) (i:=k) (k + 1) ?_ ?_ ?_ ?_
    ·omega
    ·exact ⟨by omega,hnx⟩
    ·exact cv_
    ·exact sub_
  ·refine ay_ ?_
   refine af_ ?_
   refine af_ ?_
   refine aq_ ?_
   refine rr_ ?_
   refine s_ ?_
   refine aa_ ?_
   refine ac_ ?_
   refine er_ σ ?_
   refine ⟨?_,rfl⟩
   rw [ct_,hln,← hr,List.drop_eq_nil_of_le (by omega)];rfl
def hb_ (m:Msg):Bool:=decide (1≤m.kind) && decide (m.kind≤14) && decide (0≤m.num) && decide (0≤m.err) && decide (m.err≤15)
def bg_ (m:Msg):Bool:=hb_ m && bX_ m.frm && bX_ m.to && dI_ m.obj && hS_ m.items && ct_ m.ents
theorem chk1 {b:Bool}:(¬ (if b=true then 0 else 1:Int)=0) ↔ b=false:=by cases b <;> simp
theorem f9_ {m:Msg} (h:(((m.kind < 1∨14 < m.kind)∨m.num < 0)∨m.err < 0)∨15 < m.err):hb_ m=false:=by
 cases e:hb_ m with
 |false=>rfl
 |true =>
  simp only [hb_,Bool.and_eq_true,decide_eq_true_eq] at e
  omega
theorem aQ_ {m:Msg} (h:(((1≤m.kind∧m.kind≤14)∧0≤m.num)∧0≤m.err)∧m.err≤15):hb_ m=true:=by
 simp only [hb_,Bool.and_eq_true,decide_eq_true_eq]
 omega
theorem qf_ {m:Msg} {σ:Store} (hm:MsgSm m):ACalls Tryz.prog 162 [sMsg m] σ fun v σ'=>v=vInt (if bg_ m then 0 else 1)∧σ=σ':=by
 have h1:=hm.frm;have h2:=hm.to;have h3:=hm.ni;have h4:=hm.ne
 refine en_ Tryz.func162 Tryz.ntmps162 Tryz.results162 ?_
 refine rr_ ?_
 refine bx_ fun o1 ho1=>?_
 repeat (rw [ad_] at ho1;obtain ⟨_,ho1⟩:=ho1)
 refine s_ ?_
 refine aa_ ?_
 refine rr_ ?_
 iterate 4 refine s_ ?_
 refine gt_ ?_
 refine gt_ ?_
 refine gt_ ?_
 iterate 2 refine s_ ?_
 refine gt_ ?_
 refine gt_ ?_
 refine gt_ ?_
 iterate 2 refine s_ ?_
 refine gt_ ?_
 refine gt_ ?_
 refine gt_ ?_
 iterate 2 refine s_ ?_
 refine gt_ ?_
 refine gt_ ?_
 refine gt_ ?_
 iterate 2 refine s_ ?_
 refine aa_ ?_
 refine ab_ ?_
 refine ah_ ?_
 refine ab_ ?_
 refine rr_ ?_
 iterate 3 refine s_ ?_
 refine aa_ ?_
 refine cd_ (fun hc2=>?_) (fun hc2=>?_)
 ·refine ae_ ?_
  refine cd_ (fun hc2=>?_) (fun hc2=>?_)
  ·refine rr_ ?_
   refine s_ ?_
   refine aa_ ?_
   refine ac_ ?_
   refine er_ σ ?_
   first
   |exact ⟨by rw [bg_,f9_ hc2];rfl,rfl⟩
   |exact ⟨by rw [bg_,aQ_ hc2,hc3];rfl,rfl⟩
   |exact ⟨by rw [bg_,aQ_ hc2,hc3,hc4];rfl,rfl⟩
   |exact ⟨by rw [bg_,aQ_ hc2,hc3,hc4,chk1.1 hc6];rfl,rfl⟩
   |exact ⟨by rw [bg_,aQ_ hc2,hc3,hc4,chk0.1 hc6,chk1.1 hc7];rfl,rfl⟩
   |exact ⟨by rw [bg_,aQ_ hc2,hc3,hc4,chk0.1 hc6,chk0.1 hc7,chk1.1 hc8];rfl,rfl⟩
   |exact ⟨by rw [bg_,aQ_ hc2,hc3,hc4,chk0.1 hc6,chk0.1 hc7,chk0.1 hc8];rfl,rfl⟩
  ·(exfalso;omega)
 ·refine rr_ ?_
  iterate 2 refine s_ ?_
  refine x_ g_ va_ (cF_ (by omega)) ?_;rintro _ _ ⟨rfl,rfl⟩
  iterate 2 refine s_ ?_
  refine aa_ ?_
  refine cd_ (fun hc3=>?_) (fun hc3=>?_)
  ·refine ae_ ?_
   refine cd_ (fun hc3=>?_) (fun hc3=>?_)
   ·refine rr_ ?_
    refine s_ ?_
    refine aa_ ?_
    refine ac_ ?_
    refine er_ σ ?_
    first
    |exact ⟨by rw [bg_,f9_ hc2];rfl,rfl⟩
    |exact ⟨by rw [bg_,aQ_ hc2,hc3];rfl,rfl⟩
    |exact ⟨by rw [bg_,aQ_ hc2,hc3,hc4];rfl,rfl⟩
    |exact ⟨by rw [bg_,aQ_ hc2,hc3,hc4,chk1.1 hc6];rfl,rfl⟩
    |exact ⟨by rw [bg_,aQ_ hc2,hc3,hc4,chk0.1 hc6,chk1.1 hc7];rfl,rfl⟩
    |exact ⟨by rw [bg_,aQ_ hc2,hc3,hc4,chk0.1 hc6,chk0.1 hc7,chk1.1 hc8];rfl,rfl⟩
    |exact ⟨by rw [bg_,aQ_ hc2,hc3,hc4,chk0.1 hc6,chk0.1 hc7,chk0.1 hc8];rfl,rfl⟩
   ·(exfalso;simp_all;done)
  ·refine r_ ?_
   iterate 2 refine s_ ?_
   refine x_ g_ va_ (cF_ (by omega)) ?_;rintro _ _ ⟨rfl,rfl⟩
   iterate 2 refine s_ ?_
   refine aa_ ?_
   refine cd_ (fun hc4=>?_) (fun hc4=>?_)
   ·refine rr_ ?_
    refine s_ ?_
    refine aa_ ?_
    refine ac_ ?_
    refine er_ σ ?_
    first
    |exact ⟨by rw [bg_,f9_ hc2];rfl,rfl⟩
    |exact ⟨by rw [bg_,aQ_ hc2,hc3];rfl,rfl⟩
    |exact ⟨by rw [bg_,aQ_ hc2,hc3,hc4];rfl,rfl⟩
    |exact ⟨by rw [bg_,aQ_ hc2,hc3,hc4,chk1.1 hc6];rfl,rfl⟩
    |exact ⟨by rw [bg_,aQ_ hc2,hc3,hc4,chk0.1 hc6,chk1.1 hc7];rfl,rfl⟩
    |exact ⟨by rw [bg_,aQ_ hc2,hc3,hc4,chk0.1 hc6,chk0.1 hc7,chk1.1 hc8];rfl,rfl⟩
    |exact ⟨by rw [bg_,aQ_ hc2,hc3,hc4,chk0.1 hc6,chk0.1 hc7,chk0.1 hc8];rfl,rfl⟩
   ·refine ab_ ?_
    refine rr_ ?_
    iterate 2 refine s_ ?_
    refine x_ g_ va_ (kO_ hm.obj) ?_;rintro _ _ ⟨rfl,rfl⟩
    iterate 2 refine s_ ?_
    refine aa_ ?_
    refine cd_ (fun hc6=>?_) (fun hc6=>?_)
    ·refine ae_ ?_
     refine cd_ (fun hc6=>?_) (fun hc6=>?_)
     ·refine rr_ ?_
      refine s_ ?_
      refine aa_ ?_
      refine ac_ ?_
      refine er_ σ ?_
      first
      |exact ⟨by rw [bg_,f9_ hc2];rfl,rfl⟩
      |exact ⟨by rw [bg_,aQ_ hc2,hc3];rfl,rfl⟩
      |exact ⟨by rw [bg_,aQ_ hc2,hc3,hc4];rfl,rfl⟩
      |exact ⟨by rw [bg_,aQ_ hc2,hc3,hc4,chk1.1 hc6];rfl,rfl⟩
      |exact ⟨by rw [bg_,aQ_ hc2,hc3,hc4,chk0.1 hc6,chk1.1 hc7];rfl,rfl⟩
      |exact ⟨by rw [bg_,aQ_ hc2,hc3,hc4,chk0.1 hc6,chk0.1 hc7,chk1.1 hc8];rfl,rfl⟩
      |exact ⟨by rw [bg_,aQ_ hc2,hc3,hc4,chk0.1 hc6,chk0.1 hc7,chk0.1 hc8];rfl,rfl⟩
     ·(exfalso;omega)
    ·refine rr_ ?_
     iterate 3 refine s_ ?_
     refine x_ g_ va_ (jt_ hm.items (by omega)) ?_;rintro _ _ ⟨rfl,rfl⟩
     iterate 2 refine s_ ?_
     refine aa_ ?_
     refine cd_ (fun hc7=>?_) (fun hc7=>?_)
     ·refine ae_ ?_
      refine cd_ (fun hc7=>?_) (fun hc7=>?_)
      ·refine rr_ ?_
       refine s_ ?_
       refine aa_ ?_
       refine ac_ ?_
       refine er_ σ ?_
       first
       |exact ⟨by rw [bg_,f9_ hc2];rfl,rfl⟩
       |exact ⟨by rw [bg_,aQ_ hc2,hc3];rfl,rfl⟩
       |exact ⟨by rw [bg_,aQ_ hc2,hc3,hc4];rfl,rfl⟩
       |exact ⟨by rw [bg_,aQ_ hc2,hc3,hc4,chk1.1 hc6];rfl,rfl⟩
       |exact ⟨by rw [bg_,aQ_ hc2,hc3,hc4,chk0.1 hc6,chk1.1 hc7];rfl,rfl⟩
       |exact ⟨by rw [bg_,aQ_ hc2,hc3,hc4,chk0.1 hc6,chk0.1 hc7,chk1.1 hc8];rfl,rfl⟩
       |exact ⟨by rw [bg_,aQ_ hc2,hc3,hc4,chk0.1 hc6,chk0.1 hc7,chk0.1 hc8];rfl,rfl⟩
      ·(exfalso;omega)
     ·refine r_ ?_
      iterate 2 refine s_ ?_
      refine x_ g_ va_ (eg_ hm.ents (by omega)) ?_;rintro _ _ ⟨rfl,rfl⟩
      iterate 2 refine s_ ?_
      refine aa_ ?_
      refine cd_ (fun hc8=>?_) (fun hc8=>?_)
      ·refine rr_ ?_
       refine s_ ?_
       refine aa_ ?_
       refine ac_ ?_
       refine er_ σ ?_
       first
       |exact ⟨by rw [bg_,f9_ hc2];rfl,rfl⟩
       |exact ⟨by rw [bg_,aQ_ hc2,hc3];rfl,rfl⟩
       |exact ⟨by rw [bg_,aQ_ hc2,hc3,hc4];rfl,rfl⟩
       |exact ⟨by rw [bg_,aQ_ hc2,hc3,hc4,chk1.1 hc6];rfl,rfl⟩
       |exact ⟨by rw [bg_,aQ_ hc2,hc3,hc4,chk0.1 hc6,chk1.1 hc7];rfl,rfl⟩
       |exact ⟨by rw [bg_,aQ_ hc2,hc3,hc4,chk0.1 hc6,chk0.1 hc7,chk1.1 hc8];rfl,rfl⟩
       |exact ⟨by rw [bg_,aQ_ hc2,hc3,hc4,chk0.1 hc6,chk0.1 hc7,chk0.1 hc8];rfl,rfl⟩
      ·refine ae_ ?_
       refine rr_ ?_
       refine s_ ?_
       refine aa_ ?_
       refine ac_ ?_
       refine er_ σ ?_
       first
       |exact ⟨by rw [bg_,f9_ hc2];rfl,rfl⟩
       |exact ⟨by rw [bg_,aQ_ hc2,hc3];rfl,rfl⟩
       |exact ⟨by rw [bg_,aQ_ hc2,hc3,hc4];rfl,rfl⟩
       |exact ⟨by rw [bg_,aQ_ hc2,hc3,hc4,chk1.1 hc6];rfl,rfl⟩
       |exact ⟨by rw [bg_,aQ_ hc2,hc3,hc4,chk0.1 hc6,chk1.1 hc7];rfl,rfl⟩
       |exact ⟨by rw [bg_,aQ_ hc2,hc3,hc4,chk0.1 hc6,chk0.1 hc7,chk1.1 hc8];rfl,rfl⟩
       |exact ⟨by rw [bg_,aQ_ hc2,hc3,hc4,chk0.1 hc6,chk0.1 hc7,chk0.1 hc8];rfl,rfl⟩
structure LeafRt (x:Leaf):Prop where
 place:x.place.size≤1048576
 digest:x.digest.size≤1048576
structure ItmRt (x:Itm):Prop where
 place:x.place.size≤1048576
 obj:ObjRt x.obj
structure EntRt (x:Ent):Prop where
 key:x.key.size≤1048576
 n:I64 x.n
 who:x.who.size≤1048576
 value:x.value.size≤1048576
structure MsgRt (m:Msg):Prop where
 kind:0≤m.kind∧m.kind < 256
 frm:m.frm.size≤1048576
 to:m.to.size≤1048576
 num:I64 m.num
 err:0≤m.err∧m.err < 256
 place:m.place.size≤1048576
 obj:ObjRt m.obj
 texts:∀ x∈m.texts,x.size≤1048576
 leaves:∀ x∈m.leaves,LeafRt x
 items:∀ x∈m.items,ItmRt x
 ents:∀ x∈m.ents,EntRt x
 nt:m.texts.length≤65536
 nl:m.leaves.length≤65536
 ni:m.items.length≤65536
 ne:m.ents.length≤65536
def Gd {α:Type} (f:Rd→α × Rd) (w:α→List UInt8):Prop:=∀ x,(f x).2.2=true→x.2=true∧x.1.length=(w (f x).1).length + (f x).2.1.length∧∀ q,f (x.1 ++ q,true)=((f x).1,(f x).2.1 ++ q,true)
theorem gC_ (n:Nat):Gd (fun x=>bG_ x n) id:=fun x h=>by
 simp only [bG_] at h ⊢
 by_cases hc:x.2=true∧n≤x.1.length
 ·rw [if_pos hc] at h ⊢
  refine ⟨hc.1,by simp;omega,fun q=>?_⟩
  rw [if_pos ⟨trivial,by simp;omega⟩]
  simp [List.take_append_of_le_length hc.2,List.drop_append_of_le_length hc.2]
 ·rw [if_neg hc] at h;cases h
theorem kY_ {x:Rd} {n:Nat} (h:(bG_ x n).2.2=true):(bG_ x n).1.length=n:=by
 simp only [bG_] at h ⊢
 by_cases hc:x.2=true∧n≤x.1.length
 ·rw [if_pos hc];simp;omega
 ·rw [if_neg hc] at h;cases h
theorem cG_ (n:Nat):Gd (fun x=>aV_ x n) (beI n):=fun x h=>by
 obtain ⟨h1,h2,h3⟩:=gC_ n x h
 have h4:=kY_ (x:=x) (n:=n) h
 refine ⟨h1,?_,fun q=>?_⟩
 ·simp only [id] at h2
  simp only [aV_,am_];omega
 ·simp only [aV_,h3 q]
theorem kW_ (m:Nat):Gd (fun x=>b7_ x m) (fun k=>beI 4 (k:Int)):=fun x h=>by
 simp only [b7_] at h ⊢
 by_cases hc:m < natB (bG_ x 4).1
 ·rw [if_pos hc] at h;cases h
 ·rw [if_neg hc] at h ⊢
  obtain ⟨h1,h2,h3⟩:=gC_ 4 x h
  have h4:=kY_ (x:=x) (n:=4) h
  refine ⟨h1,?_,fun q=>?_⟩
  ·simp only [id] at h2
   simp only [am_];omega
  ·simp only [h3 q,if_neg hc]
def txB (t:List UInt8):List UInt8:=beI 4 (t.length:Int) ++ t
theorem bD_:Gd al_ txB:=fun x h=>by
 obtain ⟨c,hc⟩:∃ c,b7_ x 1048576=c:=⟨_,rfl⟩
 have hd:al_ x=bG_ c.2 c.1:=by rw [al_,hc]
 rw [hd] at h ⊢
 obtain ⟨h1,h2,h3⟩:=gC_ c.1 c.2 h
 obtain ⟨g1,g2,g3⟩:=kW_ 1048576 x (by simp only [hc];exact h1)
 simp only [hc,id,am_] at g2 g3 h2 h3
 refine ⟨g1,?_,fun q=>?_⟩
 ·simp only [txB,List.length_append,am_];omega
 ·rw [al_,g3 q,h3 q]
theorem i7_ {α:Type} {f:Rd→α × Rd} {w:α→List UInt8} (hf:Gd f w):∀ n,Gd (aK_ f n) (fun l=>l.flatMap w)
 |0=>fun x h=>by
  obtain ⟨l,b⟩:=x
  simp only [aK_] at h ⊢
  exact ⟨h,by simp,fun q=>by first | rfl | trivial⟩
 |n + 1=>fun x h=>by
  have hx:x.2=true:=by
   cases hx:x.2 with
   |true=>rfl
   |false=>rw [cM_ f hx,hx] at h;cases h
  have hd:aK_ f (n + 1) x=((f x).1 :: (aK_ f n (f x).2).1,(aK_ f n (f x).2).2):=by rw [aK_,hx];rfl
  rw [hd] at h ⊢
  obtain ⟨h1,h2,h3⟩:=i7_ hf n (f x).2 h
  obtain ⟨g1,g2,g3⟩:=hf x h1
  refine ⟨hx,?_,fun q=>?_⟩
  ·simp only [List.flatMap_cons,List.length_append] at h2 ⊢;omega
  ·rw [aK_,if_pos (by trivial),g3 q]
   simp only [h3 q]
theorem h2_ {α:Type} {f:Rd→α × Rd} {w:α→List UInt8} (hf:Gd f w):Gd (bY_ f) (bq_ w):=fun x h=>by
 obtain ⟨c,hc⟩:∃ c,b7_ x 65536=c:=⟨_,rfl⟩
 have hd:bY_ f x=aK_ f c.1 c.2:=by rw [bY_,hc]
 rw [hd] at h ⊢
 obtain ⟨h1,h2,h3⟩:=i7_ hf c.1 c.2 h
 obtain ⟨g1,g2,g3⟩:=kW_ 65536 x (by simp only [hc];exact h1)
 simp only [hc,am_] at g2 g3 h2
 refine ⟨g1,?_,fun q=>?_⟩
 ·simp only [bq_,List.length_append,am_];omega
 ·rw [bY_,g3 q];exact h3 q
theorem eR_ {α:Type} {f:Rd→α × Rd} {w:α→List UInt8} (hf:Gd f w):Gd (bd_ f) (bq_ w):=fun x h=>by
 have h':(bY_ f x).2.2=true:=by rw [eQ_] at h;exact h
 obtain ⟨h1,h2,h3⟩:=h2_ hf x h'
 have e:bd_ f x=bY_ f x:=by rw [eQ_,if_pos h']
 rw [e]
 refine ⟨h1,h2,fun q=>?_⟩
 rw [eQ_,h3 q];rfl
theorem bF_ (t:List UInt8):(cj_ (B t)).length=(txB t).length:=by rw [ap_,bI_];simp only [txB,List.length_append,am_]
theorem tm_:Gd rdI8 (beI 8):=cG_ 8
theorem oA_:Gd eP_ eW_:=fun x h=>by
 obtain ⟨a,ha⟩:∃ a,al_ x=a:=⟨_,rfl⟩
 obtain ⟨b,hb⟩:∃ b,aV_ a.2 8=b:=⟨_,rfl⟩
 obtain ⟨c,hc⟩:∃ c,bd_ rdI8 b.2=c:=⟨_,rfl⟩
 have hd:eP_ x=(⟨B a.1,b.1,c.1⟩,c.2):=by subst hc;subst hb;subst ha;rfl
 rw [hd] at h ⊢
 obtain ⟨h1,h2,h3⟩:=eR_ tm_ b.2 (by rw [hc];exact h)
 obtain ⟨g1,g2,g3⟩:=cG_ 8 a.2 (by simp only [hb];exact h1)
 obtain ⟨f1,f2,f3⟩:=bD_ x (by rw [ha];exact g1)
 simp only [ha,hb,hc] at h2 h3 g2 g3 f2 f3
 have t:=bF_ a.1
 refine ⟨f1,?_,fun q=>?_⟩
 ·simp only [eW_,List.length_append];omega
 ·simp only [eP_,f3 q,g3 q,h3 q]
theorem qD_:Gd d0_ sibB:=fun x h=>by
 obtain ⟨a,ha⟩:∃ a,al_ x=a:=⟨_,rfl⟩
 obtain ⟨b,hb⟩:∃ b,aV_ a.2 8=b:=⟨_,rfl⟩
 obtain ⟨c,hc⟩:∃ c,al_ b.2=c:=⟨_,rfl⟩
 obtain ⟨d,hd⟩:∃ d,aV_ c.2 1=d:=⟨_,rfl⟩
 obtain ⟨e,he⟩:∃ e,aV_ d.2 8=e:=⟨_,rfl⟩
 have hh:d0_ x=(⟨B a.1,b.1,B c.1,!decide (d.1=0),e.1⟩,e.2):=by subst he;subst hd;subst hc;subst hb;subst ha;rfl
 rw [hh] at h ⊢
 obtain ⟨k1,k2,k3⟩:=cG_ 8 d.2 (by simp only [he];exact h)
 obtain ⟨j1,j2,j3⟩:=cG_ 1 c.2 (by simp only [hd];exact k1)
 obtain ⟨i1,i2,i3⟩:=bD_ b.2 (by rw [hc];exact j1)
 obtain ⟨g1,g2,g3⟩:=cG_ 8 a.2 (by simp only [hb];exact i1)
 obtain ⟨f1,f2,f3⟩:=bD_ x (by rw [ha];exact g1)
 simp only [ha,hb,hc,hd,he,am_] at k2 k3 j2 j3 i2 i3 g2 g3 f2 f3
 have t:=bF_ a.1;have t2:=bF_ c.1
 refine ⟨f1,?_,fun q=>?_⟩
 ·simp only [sibB,List.length_append,am_];omega
 ·simp only [d0_,f3 q,g3 q,i3 q,j3 q,k3 q]
theorem kX_:Gd c7_ objB:=fun x h=>by
 obtain ⟨c,hc⟩:∃ c,dq_ x=c:=⟨_,rfl⟩
 obtain ⟨l,hl⟩:∃ l,bd_ d0_ c.2=l:=⟨_,rfl⟩
 have hh:c7_ x=if l.2.2 then (⟨c.1,l.1⟩,l.2) else (⟨[],[]⟩,l.2):=by subst hl;subst hc;rfl
 have hg:l.2.2=true:=by
  rw [hh] at h
  split at h
  ·assumption
  ·exact h
 rw [if_pos hg] at hh
 rw [hh]
 obtain ⟨h1,h2,h3⟩:=eR_ qD_ c.2 (by rw [hl];exact hg)
 obtain ⟨g1,g2,g3⟩:=eR_ oA_ x (by rw [show bd_ eP_ x=dq_ x from rfl,hc];exact h1)
 rw [show bd_ eP_ x=dq_ x from rfl] at g2 g3
 simp only [hc,hl] at h2 h3 g2 g3
 refine ⟨g1,?_,fun q=>?_⟩
 ·simp only [objB,ctxB,List.length_append];omega
 ·have g4:dq_ (x.1 ++ q,true)=(c.1,c.2.1 ++ q,true):=g3 q
  simp only [c7_,g4,h3 q];rfl
theorem tn_:Gd rdTx cj_:=fun x h=>by
 obtain ⟨f1,f2,f3⟩:=bD_ x h
 refine ⟨f1,?_,fun q=>?_⟩
 ·simp only [rdTx,bF_];exact f2
 ·simp only [rdTx,f3 q]
theorem oz_:Gd eO_ ej_:=fun x h=>by
 obtain ⟨a,ha⟩:∃ a,al_ x=a:=⟨_,rfl⟩
 obtain ⟨b,hb⟩:∃ b,al_ a.2=b:=⟨_,rfl⟩
 have hh:eO_ x=(⟨B a.1,B b.1⟩,b.2):=by subst hb;subst ha;rfl
 rw [hh] at h ⊢
 obtain ⟨g1,g2,g3⟩:=bD_ a.2 (by rw [hb];exact h)
 obtain ⟨f1,f2,f3⟩:=bD_ x (by rw [ha];exact g1)
 simp only [ha,hb] at g2 g3 f2 f3
 have t:=bF_ a.1;have t2:=bF_ b.1
 refine ⟨f1,?_,fun q=>?_⟩
 ·simp only [ej_,List.length_append];omega
 ·simp only [eO_,f3 q,g3 q]
theorem oy_:Gd dJ_ fi_:=fun x h=>by
 obtain ⟨a,ha⟩:∃ a,al_ x=a:=⟨_,rfl⟩
 obtain ⟨b,hb⟩:∃ b,c7_ a.2=b:=⟨_,rfl⟩
 have hh:dJ_ x=(⟨B a.1,b.1⟩,b.2):=by subst hb;subst ha;rfl
 rw [hh] at h ⊢
 obtain ⟨g1,g2,g3⟩:=kX_ a.2 (by rw [hb];exact h)
 obtain ⟨f1,f2,f3⟩:=bD_ x (by rw [ha];exact g1)
 simp only [ha,hb] at g2 g3 f2 f3
 have t:=bF_ a.1
 refine ⟨f1,?_,fun q=>?_⟩
 ·simp only [fi_,List.length_append];omega
 ·simp only [dJ_,f3 q,g3 q]
theorem qz_:Gd fj_ entB:=fun x h=>by
 obtain ⟨a,ha⟩:∃ a,al_ x=a:=⟨_,rfl⟩
 obtain ⟨b,hb⟩:∃ b,aV_ a.2 8=b:=⟨_,rfl⟩
 obtain ⟨c,hc⟩:∃ c,al_ b.2=c:=⟨_,rfl⟩
 obtain ⟨d,hd⟩:∃ d,al_ c.2=d:=⟨_,rfl⟩
 have hh:fj_ x=(⟨B a.1,b.1,B c.1,B d.1⟩,d.2):=by subst hd;subst hc;subst hb;subst ha;rfl
 rw [hh] at h ⊢
 obtain ⟨j1,j2,j3⟩:=bD_ c.2 (by rw [hd];exact h)
 obtain ⟨i1,i2,i3⟩:=bD_ b.2 (by rw [hc];exact j1)
 obtain ⟨g1,g2,g3⟩:=cG_ 8 a.2 (by simp only [hb];exact i1)
 obtain ⟨f1,f2,f3⟩:=bD_ x (by rw [ha];exact g1)
 simp only [ha,hb,hc,hd,am_] at j2 j3 i2 i3 g2 g3 f2 f3
 have t:=bF_ a.1;have t2:=bF_ c.1;have t3:=bF_ d.1
 refine ⟨f1,?_,fun q=>?_⟩
 ·simp only [entB,List.length_append,am_];omega
 ·simp only [fj_,f3 q,g3 q,i3 q,j3 q]
theorem qB_:Gd dd_ msgB:=fun x H=>by
 obtain ⟨a,ha⟩:∃ q,aV_ x 1=q:=⟨_,rfl⟩
 obtain ⟨b,hb⟩:∃ q,al_ a.2=q:=⟨_,rfl⟩
 obtain ⟨c,hc⟩:∃ q,al_ b.2=q:=⟨_,rfl⟩
 obtain ⟨d,hd⟩:∃ q,aV_ c.2 8=q:=⟨_,rfl⟩
 obtain ⟨e,he⟩:∃ q,aV_ d.2 1=q:=⟨_,rfl⟩
 obtain ⟨f,hf⟩:∃ q,al_ e.2=q:=⟨_,rfl⟩
 obtain ⟨g,hg⟩:∃ q,c7_ f.2=q:=⟨_,rfl⟩
 obtain ⟨h,hh⟩:∃ q,bd_ rdTx g.2=q:=⟨_,rfl⟩
 obtain ⟨i,hi⟩:∃ q,bY_ eO_ h.2=q:=⟨_,rfl⟩
 obtain ⟨j,hj⟩:∃ q,bY_ dJ_ i.2=q:=⟨_,rfl⟩
 obtain ⟨k,hk⟩:∃ q,bd_ fj_ j.2=q:=⟨_,rfl⟩
 have hm:=h1_ ha hb hc hd he hf hg hh hi hj hk
 rw [hm] at H ⊢
 obtain ⟨k1,k2,k3⟩:=eR_ qz_ j.2 (by rw [hk];exact H)
 obtain ⟨j1,j2,j3⟩:=h2_ oy_ i.2 (by rw [hj];exact k1)
 obtain ⟨i1,i2,i3⟩:=h2_ oz_ h.2 (by rw [hi];exact j1)
 obtain ⟨h1,h2,h3⟩:=eR_ tn_ g.2 (by rw [hh];exact i1)
 obtain ⟨g1,g2,g3⟩:=kX_ f.2 (by rw [hg];exact h1)
 obtain ⟨f1,f2,f3⟩:=bD_ e.2 (by rw [hf];exact g1)
 obtain ⟨e1,e2,e3⟩:=cG_ 1 d.2 (by simp only [he];exact f1)
 obtain ⟨d1,d2,d3⟩:=cG_ 8 c.2 (by simp only [hd];exact e1)
 obtain ⟨c1,c2,c3⟩:=bD_ b.2 (by rw [hc];exact d1)
 obtain ⟨b1,b2,b3⟩:=bD_ a.2 (by rw [hb];exact c1)
 obtain ⟨a1,a2,a3⟩:=cG_ 1 x (by simp only [ha];exact b1)
 simp only [ha,hb,hc,hd,he,hf,hg,hh,hi,hj,hk,am_] at a2 a3 b2 b3 c2 c3 d2 d3 e2 e3 f2 f3 g2 g3 h2 h3 i2 i3 j2 j3 k2 k3
 have t:=bF_ b.1;have t2:=bF_ c.1;have t3:=bF_ f.1
 refine ⟨a1,?_,fun q=>h1_ (a3 q) (b3 q) (c3 q) (d3 q) (e3 q) (f3 q) (g3 q) (h3 q) (i3 q) (j3 q) (k3 q)⟩
 simp only [msgB,pV_,List.length_append,am_];omega
theorem f8_ {α:Type} {w:α→List UInt8}:∀ {l:List α} {x:α},x∈l→(w x).length≤(l.flatMap w).length
 |y :: l,x,h=>by
  simp only [List.flatMap_cons,List.length_append]
  rcases List.mem_cons.1 h with rfl | h
  ·omega
  ·have:=f8_ (w:=w) h;omega
theorem jK_ {α:Type} {w:α→List UInt8} {c:Nat} (hw:∀ x,c≤(w x).length):∀ (l:List α),c * l.length≤(l.flatMap w).length
 |[]=>by simp
 |y :: l=>by
  have:=jK_ hw l;have:=hw y
  simp only [List.flatMap_cons,List.length_append,List.length_cons,Nat.mul_succ];omega
theorem ld_ (x:Sib):(sibB x).length=25 + x.node.size + x.value.size:=by simp only [sibB,List.length_append,ap_,am_];omega
theorem n6_ {o:Obj'} (h:(objB o).length≤4000):ObjSm o:=by
 simp only [objB,ctxB,bq_,List.length_append,am_] at h
 have h1:=jK_ (w:=eW_) (c:=16) (fun x=>by rw [c4_];omega) o.ctx
 have h2:=jK_ (w:=sibB) (c:=25) (fun x=>by rw [ld_];omega) o.sibs
 exact ⟨fun y hy=>by have:=f8_ (w:=eW_) hy;rw [c4_] at this;exact ⟨by omega,by omega⟩,fun y hy=>by have:=f8_ (w:=sibB) hy;rw [ld_] at this;exact ⟨by omega,by omega⟩,by omega,by omega⟩
theorem s2_ {m:Msg} (h:(msgB m).length≤4000):MsgSm m:=by
 simp only [msgB,pV_,bq_,List.length_append,am_,ap_] at h
 have h1:=jK_ (w:=cj_) (c:=4) (fun x=>by rw [ap_];omega) m.texts
 have h2:=jK_ (w:=ej_) (c:=8) (fun x=>by simp only [ej_,List.length_append,ap_];omega) m.leaves
 have h3:=jK_ (w:=fi_) (c:=8) (fun x=>by simp only [fi_,objB,ctxB,bq_,List.length_append,ap_,am_];omega) m.items
 have h4:=jK_ (w:=entB) (c:=8) (fun x=>by simp only [entB,List.length_append,ap_,am_];omega) m.ents
 refine ⟨by omega,by omega,by omega,n6_ (by omega),fun x hx=>?_,fun x hx=>?_,fun x hx=>?_,fun x hx=>?_,by omega,by omega,by omega,by omega,by omega⟩
 ·have:=f8_ (w:=cj_) hx;rw [ap_] at this;omega
 ·have:=f8_ (w:=ej_) hx;simp only [ej_,List.length_append,ap_] at this;exact ⟨by omega,by omega⟩
 ·have:=f8_ (w:=fi_) hx;simp only [fi_,List.length_append,ap_] at this;exact ⟨by omega,n6_ (by omega)⟩
 ·have:=f8_ (w:=entB) hx;simp only [entB,List.length_append,ap_,am_] at this;exact ⟨by omega,by omega,by omega⟩
theorem qC_ {s:List UInt8} (hs:s.length≤4000) (h:(dd_ (s,true)).2.2=true):MsgSm (dd_ (s,true)).1:=s2_ (by have:=(qB_ (s,true) h).2.1;simp only at this;omega)
end Go.Proofs.YtkjfpgjpeofndaaGreatDoor
end
