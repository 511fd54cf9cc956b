/-
  The interpreter's table is as it is asked to be: each function's regions may be run in the orders that it tells. Printed by gen_pf.py; The keys of a map,rising: a loop over a map whose values are whatever they are. Printed by gen_keys.py; WAYS OF THEIR OWN,proved: the keys of a map;slices.Delete;a function that ranges over pairs (own work,an AI agent).. Own work (an AI agent).
-/
import Derived.Test.YtcdidkliidjoeaaGreatDoorGN
import Derived.Test.YtcdidkliidjoeaaGreatDoorProg
import Derived.KernelRfl
import Derived.Test.YtcdidkliidjoeaaGreatDoorGE
import Derived.Test.YtcdidkliidjoeaaGreatDoorGP
import Derived.Shelf.Slices.Delete

section
set_option linter.all false
set_option maxRecDepth 100000
namespace Go.Nb
open Go.Ab
noncomputable def okR (a n:Nat):Bool:=(List.range' a n).all fun f=>!(bit oks f) || okF Go.Proofs.Tryz.prog tab0.tr f
theorem a3_ {a n f:Nat} (h:okR a n=true) (h1:a≤f) (h2:f < a + n) (hb:bit oks f=true):okF Go.Proofs.Tryz.prog tab0.tr f=true:=by
 have:=List.all_eq_true.1 h f (List.mem_range'_1.2 ⟨h1,h2⟩)
 rw [hb] at this
 exact this
theorem o5_ {m f k:Nat} (hm:m < 2 ^ k) (h:bit m f=true):f < k:=by
 refine Nat.lt_of_not_le fun hk=>?_
 have e:Nat.shiftRight m f=0:=by
  show m >>> f=0
  rw [Nat.shiftRight_eq_div_pow]
  exact Nat.div_eq_of_lt (Nat.lt_of_lt_of_le hm (Nat.pow_le_pow_right (by decide) hk))
 unfold bit at h
 rw [e] at h
 cases h
theorem ok0:okR 0 40=true:=by kernel_rfl
theorem ok1:okR 40 40=true:=by kernel_rfl
theorem ok2:okR 80 40=true:=by kernel_rfl
theorem ok3:okR 120 40=true:=by kernel_rfl
theorem ok4:okR 160 40=true:=by kernel_rfl
theorem ok5:okR 200 40=true:=by kernel_rfl
theorem ok6:okR 240 40=true:=by kernel_rfl
theorem ok7:okR 280 40=true:=by kernel_rfl
theorem ok8:okR 320 40=true:=by kernel_rfl
theorem ok9:okR 360 40=true:=by kernel_rfl
theorem ok10:okR 400 40=true:=by kernel_rfl
theorem ok11:okR 440 40=true:=by kernel_rfl
theorem ok12:okR 480 40=true:=by kernel_rfl
theorem ok13:okR 520 40=true:=by kernel_rfl
theorem ok14:okR 560 40=true:=by kernel_rfl
theorem ok15:okR 600 40=true:=by kernel_rfl
theorem ok16:okR 640 40=true:=by kernel_rfl
theorem ok17:okR 680 40=true:=by kernel_rfl
theorem ok18:okR 720 40=true:=by kernel_rfl
theorem pz_:oks < 2 ^ 747:=of_decide_eq_true kr_
theorem sw_:bL_ Go.Proofs.Tryz.prog 616=some Extern.AbiNoEscape.same:=by kernel_rfl
theorem c0_ (nat:Nat→List AVal→Option AVal) {sp:Nat→Option (Cl→Cl→Cl)} (hs:SpOk Go.Proofs.Tryz.prog sp):fO_ Go.Proofs.Tryz.prog { tab0 with nat:=nat,sp:=sp }:=by
 refine ⟨fun f hb=>?_,fun f hf=>?_,hs⟩
 ·have hb':bit oks f=true:=hb
  have hlt:f < 747:=o5_ pz_ hb'
  show okF Go.Proofs.Tryz.prog tab0.tr f=true
  by_cases h0:f < 40
  ·exact a3_ ok0 (by omega) (by omega) hb'
  by_cases h1:f < 80
  ·exact a3_ ok1 (by omega) (by omega) hb'
  by_cases h2:f < 120
  ·exact a3_ ok2 (by omega) (by omega) hb'
  by_cases h3:f < 160
  ·exact a3_ ok3 (by omega) (by omega) hb'
  by_cases h4:f < 200
  ·exact a3_ ok4 (by omega) (by omega) hb'
  by_cases h5:f < 240
  ·exact a3_ ok5 (by omega) (by omega) hb'
  by_cases h6:f < 280
  ·exact a3_ ok6 (by omega) (by omega) hb'
  by_cases h7:f < 320
  ·exact a3_ ok7 (by omega) (by omega) hb'
  by_cases h8:f < 360
  ·exact a3_ ok8 (by omega) (by omega) hb'
  by_cases h9:f < 400
  ·exact a3_ ok9 (by omega) (by omega) hb'
  by_cases h10:f < 440
  ·exact a3_ ok10 (by omega) (by omega) hb'
  by_cases h11:f < 480
  ·exact a3_ ok11 (by omega) (by omega) hb'
  by_cases h12:f < 520
  ·exact a3_ ok12 (by omega) (by omega) hb'
  by_cases h13:f < 560
  ·exact a3_ ok13 (by omega) (by omega) hb'
  by_cases h14:f < 600
  ·exact a3_ ok14 (by omega) (by omega) hb'
  by_cases h15:f < 640
  ·exact a3_ ok15 (by omega) (by omega) hb'
  by_cases h16:f < 680
  ·exact a3_ ok16 (by omega) (by omega) hb'
  by_cases h17:f < 720
  ·exact a3_ ok17 (by omega) (by omega) hb'
  by_cases h18:f < 760
  ·exact a3_ ok18 (by omega) (by omega) hb'
  omega
 ·have hf':Nat.beq f 616=true:=hf
  rw [ao_ hf'];exact sw_
end Go.Nb
end

section
set_option linter.all false
set_option maxRecDepth 100000
namespace Go.Proofs.YtcdidkliidjoeaaGreatDoor
open Go.Ab
def dkE (e:MapEntry):ByteArray:=match e.key with
 |.string s=>s
 |_=>⟨#[]⟩
theorem f1_ {kvs:List (Value × AVal)} {ss:List ByteArray} {es:Array MapEntry} {clk:Nat} (h:MapKs kvs es clk) (hk:kvs.map (·.1)=ss.map Value.string):es.toList.map dkE=ss∧∀ e∈es,e.key=.string (dkE e):=by
 have h1:=h.key
 rw [hk] at h1
 have key:∀ (l:List MapEntry) (ss:List ByteArray),l.map (·.key)=ss.map Value.string→l.map dkE=ss∧∀ e∈l,e.key=.string (dkE e):=by
  intro l
  induction l with
  |nil=>intro ss hs;cases ss with
   |nil=>exact ⟨rfl,fun e he=>by cases he⟩
   |cons c ss=>simp at hs
  |cons e l ih =>
   intro ss hs
   cases ss with
   |nil=>simp at hs
   |cons c ss =>
    simp only [List.map_cons,List.cons.injEq] at hs
    obtain ⟨i1,i2⟩:=ih ss hs.2
    have hd:dkE e=c:=by unfold dkE;rw [hs.1]
    refine ⟨by rw [List.map_cons,i1,hd],fun x hx=>?_⟩
    rcases List.mem_cons.1 hx with rfl | hx
    ·rw [hd];exact hs.1
    ·exact i2 x hx
 obtain ⟨k1,k2⟩:=key _ _ h1
 exact ⟨k1,fun e he=>k2 e (by simpa using he)⟩
theorem dy_ {a b:List ByteArray} (h:a.Perm b):bk_ a=bk_ b:=by
 unfold bk_
 congr 1
 refine List.Perm.eq_of_pairwise (le:=fun x y:List UInt8=>x≤y) (fun a b _ _ h h'=>List.le_antisymm h h') ?_ ?_ ?_
 ·have:=List.pairwise_mergeSort (le:=fun x y:List UInt8=>decide (x≤y)) (fun a b c h1 h2=>by simp only [decide_eq_true_eq] at *;exact List.le_trans h1 h2) (fun a b=>by simp only [Bool.or_eq_true,decide_eq_true_eq];exact List.le_total a b) (a.map Lb)
  exact this.imp fun h=>by simpa using h
 ·have:=List.pairwise_mergeSort (le:=fun x y:List UInt8=>decide (x≤y)) (fun a b c h1 h2=>by simp only [decide_eq_true_eq] at *;exact List.le_trans h1 h2) (fun a b=>by simp only [Bool.or_eq_true,decide_eq_true_eq];exact List.le_total a b) (b.map Lb)
  exact this.imp fun h=>by simpa using h
 ·exact ((List.mergeSort_perm _ _).trans (h.map Lb)).trans (List.mergeSort_perm _ _).symm
theorem jz_ {o mo:Nat} {cs:List AVal} {kvs:List (Value × AVal)} {ss:List ByteArray} {σ:Store} (ho:σ.heap o=some (.cells cs)) (hc:cs[0]?=some (.map mo)) (hm:σ.heap mo=some (.map kvs)) (hk:kvs.map (·.1)=ss.map Value.string) (hl:ss.length≤1000) :
  ACalls Tryz.prog 10 [.ref o 0] σ fun v σ'=>∃ σ1,CBp σ1 σ' 1 ((bk_ ss).map vStr) v∧σ.Sub σ1:=by
 refine ACalls.rawMap hm fun es clk hmi=>?_
 have hom:o≠mo:=fun hh=>by rw [hh,hm] at ho;cases ho
 obtain ⟨hdec,hent⟩:=f1_ hmi hk
 obtain ⟨S,hS⟩:∃ S,S=σ.set mo (.raw (.map es clk)):=⟨_,rfl⟩
 have hoS:S.heap o=some (.cells cs):=by rw [hS,Store.set_ne _ _ hom];exact ho
 have hmS:S.heap mo=some (.raw (.map es clk)):=by rw [hS];exact Store.set_get ..
 have hSub:∀ τ:Store,S.Sub τ→τ.heap mo=some (.raw (.map es clk))∧σ.Sub (τ.set mo (.map kvs)):=fun τ hs=>⟨hs.heap _ _ hmS,⟨fun j y hy=>by
  by_cases hj:j=mo
  ·subst hj;rw [hm] at hy;rw [Store.set_get];exact hy
  ·rw [Store.set_ne _ _ hj];exact hs.heap _ _ (by rw [hS,Store.set_ne _ _ hj];exact hy),fun t p e=>hs.tok _ _ (by rw [hS];exact e)⟩⟩
 rw [← hS]
 clear hS
 refine ACalls.mono (Q:=fun v τ=>∃ σ1,CBp σ1 τ 1 ((bk_ ss).map vStr) v∧S.Sub σ1) ?_ fun v τ ⟨σ1,hC,hs⟩=>⟨hC.sub.heap _ _ (hSub σ1 hs).1,σ1.set mo (.map kvs),?_,(hSub σ1 hs).2⟩
 rotate_left
 ·rcases hC with ⟨h1,h2,rfl⟩ | ⟨p,hp,h1,rfl⟩
  ·exact .inl ⟨h1,h2,rfl⟩
  ·have hpm:p≠mo:=fun hh=>by rw [hh,(hSub σ1 hs).1] at hp;cases hp
   exact .inr ⟨p,by rw [Store.set_ne _ _ hpm];exact hp,h1,cN_ hpm⟩
 refine en_ Tryz.func10 Tryz.ntmps10 Tryz.results10 ?_
 refine rr_ ?_
 refine s_ ?_
 refine aa_ ?_
 refine ac_ ?_
 refine rr_ ?_
 iterate 2 refine s_ ?_
 refine aa_ ?_
 refine cd_ (fun hc1=>?_) (fun hc1=>?_)
 ·refine rr_ ?_
  refine s_ ?_
  refine aa_ ?_
  refine aq_ ?_
  cases hc1
 ·refine ag_ ?_
  refine rr_ ?_
  refine s_ ?_
  refine aa_ ?_
  refine ac_ ?_
  refine ac_ ?_
  have R:=And.intro hoS hc
  refine r_ ?_
  iterate 4 refine s_ ?_
  refine aL_X rfl rfl (cy_ (t:=37) (kt:=9) (et:=92) rfl kr_ va_ hmS fun i ho32 n32=>?_)
  refine aa_ ?_
  refine ah_ ?_
  refine au_ (ι:=Store × AVal × List MapEntry × List MapEntry × Array Nat) (fun ⟨τ,g,q,r,seen⟩=>r.length) (fun ⟨τ,g,q,r,seen⟩=>RIm es q r seen∧CBp (S.set i (.mapIter (some mo) clk seen clk)) τ 1 ((q.map dkE).map vStr) g) (fun ⟨τ,g,q,r,seen⟩=>[(3,g),(11,.ref i 0)]) (fun ⟨τ,g,q,r,seen⟩=>τ) (S.set i (.mapIter (some mo) clk #[] clk),.lit (.slice none 0 0),[],es.toList,#[]) ?_ ?_ ?_ ?_
  ·exact ⟨⟨by simp,rfl⟩,.inl ⟨rfl,rfl,rfl⟩⟩
  ·exact cv_
  ·exact Store.Wk.refl _
  rintro ⟨τ,g,q,r,seen⟩ ⟨hR,hC⟩
  simp only [aJ_,aX_]
  refine ac_ ?_
  have hi1:=hC.sub.heap i _ (Store.set_get ..)
  have hm1:=hC.sub.heap mo (.raw (.map es clk)) (by rw [Store.set_ne _ _ (Ne.symm n32)];exact hmS)
  refine r_ ?_
  refine aL_X rfl rfl (eo_ rfl va_ hi1 hm1 hmi.lt fun bb rest σ' hbb=>?_)
  refine s_ ?_
  refine aa_ ?_
  refine ac_ ?_
  refine cd_ (fun hc5=>?_) (fun hc5=>?_)
  ·skip
   rcases hbb with ⟨rfl,_⟩ | ⟨_,e,he,hse,rfl⟩
   ·cases hc5
   obtain ⟨r',hR',hlen⟩:=hR.step he hse
   have hek:=hent e he
   have hCi:=ex_ (y:=.mapIter (some mo) clk (seen.push e.born) clk) hC
   have hi2:=Store.set_get τ i (.mapIter (some mo) clk (seen.push e.born) clk)
   have hm2:(τ.set i (.mapIter (some mo) clk (seen.push e.born) clk)).heap mo=some (.raw (.map es clk)):=by rw [Store.set_ne _ _ (Ne.symm n32)];exact hm1
   generalize hτ:τ.set i (.mapIter (some mo) clk (seen.push e.born) clk)=υ at *
   refine ag_ ?_
   refine ah_ ?_
   refine rr_ ?_
   refine aL_X rfl rfl (em_ rfl va_ hi2 hm2 hmi.nd he ?_)
   rw [hek]
   simp only [ofConst]
   iterate 2 refine s_ ?_
   refine aa_ ?_
   have hql:q.length≤1000:=by
    have h1:=hR.perm.length_eq
    have h2:=congrArg List.length hdec
    simp only [List.length_append,List.length_map] at h1 h2
    omega
   refine r_ ?_
   iterate 2 refine s_ ?_
   refine ce_ rfl rfl rfl g_ g_ rfl rfl h_ c2_ (by decide) ?_
   refine aL_X rfl rfl (bb_ rfl g_ g_ hCi va_ (fun y hy=>by obtain ⟨s,_,rfl⟩:=List.mem_map.1 hy;rfl) va_ c_ (by simp;omega) fun a' σ' hC3=>?_)
   have hsub:σ'.Sub σ':=.refl _
   obtain ⟨τ',hτ'⟩:∃ τ',τ'=σ':=⟨_,rfl⟩
   subst hτ'
   refine s_ ?_
   refine aa_ ?_
   refine ca_ (ι:=Store × AVal × List MapEntry × List MapEntry × Array Nat) (i:=⟨τ,g,q,r,seen⟩) (τ',a',q ++ [e],r',seen.push e.born) ?_ ?_ ?_ ?_
   ·show r'.length < r.length;omega
   ·exact ⟨hR',by rw [List.map_append,List.map_append];exact hC3⟩
   ·exact cv_
   ·exact hsub.wk
  ·skip
   rcases hbb with ⟨_,hall,rfl⟩ | ⟨rfl,_⟩
   case inr=>cases hc5
   have hp:(q.map dkE).Perm ss:=by rw [← hdec];exact (hR.fin hmi.nd hall).map dkE
   have hsub0:S.Sub (S.set i (.mapIter (some mo) clk seen clk)):=⟨fun j y hy=>by
    rw [Store.set_ne _ _ (fun hh=>by rw [hh,ho32] at hy;cases hy)];exact hy,fun _ _ h=>h⟩
   have hpl:=hp.length_eq
   refine aM_ ?_
   refine ai_ ?_
   refine ai_ ?_
   refine aA_ ?_
   refine rr_ ?_
   refine s_ ?_
   refine x_ g_ va_ (ge_ hC (by omega)) ?_;rintro _ τ1 ⟨rfl,hC4⟩
   refine aa_ ?_
   refine rr_ ?_
   iterate 2 refine s_ ?_
   refine aa_ ?_
   refine aq_ ?_
   exact aK_ (σ':=τ1) va_ sub_ ⟨_,by rw [dy_ hp] at hC4;exact hC4,hsub0⟩
theorem lF_ {o mo:Nat} {cs:List AVal} {kvs:List (Value × AVal)} {ss:List ByteArray} {σ:Store} (ho:σ.heap o=some (.cells cs)) (hc:cs[0]?=some (.map mo)) (hm:σ.heap mo=some (.map kvs)) (hk:kvs.map (·.1)=ss.map Value.string) (hl:ss.length≤1000) :
  ACalls Tryz.prog 10 [.ref o 0] σ fun v σ'=>v=.sl 1 ((bk_ ss).map vStr) false∧σ=σ' :=
 hr_ (jz_ ho hc hm hk hl) fun x hx=>by
  obtain ⟨s,_,rfl⟩:=List.mem_map.1 hx
  rfl
theorem jy_ {o mo:Nat} {cs:List AVal} {kvs:List (Value × AVal)} {ss:List ByteArray} {σ:Store} (ho:σ.heap o=some (.cells cs)) (hc:cs[4]?=some (.map mo)) (hm:σ.heap mo=some (.map kvs)) (hk:kvs.map (·.1)=ss.map Value.string) (hl:ss.length≤1000) :
  ACalls Tryz.prog 14 [.ref o 0] σ fun v σ'=>∃ σ1,CBp σ1 σ' 1 ((bk_ ss).map vStr) v∧σ.Sub σ1:=by
 refine ACalls.rawMap hm fun es clk hmi=>?_
 have hom:o≠mo:=fun hh=>by rw [hh,hm] at ho;cases ho
 obtain ⟨hdec,hent⟩:=f1_ hmi hk
 obtain ⟨S,hS⟩:∃ S,S=σ.set mo (.raw (.map es clk)):=⟨_,rfl⟩
 have hoS:S.heap o=some (.cells cs):=by rw [hS,Store.set_ne _ _ hom];exact ho
 have hmS:S.heap mo=some (.raw (.map es clk)):=by rw [hS];exact Store.set_get ..
 have hSub:∀ τ:Store,S.Sub τ→τ.heap mo=some (.raw (.map es clk))∧σ.Sub (τ.set mo (.map kvs)):=fun τ hs=>⟨hs.heap _ _ hmS,⟨fun j y hy=>by
  by_cases hj:j=mo
  ·subst hj;rw [hm] at hy;rw [Store.set_get];exact hy
  ·rw [Store.set_ne _ _ hj];exact hs.heap _ _ (by rw [hS,Store.set_ne _ _ hj];exact hy),fun t p e=>hs.tok _ _ (by rw [hS];exact e)⟩⟩
 rw [← hS]
 clear hS
 refine ACalls.mono (Q:=fun v τ=>∃ σ1,CBp σ1 τ 1 ((bk_ ss).map vStr) v∧S.Sub σ1) ?_ fun v τ ⟨σ1,hC,hs⟩=>⟨hC.sub.heap _ _ (hSub σ1 hs).1,σ1.set mo (.map kvs),?_,(hSub σ1 hs).2⟩
 rotate_left
 ·rcases hC with ⟨h1,h2,rfl⟩ | ⟨p,hp,h1,rfl⟩
  ·exact .inl ⟨h1,h2,rfl⟩
  ·have hpm:p≠mo:=fun hh=>by rw [hh,(hSub σ1 hs).1] at hp;cases hp
   exact .inr ⟨p,by rw [Store.set_ne _ _ hpm];exact hp,h1,cN_ hpm⟩
 refine en_ Tryz.func14 Tryz.ntmps14 Tryz.results14 ?_
 refine rr_ ?_
 refine s_ ?_
 refine aa_ ?_
 refine ac_ ?_
 refine rr_ ?_
 iterate 2 refine s_ ?_
 refine aa_ ?_
 refine cd_ (fun hc1=>?_) (fun hc1=>?_)
 ·refine rr_ ?_
  refine s_ ?_
  refine aa_ ?_
  refine aq_ ?_
  cases hc1
 ·refine ag_ ?_
  refine rr_ ?_
  refine s_ ?_
  refine aa_ ?_
  refine ac_ ?_
  refine ac_ ?_
  have R:=And.intro hoS hc
  refine r_ ?_
  iterate 4 refine s_ ?_
  refine aL_X rfl rfl (cy_ (t:=40) (kt:=9) (et:=3) rfl kr_ va_ hmS fun i ho32 n32=>?_)
  refine aa_ ?_
  refine ah_ ?_
  refine au_ (ι:=Store × AVal × List MapEntry × List MapEntry × Array Nat) (fun ⟨τ,g,q,r,seen⟩=>r.length) (fun ⟨τ,g,q,r,seen⟩=>RIm es q r seen∧CBp (S.set i (.mapIter (some mo) clk seen clk)) τ 1 ((q.map dkE).map vStr) g) (fun ⟨τ,g,q,r,seen⟩=>[(3,g),(11,.ref i 0)]) (fun ⟨τ,g,q,r,seen⟩=>τ) (S.set i (.mapIter (some mo) clk #[] clk),.lit (.slice none 0 0),[],es.toList,#[]) ?_ ?_ ?_ ?_
  ·exact ⟨⟨by simp,rfl⟩,.inl ⟨rfl,rfl,rfl⟩⟩
  ·exact cv_
  ·exact Store.Wk.refl _
  rintro ⟨τ,g,q,r,seen⟩ ⟨hR,hC⟩
  simp only [aJ_,aX_]
  refine ac_ ?_
  have hi1:=hC.sub.heap i _ (Store.set_get ..)
  have hm1:=hC.sub.heap mo (.raw (.map es clk)) (by rw [Store.set_ne _ _ (Ne.symm n32)];exact hmS)
  refine r_ ?_
  refine aL_X rfl rfl (eo_ rfl va_ hi1 hm1 hmi.lt fun bb rest σ' hbb=>?_)
  refine s_ ?_
  refine aa_ ?_
  refine ac_ ?_
  refine cd_ (fun hc5=>?_) (fun hc5=>?_)
  ·skip
   rcases hbb with ⟨rfl,_⟩ | ⟨_,e,he,hse,rfl⟩
   ·cases hc5
   obtain ⟨r',hR',hlen⟩:=hR.step he hse
   have hek:=hent e he
   have hCi:=ex_ (y:=.mapIter (some mo) clk (seen.push e.born) clk) hC
   have hi2:=Store.set_get τ i (.mapIter (some mo) clk (seen.push e.born) clk)
   have hm2:(τ.set i (.mapIter (some mo) clk (seen.push e.born) clk)).heap mo=some (.raw (.map es clk)):=by rw [Store.set_ne _ _ (Ne.symm n32)];exact hm1
   generalize hτ:τ.set i (.mapIter (some mo) clk (seen.push e.born) clk)=υ at *
   refine ag_ ?_
   refine ah_ ?_
   refine rr_ ?_
   refine aL_X rfl rfl (em_ rfl va_ hi2 hm2 hmi.nd he ?_)
   rw [hek]
   simp only [ofConst]
   iterate 2 refine s_ ?_
   refine aa_ ?_
   have hql:q.length≤1000:=by
    have h1:=hR.perm.length_eq
    have h2:=congrArg List.length hdec
    simp only [List.length_append,List.length_map] at h1 h2
    omega
   refine r_ ?_
   iterate 2 refine s_ ?_
   refine ce_ rfl rfl rfl g_ g_ rfl rfl h_ c2_ (by decide) ?_
   refine aL_X rfl rfl (bb_ rfl g_ g_ hCi va_ (fun y hy=>by obtain ⟨s,_,rfl⟩:=List.mem_map.1 hy;rfl) va_ c_ (by simp;omega) fun a' σ' hC3=>?_)
   have hsub:σ'.Sub σ':=.refl _
   obtain ⟨τ',hτ'⟩:∃ τ',τ'=σ':=⟨_,rfl⟩
   subst hτ'
   refine s_ ?_
   refine aa_ ?_
   refine ca_ (ι:=Store × AVal × List MapEntry × List MapEntry × Array Nat) (i:=⟨τ,g,q,r,seen⟩) (τ',a',q ++ [e],r',seen.push e.born) ?_ ?_ ?_ ?_
   ·show r'.length < r.length;omega
   ·exact ⟨hR',by rw [List.map_append,List.map_append];exact hC3⟩
   ·exact cv_
   ·exact hsub.wk
  ·skip
   rcases hbb with ⟨_,hall,rfl⟩ | ⟨rfl,_⟩
   case inr=>cases hc5
   have hp:(q.map dkE).Perm ss:=by rw [← hdec];exact (hR.fin hmi.nd hall).map dkE
   have hsub0:S.Sub (S.set i (.mapIter (some mo) clk seen clk)):=⟨fun j y hy=>by
    rw [Store.set_ne _ _ (fun hh=>by rw [hh,ho32] at hy;cases hy)];exact hy,fun _ _ h=>h⟩
   have hpl:=hp.length_eq
   refine aM_ ?_
   refine ai_ ?_
   refine ai_ ?_
   refine aA_ ?_
   refine rr_ ?_
   refine s_ ?_
   refine x_ g_ va_ (ge_ hC (by omega)) ?_;rintro _ τ1 ⟨rfl,hC4⟩
   refine aa_ ?_
   refine rr_ ?_
   iterate 2 refine s_ ?_
   refine aa_ ?_
   refine aq_ ?_
   exact aK_ (σ':=τ1) va_ sub_ ⟨_,by rw [dy_ hp] at hC4;exact hC4,hsub0⟩
theorem lE_ {o mo:Nat} {cs:List AVal} {kvs:List (Value × AVal)} {ss:List ByteArray} {σ:Store} (ho:σ.heap o=some (.cells cs)) (hc:cs[4]?=some (.map mo)) (hm:σ.heap mo=some (.map kvs)) (hk:kvs.map (·.1)=ss.map Value.string) (hl:ss.length≤1000) :
  ACalls Tryz.prog 14 [.ref o 0] σ fun v σ'=>v=.sl 1 ((bk_ ss).map vStr) false∧σ=σ' :=
 hr_ (jy_ ho hc hm hk hl) fun x hx=>by
  obtain ⟨s,_,rfl⟩:=List.mem_map.1 hx
  rfl
theorem ki_ {o mo:Nat} {cs:List AVal} {kvs:List (Value × AVal)} {ss:List ByteArray} {σ:Store} (ho:σ.heap o=some (.cells cs)) (hc:cs[7]?=some (.map mo)) (hm:σ.heap mo=some (.map kvs)) (hk:kvs.map (·.1)=ss.map Value.string) (hl:ss.length≤1000) :
  ACalls Tryz.prog 214 [.ref o 0] σ fun v σ'=>∃ σ1,CBp σ1 σ' 1 ((bk_ ss).map vStr) v∧σ.Sub σ1:=by
 refine ACalls.rawMap hm fun es clk hmi=>?_
 have hom:o≠mo:=fun hh=>by rw [hh,hm] at ho;cases ho
 obtain ⟨hdec,hent⟩:=f1_ hmi hk
 obtain ⟨S,hS⟩:∃ S,S=σ.set mo (.raw (.map es clk)):=⟨_,rfl⟩
 have hoS:S.heap o=some (.cells cs):=by rw [hS,Store.set_ne _ _ hom];exact ho
 have hmS:S.heap mo=some (.raw (.map es clk)):=by rw [hS];exact Store.set_get ..
 have hSub:∀ τ:Store,S.Sub τ→τ.heap mo=some (.raw (.map es clk))∧σ.Sub (τ.set mo (.map kvs)):=fun τ hs=>⟨hs.heap _ _ hmS,⟨fun j y hy=>by
  by_cases hj:j=mo
  ·subst hj;rw [hm] at hy;rw [Store.set_get];exact hy
  ·rw [Store.set_ne _ _ hj];exact hs.heap _ _ (by rw [hS,Store.set_ne _ _ hj];exact hy),fun t p e=>hs.tok _ _ (by rw [hS];exact e)⟩⟩
 rw [← hS]
 clear hS
 refine ACalls.mono (Q:=fun v τ=>∃ σ1,CBp σ1 τ 1 ((bk_ ss).map vStr) v∧S.Sub σ1) ?_ fun v τ ⟨σ1,hC,hs⟩=>⟨hC.sub.heap _ _ (hSub σ1 hs).1,σ1.set mo (.map kvs),?_,(hSub σ1 hs).2⟩
 rotate_left
 ·rcases hC with ⟨h1,h2,rfl⟩ | ⟨p,hp,h1,rfl⟩
  ·exact .inl ⟨h1,h2,rfl⟩
  ·have hpm:p≠mo:=fun hh=>by rw [hh,(hSub σ1 hs).1] at hp;cases hp
   exact .inr ⟨p,by rw [Store.set_ne _ _ hpm];exact hp,h1,cN_ hpm⟩
 refine en_ Tryz.func214 Tryz.ntmps214 Tryz.results214 ?_
 refine rr_ ?_
 refine s_ ?_
 refine aa_ ?_
 refine rr_ ?_
 refine s_ ?_
 refine aa_ ?_
 refine ac_ ?_
 refine ac_ ?_
 have R:=And.intro hoS hc
 refine r_ ?_
 iterate 4 refine s_ ?_
 refine aL_X rfl rfl (cy_ (t:=129) (kt:=9) (et:=136) rfl kr_ va_ hmS fun i ho32 n32=>?_)
 refine aa_ ?_
 refine ah_ ?_
 refine au_ (ι:=Store × AVal × List MapEntry × List MapEntry × Array Nat) (fun ⟨τ,g,q,r,seen⟩=>r.length) (fun ⟨τ,g,q,r,seen⟩=>RIm es q r seen∧CBp (S.set i (.mapIter (some mo) clk seen clk)) τ 1 ((q.map dkE).map vStr) g) (fun ⟨τ,g,q,r,seen⟩=>[(3,g),(9,.ref i 0)]) (fun ⟨τ,g,q,r,seen⟩=>τ) (S.set i (.mapIter (some mo) clk #[] clk),.lit (.slice none 0 0),[],es.toList,#[]) ?_ ?_ ?_ ?_
 ·exact ⟨⟨by simp,rfl⟩,.inl ⟨rfl,rfl,rfl⟩⟩
 ·exact cv_
 ·exact Store.Wk.refl _
 rintro ⟨τ,g,q,r,seen⟩ ⟨hR,hC⟩
 simp only [aJ_,aX_]
 refine ac_ ?_
 have hi1:=hC.sub.heap i _ (Store.set_get ..)
 have hm1:=hC.sub.heap mo (.raw (.map es clk)) (by rw [Store.set_ne _ _ (Ne.symm n32)];exact hmS)
 refine r_ ?_
 refine aL_X rfl rfl (eo_ rfl va_ hi1 hm1 hmi.lt fun bb rest σ' hbb=>?_)
 refine s_ ?_
 refine aa_ ?_
 refine ac_ ?_
 refine cd_ (fun hc3=>?_) (fun hc3=>?_)
 ·skip
  rcases hbb with ⟨rfl,_⟩ | ⟨_,e,he,hse,rfl⟩
  ·cases hc3
  obtain ⟨r',hR',hlen⟩:=hR.step he hse
  have hek:=hent e he
  have hCi:=ex_ (y:=.mapIter (some mo) clk (seen.push e.born) clk) hC
  have hi2:=Store.set_get τ i (.mapIter (some mo) clk (seen.push e.born) clk)
  have hm2:(τ.set i (.mapIter (some mo) clk (seen.push e.born) clk)).heap mo=some (.raw (.map es clk)):=by rw [Store.set_ne _ _ (Ne.symm n32)];exact hm1
  generalize hτ:τ.set i (.mapIter (some mo) clk (seen.push e.born) clk)=υ at *
  refine ag_ ?_
  refine ah_ ?_
  refine rr_ ?_
  refine aL_X rfl rfl (em_ rfl va_ hi2 hm2 hmi.nd he ?_)
  rw [hek]
  simp only [ofConst]
  iterate 2 refine s_ ?_
  refine aa_ ?_
  have hql:q.length≤1000:=by
   have h1:=hR.perm.length_eq
   have h2:=congrArg List.length hdec
   simp only [List.length_append,List.length_map] at h1 h2
   omega
  refine r_ ?_
  iterate 2 refine s_ ?_
  refine ce_ rfl rfl rfl g_ g_ rfl rfl h_ c2_ (by decide) ?_
  refine aL_X rfl rfl (bb_ rfl g_ g_ hCi va_ (fun y hy=>by obtain ⟨s,_,rfl⟩:=List.mem_map.1 hy;rfl) va_ c_ (by simp;omega) fun a' σ' hC3=>?_)
  have hsub:σ'.Sub σ':=.refl _
  obtain ⟨τ',hτ'⟩:∃ τ',τ'=σ':=⟨_,rfl⟩
  subst hτ'
  refine s_ ?_
  refine aa_ ?_
  refine ca_ (ι:=Store × AVal × List MapEntry × List MapEntry × Array Nat) (i:=⟨τ,g,q,r,seen⟩) (τ',a',q ++ [e],r',seen.push e.born) ?_ ?_ ?_ ?_
  ·show r'.length < r.length;omega
  ·exact ⟨hR',by rw [List.map_append,List.map_append];exact hC3⟩
  ·exact cv_
  ·exact hsub.wk
 ·skip
  rcases hbb with ⟨_,hall,rfl⟩ | ⟨rfl,_⟩
  case inr=>cases hc3
  have hp:(q.map dkE).Perm ss:=by rw [← hdec];exact (hR.fin hmi.nd hall).map dkE
  have hsub0:S.Sub (S.set i (.mapIter (some mo) clk seen clk)):=⟨fun j y hy=>by
   rw [Store.set_ne _ _ (fun hh=>by rw [hh,ho32] at hy;cases hy)];exact hy,fun _ _ h=>h⟩
  have hpl:=hp.length_eq
  refine aM_ ?_
  refine ai_ ?_
  refine ai_ ?_
  refine aA_ ?_
  refine rr_ ?_
  refine s_ ?_
  refine x_ g_ va_ (ge_ hC (by omega)) ?_;rintro _ τ1 ⟨rfl,hC4⟩
  refine aa_ ?_
  refine rr_ ?_
  iterate 2 refine s_ ?_
  refine aa_ ?_
  refine aq_ ?_
  exact aK_ (σ':=τ1) va_ sub_ ⟨_,by rw [dy_ hp] at hC4;exact hC4,hsub0⟩
theorem l5_ {o mo:Nat} {cs:List AVal} {kvs:List (Value × AVal)} {ss:List ByteArray} {σ:Store} (ho:σ.heap o=some (.cells cs)) (hc:cs[7]?=some (.map mo)) (hm:σ.heap mo=some (.map kvs)) (hk:kvs.map (·.1)=ss.map Value.string) (hl:ss.length≤1000) :
  ACalls Tryz.prog 214 [.ref o 0] σ fun v σ'=>v=.sl 1 ((bk_ ss).map vStr) false∧σ=σ' :=
 hr_ (ki_ ho hc hm hk hl) fun x hx=>by
  obtain ⟨s,_,rfl⟩:=List.mem_map.1 hx
  rfl
end Go.Proofs.YtcdidkliidjoeaaGreatDoor
end

section
set_option linter.all false
set_option maxRecDepth 100000
namespace Go.Proofs
open Go.Shelf
def lJ_:Go.Shelf.Ren:=⟨(fun n=>match n with | 24=>199 | _=>0),(fun n=>match n with | 0=>0 | 3=>3 | 4=>4 | 9=>9 | 24=>47 | _=>0),(fun n=>match n with  | _=>0)⟩
theorem delS:Lays2.n24 Tryz.prog lJ_:={
 mixed:=Tryz.mixed
 f24:=by kernel_rfl
 t0:=Tryz.underlying0
 a0:=Tryz.isAgg0
 z0:=Tryz.sizeOf0
 v0:=Tryz.zeroValue0
 t3:=Tryz.underlying3
 a3:=Tryz.isAgg3
 z3:=Tryz.sizeOf3
 v3:=Tryz.zeroValue3
 t4:=Tryz.underlying4
 a4:=Tryz.isAgg4
 z4:=Tryz.sizeOf4
 v4:=Tryz.zeroValue4
 t9:=Tryz.underlying9
 a9:=Tryz.isAgg9
 z9:=Tryz.sizeOf9
 v9:=Tryz.zeroValue9
 t24:=Tryz.underlying47
 a24:=Tryz.isAgg47
 z24:=Tryz.sizeOf47
 v24:=Tryz.zeroValue47
 i9:=by kernel_rfl }
end Go.Proofs
namespace Go.Nb
open Go.Ab Go.RowKit Go.Proofs.YtcdidkliidjoeaaGreatDoor
theorem mW_:∀ {a b:List UInt8},leL a b=true→¬ b < a
 |[],b,_=>List.not_lt_nil b
 |a :: l,[],h=>by cases h
 |a :: l,b :: m,h=>by
  unfold leL at h
  rw [Bool.or_eq_true,Bool.and_eq_true] at h
  rw [List.cons_lt_cons_iff]
  rintro (h1 | ⟨rfl,h1⟩)
  ·have h2:b.toNat < a.toNat:=UInt8.lt_iff_toNat_lt.1 h1
   rcases h with h | ⟨h,_⟩
   ·have:a.toNat + 1≤b.toNat:=Nat.le_of_ble_eq_true h
    omega
   ·have:a.toNat=b.toNat:=ao_ h
    omega
  ·rcases h with h | ⟨_,h⟩
   ·have:b.toNat + 1≤b.toNat:=Nat.le_of_ble_eq_true h
    omega
   ·exact mW_ h h1
theorem gK_ (s:ByteArray):∀ l:List ByteArray,(insB s l).Perm (s :: l)
 |[]=>.refl _
 |a :: l=>by
  unfold insB
  cases leL s.data.toList a.data.toList with
  |true=>exact .refl _
  |false=>exact ((gK_ s l).cons a).trans (.swap s a l)
theorem eH_:∀ l:List ByteArray,(isortB l).Perm l
 |[]=>.refl _
 |a :: l=>(gK_ a (isortB l)).trans ((eH_ l).cons a)
theorem in_:∀ {l:List ByteArray},pairB l=true→(l.map Lb).Pairwise fun x y:List UInt8=>x≤y
 |[],_=>.nil
 |a :: l,h=>by
  unfold pairB at h
  rw [Bool.and_eq_true] at h
  rw [List.map_cons]
  refine .cons (fun y hy=>?_) (in_ h.2)
  obtain ⟨b,hb,rfl⟩:=List.mem_map.1 hy
  exact mW_ (List.all_eq_true.1 h.1 b hb)
theorem k6_ {l:List ByteArray} (h:pairB l=true):bk_ l=l:=by
 unfold bk_
 have e:(l.map Lb).mergeSort (fun x y=>decide (x≤y))=l.map Lb:=by
  refine List.Perm.eq_of_pairwise (le:=fun x y:List UInt8=>x≤y) (fun a b _ _ h h'=>List.le_antisymm h h') ?_ (in_ h) (List.mergeSort_perm _ _)
  have:=List.pairwise_mergeSort (le:=fun x y:List UInt8=>decide (x≤y)) (fun a b c h1 h2=>by simp only [decide_eq_true_eq] at *;exact List.le_trans h1 h2) (fun a b=>by simp only [Bool.or_eq_true,decide_eq_true_eq];exact List.le_total a b) (l.map Lb)
  exact this.imp fun h=>by simpa using h
 rw [e,List.map_map]
 conv=>rhs;rw [← List.map_id l]
 apply List.map_congr_left;intro x _;exact B_Lb x
theorem g9_:∀ {kvs:List (Value × AVal)} {ss:List ByteArray},strsOf kvs=some ss→kvs.map (·.1)=ss.map Value.string
 |[],ss,h=>by obtain rfl:=Option.some.inj h;rfl
 |(k,a) :: l,ss,h=>by
  unfold strsOf at h
  split at h
  ·rename_i heq;cases heq
  ·rename_i s b l' heq
   simp only [List.cons.injEq,Prod.mk.injEq] at heq
   obtain ⟨⟨rfl,rfl⟩,rfl⟩:=heq
   obtain ⟨ss',h1,rfl⟩:=Option.map_eq_some_iff.1 h
   rw [List.map_cons,List.map_cons,g9_ h1]
  ·cases h
theorem kl_ (ss:List ByteArray):nfL (ss.map fun s=>.lit (.string s))=true:=by
 induction ss with
 |nil=>rfl
 |cons s l ih=>rw [List.map_cons,nfL,ih];rfl
theorem ACalls.of1 {P:Program} {s:NSt} {σ1:Store} {f:FuncId} {args:List AVal} {v:AVal} (hs:σ1.Sub s.st) (h:Ab.ACalls P f args s.st fun a σ'=>a=v∧σ'=σ1) (hv:nf v=true) {Q:AVal→NSt→Prop} (hQ:Q v ⟨σ1,s.fr⟩):ACalls P f args s Q:=by
 intro κ vs hN hn hvs
 refine (h κ vs hN.1 hn hvs).mono fun e w' ⟨cv,he,κ',a,σ',h1,h2,h3,h4,h5,h6⟩=>?_
 subst h5;subst h6
 obtain ⟨κ'',q1,q2,q3,q4⟩:=re0 hN h2 h3 (fun o x e=>aG_ hN.1 o x (hs.heap _ _ e)) (fun t p e=>a2_ hN.1 t p (hs.tok _ _ e))
 exact ⟨cv,he,κ'',a,_,q1.trans h1,q2,q3,q4.keep h4 hv,hQ⟩
theorem hv_ {P:Program} {f k:Nat} (H:∀ {o mo:Nat} {cs:List AVal} {kvs:List (Value × AVal)} {ss:List ByteArray} {σ:Store},σ.heap o=some (.cells cs)→cs[k]?=some (.map mo)→σ.heap mo=some (.map kvs)→kvs.map (·.1)=ss.map Value.string→ss.length≤1000 →
  Ab.ACalls P f [.ref o 0] σ fun v σ'=>v=.sl 1 ((bk_ ss).map vStr) false∧σ=σ') {body call:Cl} {args:List AVal} {h:Hp} {t:Tk} {n:Nat} {v:AVal} {h':Hp} {t':Tk} {n':Nat} (hr:keysK k body call f args h t n=.ok v h' t' n') :
  ACalls P f args (toSt h t n) fun a s=>a=v∧s=toSt h' t' n':=by
 obtain ⟨R,hRe⟩:∃ R,R=Res.ok v h' t' n':=⟨_,rfl⟩
 rw [← hRe] at hr
 have hR:R.fine:=by rw [hRe];exact trivial
 unfold keysK at hr
 split at hr
 case h_2=>subst hr;exact hR.elim
 rename_i o
 split at hr
 case h_2=>subst hr;exact hR.elim
 rename_i cs hcs
 split at hr
 case h_2=>subst hr;exact hR.elim
 rename_i mo hmo
 split at hr
 case h_2=>subst hr;exact hR.elim
 rename_i kvs hkvs
 obtain ⟨ss,hss,hr⟩:=ae_ hR hr
 obtain ⟨hc,hr⟩:=af_ hR hr
 rw [Bool.and_eq_true] at hc
 rw [hRe] at hr
 injection hr with q1 q2 q3 q4
 subst q1;subst q2;subst q3;subst q4
 have hk:=H (σ:=(toSt h t n).st) hcs hmo hkvs (g9_ hss) (Nat.le_of_ble_eq_true hc.2)
 have e:bk_ ss=isortB ss:=by rw [← dy_ (eH_ ss)];exact k6_ hc.1
 rw [e] at hk
 exact ACalls.of0 hk (kl_ _) ⟨rfl,rfl⟩
theorem k8_:∀ {l:List AVal} {ss:List ByteArray},strL l=some ss→l=ss.map fun s=>.lit (.string s)
 |[],ss,h=>by obtain rfl:=Option.some.inj h;rfl
 |a :: l,ss,h=>by
  unfold strL at h
  split at h
  ·rename_i heq;cases heq
  ·rename_i s l' heq
   simp only [List.cons.injEq] at heq
   obtain ⟨rfl,rfl⟩:=heq
   obtain ⟨ss',h1,rfl⟩:=Option.map_eq_some_iff.1 h
   rw [List.map_cons,k8_ h1]
  ·cases h
theorem sk_ {o i j:Nat} {ss:List ByteArray} {σ:Store} (ho:σ.heap o=some (.cells (ss.map fun s=>.lit (.string s)))) (hij:i≤j) (hj:j≤ss.length) :
  Ab.ACalls Go.Proofs.Tryz.prog 199 [.msl o 1 0 ss.length,.lit (.int .i64 i),.lit (.int .i64 j)] σ fun v σ'=>v=.sl 1 ((ss.take i ++ ss.drop j).map fun s=>.lit (.string s)) false∧σ'=σ.del o:=by
 have key:Ab.ACalls Go.Proofs.Tryz.prog 199 [.msl o 1 0 ss.length,.lit (.int .i64 i),.lit (.int .i64 j)] σ fun v σ'=>v=.msl o 1 0 (ss.length - (j - i))∧σ'=σ.set o (.cells ((ss.take i ++ ss.drop j ++ List.replicate (j - i) (⟨⟨[]⟩⟩:ByteArray)).map fun s=>.lit (.string s))):=by
  intro κ vs hI hn hv
  have hv0:=hv 0 (by simp)
  have hv1:=(hv 1 (by simp)).litInv
  have hv2:=(hv 2 (by simp)).litInv
  simp only [List.getElem_cons_zero] at hv0
  have hvs:∃ u,vs=#[u,.int .i64 i,.int .i64 j]∧vs.getD 0 undef=u:=by
   match vs,hn,hv1,hv2 with
   |⟨[a,b,c]⟩,_,hv1,hv2 =>
    have e1:b=.int .i64 i:=hv1
    have e2:c=.int .i64 j:=hv2
    subst e1;subst e2
    exact ⟨a,rfl,rfl⟩
  obtain ⟨u,rfl,hu⟩:=hvs
  rw [hu] at hv0
  cases hv0 with
  |msl _ _ _ _ b cap nn e1 hb hlc hs hnn =>
  obtain ⟨b',hb',hbase,hIb,c,e,hheap,hlen',hR⟩:=hI.heap o _ ho
  rw [hb] at hb'
  obtain rfl:=Option.some.inj hb'
  have hH:Sort.Holds Go.Proofs.encStr κ.w b 0 (ss.map Lb).toArray:=ic_ Go.Proofs.encStr (ss.map Lb).toArray hheap (by simpa using hlen') fun q hq=>by
   have hq':q < ss.length:=by simpa using hq
   have h1:=hR q (by simpa using hq')
   simp only [List.getElem_map] at h1
   rw [h1.litInv]
   simp [hq']
   exact (B_Lb _).symm
  have hcall:=Go.Proofs.Any.slices_Delete_string Go.Proofs.delS b 0 cap i j (ss.map Lb) κ.w hH (by simpa using hlc) (by have:=hnn.2;simpa [maxLen] using this) hij (by simpa using hj)
  simp only [List.length_map] at hcall
  obtain ⟨ys,hys⟩:∃ ys:List (List UInt8),ys=(ss.map Lb).take i ++ (ss.map Lb).drop j ++ List.replicate (j - i) []:=⟨_,rfl⟩
  rw [← hys] at hcall
  have hlen:ys.length=ss.length:=by rw [hys];simp;omega
  have hcells:((ss.take i ++ ss.drop j ++ List.replicate (j - i) (⟨⟨[]⟩⟩:ByteArray)).map fun s=>AVal.lit (.string s))=ys.map fun z=>.lit (Go.Proofs.encStr z):=by
   have e1:∀ z:List ByteArray,(z.map Lb).map (fun l=>AVal.lit (Go.Proofs.encStr l))=z.map fun s=>.lit (.string s):=fun z=>by
    rw [List.map_map]
    apply List.map_congr_left;intro x _
    show AVal.lit (.string (B (Lb x)))=_
    rw [B_Lb]
   rw [hys,List.map_append,List.map_append,List.map_append,List.map_append,← List.map_take,← List.map_drop,e1,e1,List.map_replicate,List.map_replicate]
  refine hcall.mono fun ex w' ⟨he,q,hw⟩=>⟨_,he,?_⟩
  have key:=hI.rowed ho hb q (Sort.putCells Go.Proofs.encStr 0 ys.toArray) #[] (fun c=>dt_ Go.Proofs.encStr 0 _ c) (cs':=ys.map fun z=>.lit (Go.Proofs.encStr z)) (fun c hc _=>⟨by simpa [hlen] using hc,fun p hp=>by
   have hp':p < ys.length:=by simpa using hp
   rw [eV_ Go.Proofs.encStr ys.toArray c p (by simpa using hp') (by simp at hc ⊢;omega)]
   simp [hp']
   exact .lit _⟩)
  have hw2:w'=Ab.rowed κ.w q b (Sort.putCells Go.Proofs.encStr 0 ys.toArray) #[]:=by rw [hw];simp [Ab.rowed,Sort.grow,Sort.putRow]
  rw [hw2,hcells]
  exact ⟨{ κ with w:=Ab.rowed κ.w q b (Sort.putCells Go.Proofs.encStr 0 ys.toArray) #[] },.msl o 1 0 (ss.length - (j - i)),_,rfl,key.1,key.2,.msl o 1 0 _ b cap nn e1 hb (by omega) (key.1.shape _ _ hs) hnn,rfl,rfl⟩
 refine key.after ?_
 rintro κ _ _ cv hI hr ⟨rfl,rfl⟩
 obtain ⟨κ',h1,h2,h3,h4⟩:=Ab.freeze hI hr (Store.set_get ..) (l:=(ss.take i ++ ss.drop j).map fun s=>.lit (.string s)) (by
  rw [fZ_ (fun x hx=>by obtain ⟨s,_,rfl⟩:=List.mem_map.1 hx;rfl),Nat.mul_one,List.map_append (l₁:=ss.take i ++ ss.drop j)]
  exact List.take_left' (by simp;omega)) (by simp;omega) fun x hx=>by obtain ⟨s,_,rfl⟩:=List.mem_map.1 hx;rfl
 have e:(σ.set o (.cells ((ss.take i ++ ss.drop j ++ List.replicate (j - i) (⟨⟨[]⟩⟩:ByteArray)).map fun s=>.lit (.string s)))).del o=σ.del o:=by
  unfold Store.del Store.set
  simp only [Store.mk.injEq,and_true]
  funext q
  by_cases hq:q=o <;> simp [hq]
 rw [e] at h3
 exact ⟨κ',_,_,h1,h2,h3,h4,rfl,rfl⟩
theorem o7_ {body call:Cl} {args:List AVal} {h:Hp} {t:Tk} {n:Nat} {v:AVal} {h':Hp} {t':Tk} {n':Nat} (hr:delK body call 199 args h t n=.ok v h' t' n') :
  ACalls Go.Proofs.Tryz.prog 199 args (toSt h t n) fun a s=>a=v∧s=toSt h' t' n':=by
 obtain ⟨R,hRe⟩:∃ R,R=Res.ok v h' t' n':=⟨_,rfl⟩
 rw [← hRe] at hr
 have hR:R.fine:=by rw [hRe];exact trivial
 unfold delK at hr
 split at hr
 case h_2=>subst hr;exact hR.elim
 rename_i o len i j
 split at hr
 case h_2=>subst hr;exact hR.elim
 rename_i cs hcs
 obtain ⟨ss,hss,hr⟩:=ae_ hR hr
 obtain ⟨hc,hr2⟩:=af_ hR hr
 clear hr
 simp only [Bool.and_eq_true] at hc
 obtain ⟨c1,c2,c3,c4⟩:=hc
 obtain rfl:ss.length=len:=ao_ c1
 rw [hRe] at hr2
 injection hr2 with q1 q2 q3 q4
 subst q1;subst q2;subst q3;subst q4
 have hl:=k8_ hss
 subst hl
 refine ACalls.of1 (σ1:=(store h t).del o) (v:=.sl 1 ((ss.take i ++ ss.drop j).map fun s=>.lit (.string s)) false) ⟨fun p x hp=>?_,fun _ _ e=>e⟩ (sk_ (σ:=store h t) hcs (Nat.le_of_ble_eq_true c2) (Nat.le_of_ble_eq_true c3)) (show nfL _=true from kl_ _) ⟨rfl,?_⟩
 ·by_cases hpo:p=o
  ·rw [hpo,Store.del_get] at hp;cases hp
  ·rw [Store.del_ne _ hpo] at hp;exact hp
 ·show (⟨(store h t).del o,fun q=>n≤q⟩:NSt)=toSt (hdel o h) t n
  unfold toSt
  congr 1
  exact e3_ h t o
theorem gg_:SpOk Go.Proofs.Tryz.prog sp11:=by
 intro f g hg body call hb hc args h t n v h' t' n' hr
 unfold sp11 at hg
 cases h1:Nat.beq f 57 with
 |true =>
  rw [h1] at hg
  obtain rfl:=Option.some.inj hg
  obtain rfl:f=57:=ao_ h1
  exact ld_ (fn:=Go.Proofs.Tryz.f57) (gfn:=Go.Proofs.Tryz.f195) (gc:=(Go.Proofs.Tryz.f195.body).getD .skip) (trg:=fun _=>.nil) (gfuel:=10) Go.Proofs.Tryz.mixed kr_ kr_ kr_ kr_ kr_ (Nat.le_of_ble_eq_true kr_) kr_ kr_ rfl (fun l=>by kernel_rfl) hc hr
 |false =>
  rw [h1] at hg
  cases h2:Nat.beq f 10 with
  |true =>
   rw [h2] at hg
   obtain rfl:=Option.some.inj hg
   obtain rfl:f=10:=ao_ h2
   exact hv_ (fun a b c d e=>lF_ a b c d e) hr
  |false =>
   rw [h2] at hg
   cases h3:Nat.beq f 14 with
   |true =>
    rw [h3] at hg
    obtain rfl:=Option.some.inj hg
    obtain rfl:f=14:=ao_ h3
    exact hv_ (fun a b c d e=>lE_ a b c d e) hr
   |false =>
    rw [h3] at hg
    cases h4:Nat.beq f 214 with
    |true =>
     rw [h4] at hg
     obtain rfl:=Option.some.inj hg
     obtain rfl:f=214:=ao_ h4
     exact hv_ (fun a b c d e=>l5_ a b c d e) hr
    |false =>
     rw [h4] at hg
     cases h5:Nat.beq f 199 with
     |true =>
      rw [h5] at hg
      obtain rfl:=Option.some.inj hg
      obtain rfl:f=199:=ao_ h5
      exact o7_ hr
     |false=>rw [h5] at hg;cases hg
end Go.Nb
end
