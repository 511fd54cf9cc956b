/-
  A CLUSTER THAT IS NIL: Calm,Round,Drive come to nothing,whatever the lane is called; Clusters that nobody made are calm: the law's walk. Own work (an AI agent).
-/
import Derived.Test.YtcdidkliidjoeaaGreatDoorGO
import Derived.Test.YtcdidkliidjoeaaGreatDoorGC
import Derived.Test.YtcdidkliidjoeaaGreatDoorGD

section
set_option linter.all false
set_option maxRecDepth 100000
namespace Go.Nb
open Go.Ab
noncomputable def tellN:Cl→Cl→Cl:=oz_ Go.Proofs.Tryz.prog (fun id=>lM_ (find bsT 57 []) id) (fun id=>find (find trT 57 []) id .nil) (fun _=>[]) 10 195 (.lit (.slice none 0 0)) tpT []
noncomputable def spN (f:Nat):Option (Cl→Cl→Cl):=Bool.rec none (some tellN) (Nat.beq f 57)
theorem ru_:SpOk Go.Proofs.Tryz.prog spN:=by
 intro f g hg body call hb hc args h t n v h' t' n' hr
 unfold spN at hg
 cases h1:Nat.beq f 57 with
 |true =>
  rw [h1] at hg
  obtain rfl:=Option.some.inj hg
  obtain rfl:f=57:=ao_ h1
  exact ld_ (fn:=Go.Proofs.Tryz.f57) (gfn:=Go.Proofs.Tryz.f195) (gc:=(Go.Proofs.Tryz.f195.body).getD .skip) (trg:=fun _=>.nil) (gfuel:=10) Go.Proofs.Tryz.mixed kr_ kr_ kr_ kr_ kr_ (Nat.le_of_ble_eq_true kr_) kr_ kr_ rfl (fun l=>by kernel_rfl) hc hr
 |false=>rw [h1] at hg;cases hg
noncomputable def tabN:Tab:={ tab0 with nat:=fun _ _=>none,sp:=spN }
noncomputable def nilB (f:Nat) (args:List AVal) (v:Value):Bool:=match d0_ Go.Proofs.Tryz.prog tabN 1000 100 f args .nil .nil 0 with
 |.ok w _ _ _=>aeqb w (.lit v)
 |.bad _=>false
theorem b7_ {f:Nat} {args:List AVal} {v:Value} (h:nilB f args v=true) (ha:nfL args=true) (hv:nf (.lit v)=true) (σ:Store):Ab.ACalls Go.Proofs.Tryz.prog f args σ fun a σ'=>a=.lit v∧σ'=σ:=by
 unfold nilB at h
 split at h
 ·rename_i w h2 t2 n2 hr
  have hc:=(d7_ (fuel:=1000) (c0_ (fun _ _=>none) ru_) Go.Proofs.Tryz.mixed (fun _ _ _ e=>nomatch e) 100).1 _ _ _ _ _ _ _ _ _ hr
  rw [c1_ h] at hc
  exact toAb fun s=>ACalls.pure (v:=.lit v) (hc.mono fun a s' ⟨e1,e2⟩ κ cv hN hrv=>⟨κ,s'.st,rfl,.refl κ,hN.1,e1 ▸ hrv⟩) ha hv ⟨rfl,rfl⟩
 ·cases h
theorem calm_nil (s:ByteArray) (σ:Store):Ab.ACalls Go.Proofs.Tryz.prog 22 [.lit (.pointer none),.lit (.string s)] σ fun a σ'=>a=.lit (.int .i64 0)∧σ'=σ:=b7_ kr_ rfl rfl σ
theorem round_nil (σ:Store):Ab.ACalls Go.Proofs.Tryz.prog 23 [.lit (.pointer none)] σ fun a σ'=>a=.lit (.int .i64 0)∧σ'=σ:=b7_ kr_ rfl rfl σ
theorem drive_nil {k:Nat} (hk:k < 8) (σ:Store):Ab.ACalls Go.Proofs.Tryz.prog 24 [.lit (.pointer none),.lit (.int .i64 (k:Int))] σ fun a σ'=>a=.lit (.int .i64 0)∧σ'=σ:=by
 match k,hk with
 |0,_=>exact b7_ kr_ rfl rfl σ
 |1,_=>exact b7_ kr_ rfl rfl σ
 |2,_=>exact b7_ kr_ rfl rfl σ
 |3,_=>exact b7_ kr_ rfl rfl σ
 |4,_=>exact b7_ kr_ rfl rfl σ
 |5,_=>exact b7_ kr_ rfl rfl σ
 |6,_=>exact b7_ kr_ rfl rfl σ
 |7,_=>exact b7_ kr_ rfl rfl σ
end Go.Nb
end

section
set_option linter.all false
set_option maxRecDepth 100000
namespace Go.Proofs.YtcdidkliidjoeaaGreatDoor
open Go.Ab
theorem jw_ {n p:Int} {σ:Store}:ACalls Tryz.prog 25 [vInt n,vInt p] σ fun v σ'=>v=vInt (if n < 1∨p < 1 then 0 else 2)∧σ=σ':=by
 refine en_ Tryz.func25 Tryz.ntmps25 Tryz.results25 ?_
 refine rr_ ?_
 refine s_ ?_
 refine aa_ ?_
 refine ac_ ?_
 refine rr_ ?_
 iterate 3 refine s_ ?_
 refine gf_ ?_
 refine gf_ ?_
 refine s_ ?_
 refine aa_ ?_
 refine cd_ (fun hc1=>?_) (fun hc1=>?_)
 ·refine rr_ ?_
  refine s_ ?_
  refine aa_ ?_
  refine aq_ ?_
  refine er_ σ ?_
  exact ⟨by rw [if_pos (by omega)],rfl⟩
 ·refine ag_ ?_
  refine rr_ ?_
  refine s_ ?_
  refine aa_ ?_
  refine aq_ ?_
  refine er_ σ ?_
  exact ⟨by rw [if_neg (by omega)],rfl⟩
theorem and7 (n:Int):0≤IntKind.i64.wrap ((BitVec.ofInt IntKind.i64.bits n &&& BitVec.ofInt IntKind.i64.bits 7).toNat:Nat)∧IntKind.i64.wrap ((BitVec.ofInt IntKind.i64.bits n &&& BitVec.ofInt IntKind.i64.bits 7).toNat:Nat) < 8:=by
 have h:(BitVec.ofInt IntKind.i64.bits n &&& BitVec.ofInt IntKind.i64.bits 7).toNat≤7:=by
  rw [BitVec.toNat_and]
  exact Nat.and_le_right
 generalize (BitVec.ofInt IntKind.i64.bits n &&& BitVec.ofInt IntKind.i64.bits 7).toNat=m at h ⊢
 match m,h with
 |0,_=>exact ⟨by decide,by decide⟩
 |1,_=>exact ⟨by decide,by decide⟩
 |2,_=>exact ⟨by decide,by decide⟩
 |3,_=>exact ⟨by decide,by decide⟩
 |4,_=>exact ⟨by decide,by decide⟩
 |5,_=>exact ⟨by decide,by decide⟩
 |6,_=>exact ⟨by decide,by decide⟩
 |7,_=>exact ⟨by decide,by decide⟩
theorem mP_ {s:ByteArray} {σ:Store}:ACalls Tryz.prog 22 [.lit (.pointer none),vStr s] σ fun v σ'=>v=vInt 0∧σ=σ':=(Nb.calm_nil s σ).mono fun _ _ h=>⟨h.1,h.2.symm⟩
theorem kO_ {σ:Store}:ACalls Tryz.prog 23 [.lit (.pointer none)] σ fun v σ'=>v=vInt 0∧σ=σ':=(Nb.round_nil σ).mono fun _ _ h=>⟨h.1,h.2.symm⟩
theorem jI_ {i:Int} {σ:Store} (h0:0≤i) (h8:i < 8):ACalls Tryz.prog 24 [.lit (.pointer none),vInt i] σ fun v σ'=>v=vInt 0∧σ=σ':=by
 obtain ⟨k,rfl⟩:=Int.eq_ofNat_of_zero_le h0
 exact (Nb.drive_nil (k:=k) (by omega) σ).mono fun _ _ h=>⟨h.1,h.2.symm⟩
theorem pa_ {n p:Int} {l:ByteArray} {σ:Store} (hw:∀ σ:Store,ACalls Tryz.prog 21 [] σ fun v σ'=>v=.lit (.bool true)∧σ=σ') :
  ACalls Tryz.prog 4 [vInt n,vInt p,vStr l] σ fun v σ'=>v=.lit (.bool true)∧σ=σ':=by
 refine en_ Tryz.func4 Tryz.ntmps4 Tryz.results4 ?_
 refine rr_ ?_
 refine s_ ?_
 refine aa_ ?_
 refine ac_ ?_
 refine rr_ ?_
 iterate 3 refine s_ ?_
 refine aa_ ?_
 refine cd_ (fun hc1=>?_) (fun hc1=>?_)
 ·refine rr_ ?_
  refine x_ g_ va_ (hw _) ?_;rintro _ _ ⟨rfl,rfl⟩
  refine s_ ?_
  refine aa_ ?_
  refine aq_ ?_
  refine er_ σ ?_
  exact ⟨by first | rfl | (rw [if_neg (by omega)];rfl) | (rw [if_pos (by omega)];rfl),rfl⟩
 ·refine ag_ ?_
  refine rr_ ?_
  refine s_ ?_
  refine aa_ ?_
  refine ac_ ?_
  refine rr_ ?_
  iterate 3 refine s_ ?_
  refine gf_ ?_
  refine gf_ ?_
  refine s_ ?_
  refine aa_ ?_
  refine cd_ (fun hc4=>?_) (fun hc4=>?_)
  ·refine r_ ?_
   refine s_ ?_
   refine aa_ ?_
   refine rr_ ?_
   refine s_ ?_
   refine x_ g_ va_ (mP_) ?_;rintro _ _ ⟨rfl,rfl⟩
   iterate 2 refine s_ ?_
   refine dS_ rfl rfl v_ rfl (fun hb=>bZ_ (by rfl) (by rfl) (.inr ⟨by rfl,by rfl,by rfl⟩) g_ cg_ (kO_)) ?_
   refine gt_ ?_
   iterate 2 refine s_ ?_
   refine gt_ ?_
   refine gt_ ?_
   refine dS_ rfl rfl v_ rfl (fun hb=>bZ_ (by rfl) (by rfl) (.inr ⟨by rfl,by rfl,by rfl⟩) g_ cg_ (jI_ (and7 _).1 (and7 _).2)) ?_
   refine gt_ ?_
   iterate 2 refine s_ ?_
   refine gt_ ?_
   refine gt_ ?_
   refine dS_ rfl rfl v_ rfl (fun hb=>bZ_ (by rfl) (by rfl) (.inr ⟨by rfl,by rfl,by rfl⟩) g_ cg_ (jw_)) ?_
   refine gt_ ?_
   refine gt_ ?_
   iterate 2 refine s_ ?_
   refine dS_ rfl rfl v_ rfl (fun hb=>bZ_ (by rfl) (by rfl) (.inr ⟨by rfl,by rfl,by rfl⟩) g_ cg_ (hw _)) ?_
   iterate 2 refine s_ ?_
   refine aa_ ?_
   refine aq_ ?_
   refine er_ σ ?_
   exact ⟨by first | rfl | (rw [if_neg (by omega)];rfl) | (rw [if_pos (by omega)];rfl),rfl⟩
  ·refine ag_ ?_
   refine rr_ ?_
   refine s_ ?_
   refine x_ g_ va_ (mP_) ?_;rintro _ _ ⟨rfl,rfl⟩
   iterate 2 refine s_ ?_
   refine dS_ rfl rfl v_ rfl (fun hb=>bZ_ (by rfl) (by rfl) (.inr ⟨by rfl,by rfl,by rfl⟩) g_ cg_ (kO_)) ?_
   refine gt_ ?_
   iterate 2 refine s_ ?_
   refine gt_ ?_
   refine gt_ ?_
   refine dS_ rfl rfl v_ rfl (fun hb=>bZ_ (by rfl) (by rfl) (.inr ⟨by rfl,by rfl,by rfl⟩) g_ cg_ (jI_ (and7 _).1 (and7 _).2)) ?_
   refine gt_ ?_
   iterate 2 refine s_ ?_
   refine gt_ ?_
   refine gt_ ?_
   refine dS_ rfl rfl v_ rfl (fun hb=>bZ_ (by rfl) (by rfl) (.inr ⟨by rfl,by rfl,by rfl⟩) g_ cg_ (jw_)) ?_
   refine gt_ ?_
   refine gt_ ?_
   iterate 2 refine s_ ?_
   refine dS_ rfl rfl v_ rfl (fun hb=>bZ_ (by rfl) (by rfl) (.inr ⟨by rfl,by rfl,by rfl⟩) g_ cg_ (hw _)) ?_
   iterate 2 refine s_ ?_
   refine aa_ ?_
   refine aq_ ?_
   refine er_ σ ?_
   exact ⟨by first | rfl | (rw [if_neg (by omega)];rfl) | (rw [if_pos (by omega)];rfl),rfl⟩
end Go.Proofs.YtcdidkliidjoeaaGreatDoor
end
