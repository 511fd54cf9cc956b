/-
  Walks and plain laws for the statement (see the law's own text). Own work (an AI agent).
-/
import Derived.Test.YtkjfpgjpeofndaaGreatDoorGF
import Derived.Test.YtkjfpgjpeofndaaGreatDoorGD
import Derived.Test.YtkjfpgjpeofndaaGreatDoorGM
import Derived.Test.YtkjfpgjpeofndaaGreatDoorGE

section
set_option linter.all false
set_option maxRecDepth 100000
namespace Go.Proofs.YtkjfpgjpeofndaaGreatDoor
open Go.Ab
set_option maxHeartbeats 4000000 in
theorem s0_ {o:Nat} {x:Rd} {σ:Store} (ho:σ.heap o=some (rdO x)):ACalls Tryz.prog 160 [.ref o 0] σ fun v σ'=>v=sMsg (dd_ x).1∧σ'.heap o=some (rdO (dd_ x).2)∧SubX [o] σ σ':=by
 obtain ⟨z,hz⟩:∃ z,AObj.cells [.lit (.int .i64 0),.lit (.string ⟨#[]⟩),.lit (.string ⟨#[]⟩),.lit (.int .i64 0),.lit (.int .i64 0),.lit (.string ⟨#[]⟩),.lit (.slice none 0 0),.lit (.slice none 0 0),.lit (.slice none 0 0),.lit (.slice none 0 0),.lit (.slice none 0 0),.lit (.slice none 0 0)]=z:=⟨_,rfl⟩
 obtain ⟨a,ha⟩:∃ q,aV_ x 1=q:=⟨_,rfl⟩
 obtain ⟨b,hb⟩:∃ q,al_ a.2=q:=⟨_,rfl⟩
 obtain ⟨c,hc⟩:∃ q,al_ b.2=q:=⟨_,rfl⟩
 obtain ⟨d,hd⟩:∃ q,aV_ c.2 8=q:=⟨_,rfl⟩
 obtain ⟨e,he⟩:∃ q,aV_ d.2 1=q:=⟨_,rfl⟩
 obtain ⟨f,hf⟩:∃ q,al_ e.2=q:=⟨_,rfl⟩
 obtain ⟨g,hg⟩:∃ q,c7_ f.2=q:=⟨_,rfl⟩
 obtain ⟨h,hh⟩:∃ q,bd_ rdTx g.2=q:=⟨_,rfl⟩
 obtain ⟨i,hi⟩:∃ q,bY_ eO_ h.2=q:=⟨_,rfl⟩
 obtain ⟨j,hj⟩:∃ q,bY_ dJ_ i.2=q:=⟨_,rfl⟩
 obtain ⟨k,hk⟩:∃ q,bd_ fj_ j.2=q:=⟨_,rfl⟩
 rw [h1_ ha hb hc hd he hf hg hh hi hj hk]
 refine en_ Tryz.func160 Tryz.ntmps160 Tryz.results160 ?_
 refine rr_ ?_
 refine bx_ fun o1 ho1=>?_
 repeat (rw [ad_] at ho1;obtain ⟨_,ho1⟩:=ho1)
 refine lc_ fun o2 ho2=>?_
 repeat (rw [ad_] at ho2;obtain ⟨_,ho2⟩:=ho2)
 refine aa_ ?_
 have n1:=an_ ho ho1
 have n2:=an_ ho ho2
 refine rr_ ?_
 refine lc_ fun o3 ho3=>?_
 repeat (rw [ad_] at ho3;obtain ⟨_,ho3⟩:=ho3)
 refine aa_ ?_
 have n3:=an_ ho ho3
 refine bw_ (ι:=Store) (fun υ=>υ.heap o=some (rdO c.2)∧υ.heap o1=some (.cells [.ref o 0])∧υ.heap o2=some z∧υ.heap o3=some (.cells [vInt a.1,vStr (B b.1),vStr (B c.1),.lit (.int .i64 0),.lit (.int .i64 0),.lit (.string ⟨#[]⟩),.lit (.slice none 0 0),.lit (.slice none 0 0),.lit (.slice none 0 0),.lit (.slice none 0 0),.lit (.slice none 0 0),.lit (.slice none 0 0)])∧SubX [o] σ υ) (fun υ=>[(1,.ref o1 0),(2,.ref o2 0),(3,.ref o3 0)]) (fun υ=>υ) ?_ ?_
 ·refine aL_ (.alt 0 2 (.alt 1 2 (.op 6 0 (.alt 2 2 (.alt 3 2 (.op 4 2 (.op 5 2 (.op 7 2 (.op 8 0 (.op 9 2 (.op 10 0 (.op 11 2 .nil))))))) (.op 4 2 (.op 3 2 (.op 5 2 (.op 7 2 (.op 8 0 (.op 9 2 (.op 10 0 (.op 11 2 .nil))))))))) (.op 4 2 (.op 2 2 (.op 3 2 (.op 5 2 (.op 7 2 (.op 8 0 (.op 9 2 (.op 10 0 (.op 11 2 .nil))))))))))) (.alt 2 2 (.alt 1 2 (.op 6 0 (.alt 3 2 (.op 4 2 (.op 5 2 (.op 7 2 (.op 8 0 (.op 9 2 (.op 10 0 (.op 11 2 .nil))))))) (.op 4 2 (.op 3 2 (.op 5 2 (.op 7 2 (.op 8 0 (.op 9 2 (.op 10 0 (.op 11 2 .nil)))))))))) (.op 4 2 (.op 1 2 (.op 6 0 (.op 3 2 (.op 5 2 (.op 7 2 (.op 8 0 (.op 9 2 (.op 10 0 (.op 11 2 .nil))))))))))) (.op 4 2 (.alt 1 2 (.op 6 0 (.op 2 2 (.op 3 2 (.op 5 2 (.op 7 2 (.op 8 0 (.op 9 2 (.op 10 0 (.op 11 2 .nil))))))))) (.op 2 2 (.op 1 2 (.op 6 0 (.op 3 2 (.op 5 2 (.op 7 2 (.op 8 0 (.op 9 2 (.op 10 0 (.op 11 2 .nil)))))))))))))) (.alt 2 2 (.alt 0 2 (.alt 1 2 (.op 6 0 (.alt 3 2 (.op 4 2 (.op 5 2 (.op 7 2 (.op 8 0 (.op 9 2 (.op 10 0 (.op 11 2 .nil))))))) (.op 4 2 (.op 3 2 (.op 5 2 (.op 7 2 (.op 8 0 (.op 9 2 (.op 10 0 (.op 11 2 .nil)))))))))) (.op 4 2 (.op 1 2 (.op 6 0 (.op 3 2 (.op 5 2 (.op 7 2 (.op 8 0 (.op 9 2 (.op 10 0 (.op 11 2 .nil))))))))))) (.op 4 2 (.op 0 2 (.op 1 2 (.op 6 0 (.op 3 2 (.op 5 2 (.op 7 2 (.op 8 0 (.op 9 2 (.op 10 0 (.op 11 2 .nil)))))))))))) (.op 4 2 (.alt 0 2 (.alt 1 2 (.op 6 0 (.op 2 2 (.op 3 2 (.op 5 2 (.op 7 2 (.op 8 0 (.op 9 2 (.op 10 0 (.op 11 2 .nil))))))))) (.op 2 2 (.op 1 2 (.op 6 0 (.op 3 2 (.op 5 2 (.op 7 2 (.op 8 0 (.op 9 2 (.op 10 0 (.op 11 2 .nil))))))))))) (.op 2 2 (.op 0 2 (.op 1 2 (.op 6 0 (.op 3 2 (.op 5 2 (.op 7 2 (.op 8 0 (.op 9 2 (.op 10 0 (.op 11 2 .nil))))))))))))))) Tryz.mixed kr_ ?_
  refine a3_ ?_ ?_
  ·refine dR_T o_ (by rfl) (by rfl) (ao_ v_ ?_)
   refine a3_ ?_ ?_
   ·refine tx_ o_ g_ va_ (a1_ ha (by simp (disch:=omega) only [Store.set_ne,ho])) ?_;rintro _ _ ⟨rfl,rfl⟩
    refine ds_ ?_
    refine a3_ ?_ ?_
    ·refine dR_T o_ (by rfl) (by rfl) (ao_ v_ ?_)
     refine a3_ ?_ ?_
     ·refine tx_ o_ g_ va_ (aH_ hb (Store.set_get ..)) ?_;rintro _ _ ⟨rfl,rfl⟩
      refine dR_T o_ (by rfl) (by rfl) (ao_ v_ ?_)
      refine tx_ o_ g_ va_ (aH_ hc (Store.set_get ..)) ?_;rintro _ _ ⟨rfl,rfl⟩
      refine dst_ ?_
      refine ds_ ?_
      refine dst_ ?_
      refine ds_ ?_
      refine dst_ ?_
      refine aG_ ?_
      refine ⟨(((((((((σ.set o1 (.cells [.ref o 0])).set o2 (.cells [.lit (.int .i64 0),.lit (.string ⟨#[]⟩),.lit (.string ⟨#[]⟩),.lit (.int .i64 0),.lit (.int .i64 0),.lit (.string ⟨#[]⟩),.lit (.slice none 0 0),.lit (.slice none 0 0),.lit (.slice none 0 0),.lit (.slice none 0 0),.lit (.slice none 0 0),.lit (.slice none 0 0)])).set o3 (.cells [.lit (.int .i64 0),.lit (.string ⟨#[]⟩),.lit (.string ⟨#[]⟩),.lit (.int .i64 0),.lit (.int .i64 0),.lit (.string ⟨#[]⟩),.lit (.slice none 0 0),.lit (.slice none 0 0),.lit (.slice none 0 0),.lit (.slice none 0 0),.lit (.slice none 0 0),.lit (.slice none 0 0)])).set o (rdO a.2)).set o (rdO b.2)).set o (rdO c.2)).set o3 (.cells [vInt a.1,.lit (.string ⟨#[]⟩),.lit (.string ⟨#[]⟩),.lit (.int .i64 0),.lit (.int .i64 0),.lit (.string ⟨#[]⟩),.lit (.slice none 0 0),.lit (.slice none 0 0),.lit (.slice none 0 0),.lit (.slice none 0 0),.lit (.slice none 0 0),.lit (.slice none 0 0)])).set o3 (.cells [vInt a.1,vStr (B b.1),.lit (.string ⟨#[]⟩),.lit (.int .i64 0),.lit (.int .i64 0),.lit (.string ⟨#[]⟩),.lit (.slice none 0 0),.lit (.slice none 0 0),.lit (.slice none 0 0),.lit (.slice none 0 0),.lit (.slice none 0 0),.lit (.slice none 0 0)])).set o3 (.cells [vInt a.1,vStr (B b.1),vStr (B c.1),.lit (.int .i64 0),.lit (.int .i64 0),.lit (.string ⟨#[]⟩),.lit (.slice none 0 0),.lit (.slice none 0 0),.lit (.slice none 0 0),.lit (.slice none 0 0),.lit (.slice none 0 0),.lit (.slice none 0 0)])),?_,?_,?_⟩
      ·rw [← hz];exact ⟨h_,h_,h_,h_,sub_⟩
      ·exact cv_
      ·exact Store.Wk.refl _
     refine dR_T o_ (by rfl) (by rfl) (ao_ v_ ?_)
     refine tx_ o_ g_ va_ (aH_ hb (Store.set_get ..)) ?_;rintro _ _ ⟨rfl,rfl⟩
     refine tx_ o_ g_ va_ (aH_ hc (Store.set_get ..)) ?_;rintro _ _ ⟨rfl,rfl⟩
     refine dst_ ?_
     refine ds_ ?_
     refine dst_ ?_
     refine ds_ ?_
     refine dst_ ?_
     refine aG_ ?_
     refine ⟨(((((((((σ.set o1 (.cells [.ref o 0])).set o2 (.cells [.lit (.int .i64 0),.lit (.string ⟨#[]⟩),.lit (.string ⟨#[]⟩),.lit (.int .i64 0),.lit (.int .i64 0),.lit (.string ⟨#[]⟩),.lit (.slice none 0 0),.lit (.slice none 0 0),.lit (.slice none 0 0),.lit (.slice none 0 0),.lit (.slice none 0 0),.lit (.slice none 0 0)])).set o3 (.cells [.lit (.int .i64 0),.lit (.string ⟨#[]⟩),.lit (.string ⟨#[]⟩),.lit (.int .i64 0),.lit (.int .i64 0),.lit (.string ⟨#[]⟩),.lit (.slice none 0 0),.lit (.slice none 0 0),.lit (.slice none 0 0),.lit (.slice none 0 0),.lit (.slice none 0 0),.lit (.slice none 0 0)])).set o (rdO a.2)).set o (rdO b.2)).set o (rdO c.2)).set o3 (.cells [vInt a.1,.lit (.string ⟨#[]⟩),.lit (.string ⟨#[]⟩),.lit (.int .i64 0),.lit (.int .i64 0),.lit (.string ⟨#[]⟩),.lit (.slice none 0 0),.lit (.slice none 0 0),.lit (.slice none 0 0),.lit (.slice none 0 0),.lit (.slice none 0 0),.lit (.slice none 0 0)])).set o3 (.cells [vInt a.1,vStr (B b.1),.lit (.string ⟨#[]⟩),.lit (.int .i64 0),.lit (.int .i64 0),.lit (.string ⟨#[]⟩),.lit (.slice none 0 0),.lit (.slice none 0 0),.lit (.slice none 0 0),.lit (.slice none 0 0),.lit (.slice none 0 0),.lit (.slice none 0 0)])).set o3 (.cells [vInt a.1,vStr (B b.1),vStr (B c.1),.lit (.int .i64 0),.lit (.int .i64 0),.lit (.string ⟨#[]⟩),.lit (.slice none 0 0),.lit (.slice none 0 0),.lit (.slice none 0 0),.lit (.slice none 0 0),.lit (.slice none 0 0),.lit (.slice none 0 0)])),?_,?_,?_⟩
     ·rw [← hz];exact ⟨h_,h_,h_,h_,sub_⟩
     ·exact cv_
     ·exact Store.Wk.refl _
    refine dR_T o_ (by rfl) (by rfl) (ao_ v_ ?_)
    refine dR_T o_ (by rfl) (by rfl) (ao_ v_ ?_)
    refine tx_ o_ g_ va_ (aH_ hb (Store.set_get ..)) ?_;rintro _ _ ⟨rfl,rfl⟩
    refine tx_ o_ g_ va_ (aH_ hc (Store.set_get ..)) ?_;rintro _ _ ⟨rfl,rfl⟩
    refine dst_ ?_
    refine ds_ ?_
    refine dst_ ?_
    refine ds_ ?_
    refine dst_ ?_
    refine aG_ ?_
    refine ⟨(((((((((σ.set o1 (.cells [.ref o 0])).set o2 (.cells [.lit (.int .i64 0),.lit (.string ⟨#[]⟩),.lit (.string ⟨#[]⟩),.lit (.int .i64 0),.lit (.int .i64 0),.lit (.string ⟨#[]⟩),.lit (.slice none 0 0),.lit (.slice none 0 0),.lit (.slice none 0 0),.lit (.slice none 0 0),.lit (.slice none 0 0),.lit (.slice none 0 0)])).set o3 (.cells [.lit (.int .i64 0),.lit (.string ⟨#[]⟩),.lit (.string ⟨#[]⟩),.lit (.int .i64 0),.lit (.int .i64 0),.lit (.string ⟨#[]⟩),.lit (.slice none 0 0),.lit (.slice none 0 0),.lit (.slice none 0 0),.lit (.slice none 0 0),.lit (.slice none 0 0),.lit (.slice none 0 0)])).set o (rdO a.2)).set o (rdO b.2)).set o (rdO c.2)).set o3 (.cells [vInt a.1,.lit (.string ⟨#[]⟩),.lit (.string ⟨#[]⟩),.lit (.int .i64 0),.lit (.int .i64 0),.lit (.string ⟨#[]⟩),.lit (.slice none 0 0),.lit (.slice none 0 0),.lit (.slice none 0 0),.lit (.slice none 0 0),.lit (.slice none 0 0),.lit (.slice none 0 0)])).set o3 (.cells [vInt a.1,vStr (B b.1),.lit (.string ⟨#[]⟩),.lit (.int .i64 0),.lit (.int .i64 0),.lit (.string ⟨#[]⟩),.lit (.slice none 0 0),.lit (.slice none 0 0),.lit (.slice none 0 0),.lit (.slice none 0 0),.lit (.slice none 0 0),.lit (.slice none 0 0)])).set o3 (.cells [vInt a.1,vStr (B b.1),vStr (B c.1),.lit (.int .i64 0),.lit (.int .i64 0),.lit (.string ⟨#[]⟩),.lit (.slice none 0 0),.lit (.slice none 0 0),.lit (.slice none 0 0),.lit (.slice none 0 0),.lit (.slice none 0 0),.lit (.slice none 0 0)])),?_,?_,?_⟩
    ·rw [← hz];exact ⟨h_,h_,h_,h_,sub_⟩
    ·exact cv_
    ·exact Store.Wk.refl _
   refine a3_ ?_ ?_
   ·refine dR_T o_ (by rfl) (by rfl) (ao_ v_ ?_)
    refine a3_ ?_ ?_
    ·refine tx_ o_ g_ va_ (a1_ ha (by simp (disch:=omega) only [Store.set_ne,ho])) ?_;rintro _ _ ⟨rfl,rfl⟩
     refine ds_ ?_
     refine a3_ ?_ ?_
     ·refine tx_ o_ g_ va_ (aH_ hb (Store.set_get ..)) ?_;rintro _ _ ⟨rfl,rfl⟩
      refine dR_T o_ (by rfl) (by rfl) (ao_ v_ ?_)
      refine tx_ o_ g_ va_ (aH_ hc (Store.set_get ..)) ?_;rintro _ _ ⟨rfl,rfl⟩
      refine dst_ ?_
      refine ds_ ?_
      refine dst_ ?_
      refine ds_ ?_
      refine dst_ ?_
      refine aG_ ?_
      refine ⟨(((((((((σ.set o1 (.cells [.ref o 0])).set o2 (.cells [.lit (.int .i64 0),.lit (.string ⟨#[]⟩),.lit (.string ⟨#[]⟩),.lit (.int .i64 0),.lit (.int .i64 0),.lit (.string ⟨#[]⟩),.lit (.slice none 0 0),.lit (.slice none 0 0),.lit (.slice none 0 0),.lit (.slice none 0 0),.lit (.slice none 0 0),.lit (.slice none 0 0)])).set o3 (.cells [.lit (.int .i64 0),.lit (.string ⟨#[]⟩),.lit (.string ⟨#[]⟩),.lit (.int .i64 0),.lit (.int .i64 0),.lit (.string ⟨#[]⟩),.lit (.slice none 0 0),.lit (.slice none 0 0),.lit (.slice none 0 0),.lit (.slice none 0 0),.lit (.slice none 0 0),.lit (.slice none 0 0)])).set o (rdO a.2)).set o (rdO b.2)).set o (rdO c.2)).set o3 (.cells [vInt a.1,.lit (.string ⟨#[]⟩),.lit (.string ⟨#[]⟩),.lit (.int .i64 0),.lit (.int .i64 0),.lit (.string ⟨#[]⟩),.lit (.slice none 0 0),.lit (.slice none 0 0),.lit (.slice none 0 0),.lit (.slice none 0 0),.lit (.slice none 0 0),.lit (.slice none 0 0)])).set o3 (.cells [vInt a.1,vStr (B b.1),.lit (.string ⟨#[]⟩),.lit (.int .i64 0),.lit (.int .i64 0),.lit (.string ⟨#[]⟩),.lit (.slice none 0 0),.lit (.slice none 0 0),.lit (.slice none 0 0),.lit (.slice none 0 0),.lit (.slice none 0 0),.lit (.slice none 0 0)])).set o3 (.cells [vInt a.1,vStr (B b.1),vStr (B c.1),.lit (.int .i64 0),.lit (.int .i64 0),.lit (.string ⟨#[]⟩),.lit (.slice none 0 0),.lit (.slice none 0 0),.lit (.slice none 0 0),.lit (.slice none 0 0),.lit (.slice none 0 0),.lit (.slice none 0 0)])),?_,?_,?_⟩
      ·rw [← hz];exact ⟨h_,h_,h_,h_,sub_⟩
      ·exact cv_
      ·exact Store.Wk.refl _
     refine dR_T o_ (by rfl) (by rfl) (ao_ v_ ?_)
     refine tx_ o_ g_ va_ (aH_ hb (Store.set_get ..)) ?_;rintro _ _ ⟨rfl,rfl⟩
     refine tx_ o_ g_ va_ (aH_ hc (Store.set_get ..)) ?_;rintro _ _ ⟨rfl,rfl⟩
     refine dst_ ?_
     refine ds_ ?_
     refine dst_ ?_
     refine ds_ ?_
     refine dst_ ?_
     refine aG_ ?_
     refine ⟨(((((((((σ.set o1 (.cells [.ref o 0])).set o2 (.cells [.lit (.int .i64 0),.lit (.string ⟨#[]⟩),.lit (.string ⟨#[]⟩),.lit (.int .i64 0),.lit (.int .i64 0),.lit (.string ⟨#[]⟩),.lit (.slice none 0 0),.lit (.slice none 0 0),.lit (.slice none 0 0),.lit (.slice none 0 0),.lit (.slice none 0 0),.lit (.slice none 0 0)])).set o3 (.cells [.lit (.int .i64 0),.lit (.string ⟨#[]⟩),.lit (.string ⟨#[]⟩),.lit (.int .i64 0),.lit (.int .i64 0),.lit (.string ⟨#[]⟩),.lit (.slice none 0 0),.lit (.slice none 0 0),.lit (.slice none 0 0),.lit (.slice none 0 0),.lit (.slice none 0 0),.lit (.slice none 0 0)])).set o (rdO a.2)).set o (rdO b.2)).set o (rdO c.2)).set o3 (.cells [vInt a.1,.lit (.string ⟨#[]⟩),.lit (.string ⟨#[]⟩),.lit (.int .i64 0),.lit (.int .i64 0),.lit (.string ⟨#[]⟩),.lit (.slice none 0 0),.lit (.slice none 0 0),.lit (.slice none 0 0),.lit (.slice none 0 0),.lit (.slice none 0 0),.lit (.slice none 0 0)])).set o3 (.cells [vInt a.1,vStr (B b.1),.lit (.string ⟨#[]⟩),.lit (.int .i64 0),.lit (.int .i64 0),.lit (.string ⟨#[]⟩),.lit (.slice none 0 0),.lit (.slice none 0 0),.lit (.slice none 0 0),.lit (.slice none 0 0),.lit (.slice none 0 0),.lit (.slice none 0 0)])).set o3 (.cells [vInt a.1,vStr (B b.1),vStr (B c.1),.lit (.int .i64 0),.lit (.int .i64 0),.lit (.string ⟨#[]⟩),.lit (.slice none 0 0),.lit (.slice none 0 0),.lit (.slice none 0 0),.lit (.slice none 0 0),.lit (.slice none 0 0),.lit (.slice none 0 0)])),?_,?_,?_⟩
     ·rw [← hz];exact ⟨h_,h_,h_,h_,sub_⟩
     ·exact cv_
     ·exact Store.Wk.refl _
    refine dR_T o_ (by rfl) (by rfl) (ao_ v_ ?_)
    refine tx_ o_ g_ va_ (a1_ ha (by simp (disch:=omega) only [Store.set_ne,ho])) ?_;rintro _ _ ⟨rfl,rfl⟩
    refine ds_ ?_
    refine tx_ o_ g_ va_ (aH_ hb (Store.set_get ..)) ?_;rintro _ _ ⟨rfl,rfl⟩
    refine tx_ o_ g_ va_ (aH_ hc (Store.set_get ..)) ?_;rintro _ _ ⟨rfl,rfl⟩
    refine dst_ ?_
    refine ds_ ?_
    refine dst_ ?_
    refine ds_ ?_
    refine dst_ ?_
    refine aG_ ?_
    refine ⟨(((((((((σ.set o1 (.cells [.ref o 0])).set o2 (.cells [.lit (.int .i64 0),.lit (.string ⟨#[]⟩),.lit (.string ⟨#[]⟩),.lit (.int .i64 0),.lit (.int .i64 0),.lit (.string ⟨#[]⟩),.lit (.slice none 0 0),.lit (.slice none 0 0),.lit (.slice none 0 0),.lit (.slice none 0 0),.lit (.slice none 0 0),.lit (.slice none 0 0)])).set o3 (.cells [.lit (.int .i64 0),.lit (.string ⟨#[]⟩),.lit (.string ⟨#[]⟩),.lit (.int .i64 0),.lit (.int .i64 0),.lit (.string ⟨#[]⟩),.lit (.slice none 0 0),.lit (.slice none 0 0),.lit (.slice none 0 0),.lit (.slice none 0 0),.lit (.slice none 0 0),.lit (.slice none 0 0)])).set o (rdO a.2)).set o (rdO b.2)).set o (rdO c.2)).set o3 (.cells [vInt a.1,.lit (.string ⟨#[]⟩),.lit (.string ⟨#[]⟩),.lit (.int .i64 0),.lit (.int .i64 0),.lit (.string ⟨#[]⟩),.lit (.slice none 0 0),.lit (.slice none 0 0),.lit (.slice none 0 0),.lit (.slice none 0 0),.lit (.slice none 0 0),.lit (.slice none 0 0)])).set o3 (.cells [vInt a.1,vStr (B b.1),.lit (.string ⟨#[]⟩),.lit (.int .i64 0),.lit (.int .i64 0),.lit (.string ⟨#[]⟩),.lit (.slice none 0 0),.lit (.slice none 0 0),.lit (.slice none 0 0),.lit (.slice none 0 0),.lit (.slice none 0 0),.lit (.slice none 0 0)])).set o3 (.cells [vInt a.1,vStr (B b.1),vStr (B c.1),.lit (.int .i64 0),.lit (.int .i64 0),.lit (.string ⟨#[]⟩),.lit (.slice none 0 0),.lit (.slice none 0 0),.lit (.slice none 0 0),.lit (.slice none 0 0),.lit (.slice none 0 0),.lit (.slice none 0 0)])),?_,?_,?_⟩
    ·rw [← hz];exact ⟨h_,h_,h_,h_,sub_⟩
    ·exact cv_
    ·exact Store.Wk.refl _
   refine dR_T o_ (by rfl) (by rfl) (ao_ v_ ?_)
   refine a3_ ?_ ?_
   ·refine tx_ o_ g_ va_ (a1_ ha (by simp (disch:=omega) only [Store.set_ne,ho])) ?_;rintro _ _ ⟨rfl,rfl⟩
    refine ds_ ?_
    refine dR_T o_ (by rfl) (by rfl) (ao_ v_ ?_)
    refine tx_ o_ g_ va_ (aH_ hb (Store.set_get ..)) ?_;rintro _ _ ⟨rfl,rfl⟩
    refine tx_ o_ g_ va_ (aH_ hc (Store.set_get ..)) ?_;rintro _ _ ⟨rfl,rfl⟩
    refine dst_ ?_
    refine ds_ ?_
    refine dst_ ?_
    refine ds_ ?_
    refine dst_ ?_
    refine aG_ ?_
    refine ⟨(((((((((σ.set o1 (.cells [.ref o 0])).set o2 (.cells [.lit (.int .i64 0),.lit (.string ⟨#[]⟩),.lit (.string ⟨#[]⟩),.lit (.int .i64 0),.lit (.int .i64 0),.lit (.string ⟨#[]⟩),.lit (.slice none 0 0),.lit (.slice none 0 0),.lit (.slice none 0 0),.lit (.slice none 0 0),.lit (.slice none 0 0),.lit (.slice none 0 0)])).set o3 (.cells [.lit (.int .i64 0),.lit (.string ⟨#[]⟩),.lit (.string ⟨#[]⟩),.lit (.int .i64 0),.lit (.int .i64 0),.lit (.string ⟨#[]⟩),.lit (.slice none 0 0),.lit (.slice none 0 0),.lit (.slice none 0 0),.lit (.slice none 0 0),.lit (.slice none 0 0),.lit (.slice none 0 0)])).set o (rdO a.2)).set o (rdO b.2)).set o (rdO c.2)).set o3 (.cells [vInt a.1,.lit (.string ⟨#[]⟩),.lit (.string ⟨#[]⟩),.lit (.int .i64 0),.lit (.int .i64 0),.lit (.string ⟨#[]⟩),.lit (.slice none 0 0),.lit (.slice none 0 0),.lit (.slice none 0 0),.lit (.slice none 0 0),.lit (.slice none 0 0),.lit (.slice none 0 0)])).set o3 (.cells [vInt a.1,vStr (B b.1),.lit (.string ⟨#[]⟩),.lit (.int .i64 0),.lit (.int .i64 0),.lit (.string ⟨#[]⟩),.lit (.slice none 0 0),.lit (.slice none 0 0),.lit (.slice none 0 0),.lit (.slice none 0 0),.lit (.slice none 0 0),.lit (.slice none 0 0)])).set o3 (.cells [vInt a.1,vStr (B b.1),vStr (B c.1),.lit (.int .i64 0),.lit (.int .i64 0),.lit (.string ⟨#[]⟩),.lit (.slice none 0 0),.lit (.slice none 0 0),.lit (.slice none 0 0),.lit (.slice none 0 0),.lit (.slice none 0 0),.lit (.slice none 0 0)])),?_,?_,?_⟩
    ·rw [← hz];exact ⟨h_,h_,h_,h_,sub_⟩
    ·exact cv_
    ·exact Store.Wk.refl _
   refine dR_T o_ (by rfl) (by rfl) (ao_ v_ ?_)
   refine tx_ o_ g_ va_ (a1_ ha (by simp (disch:=omega) only [Store.set_ne,ho])) ?_;rintro _ _ ⟨rfl,rfl⟩
   refine ds_ ?_
   refine tx_ o_ g_ va_ (aH_ hb (Store.set_get ..)) ?_;rintro _ _ ⟨rfl,rfl⟩
   refine tx_ o_ g_ va_ (aH_ hc (Store.set_get ..)) ?_;rintro _ _ ⟨rfl,rfl⟩
   refine dst_ ?_
   refine ds_ ?_
   refine dst_ ?_
   refine ds_ ?_
   refine dst_ ?_
   refine aG_ ?_
   refine ⟨(((((((((σ.set o1 (.cells [.ref o 0])).set o2 (.cells [.lit (.int .i64 0),.lit (.string ⟨#[]⟩),.lit (.string ⟨#[]⟩),.lit (.int .i64 0),.lit (.int .i64 0),.lit (.string ⟨#[]⟩),.lit (.slice none 0 0),.lit (.slice none 0 0),.lit (.slice none 0 0),.lit (.slice none 0 0),.lit (.slice none 0 0),.lit (.slice none 0 0)])).set o3 (.cells [.lit (.int .i64 0),.lit (.string ⟨#[]⟩),.lit (.string ⟨#[]⟩),.lit (.int .i64 0),.lit (.int .i64 0),.lit (.string ⟨#[]⟩),.lit (.slice none 0 0),.lit (.slice none 0 0),.lit (.slice none 0 0),.lit (.slice none 0 0),.lit (.slice none 0 0),.lit (.slice none 0 0)])).set o (rdO a.2)).set o (rdO b.2)).set o (rdO c.2)).set o3 (.cells [vInt a.1,.lit (.string ⟨#[]⟩),.lit (.string ⟨#[]⟩),.lit (.int .i64 0),.lit (.int .i64 0),.lit (.string ⟨#[]⟩),.lit (.slice none 0 0),.lit (.slice none 0 0),.lit (.slice none 0 0),.lit (.slice none 0 0),.lit (.slice none 0 0),.lit (.slice none 0 0)])).set o3 (.cells [vInt a.1,vStr (B b.1),.lit (.string ⟨#[]⟩),.lit (.int .i64 0),.lit (.int .i64 0),.lit (.string ⟨#[]⟩),.lit (.slice none 0 0),.lit (.slice none 0 0),.lit (.slice none 0 0),.lit (.slice none 0 0),.lit (.slice none 0 0),.lit (.slice none 0 0)])).set o3 (.cells [vInt a.1,vStr (B b.1),vStr (B c.1),.lit (.int .i64 0),.lit (.int .i64 0),.lit (.string ⟨#[]⟩),.lit (.slice none 0 0),.lit (.slice none 0 0),.lit (.slice none 0 0),.lit (.slice none 0 0),.lit (.slice none 0 0),.lit (.slice none 0 0)])),?_,?_,?_⟩
   ·rw [← hz];exact ⟨h_,h_,h_,h_,sub_⟩
   ·exact cv_
   ·exact Store.Wk.refl _
  refine a3_ ?_ ?_
  ·refine dR_T o_ (by rfl) (by rfl) (ao_ v_ ?_)
   refine a3_ ?_ ?_
   ·refine dR_T o_ (by rfl) (by rfl) (ao_ v_ ?_)
    refine a3_ ?_ ?_
    ·refine tx_ o_ g_ va_ (a1_ ha (by simp (disch:=omega) only [Store.set_ne,ho])) ?_;rintro _ _ ⟨rfl,rfl⟩
     refine ds_ ?_
     refine a3_ ?_ ?_
     ·refine tx_ o_ g_ va_ (aH_ hb (Store.set_get ..)) ?_;rintro _ _ ⟨rfl,rfl⟩
      refine dR_T o_ (by rfl) (by rfl) (ao_ v_ ?_)
      refine tx_ o_ g_ va_ (aH_ hc (Store.set_get ..)) ?_;rintro _ _ ⟨rfl,rfl⟩
      refine dst_ ?_
      refine ds_ ?_
      refine dst_ ?_
      refine ds_ ?_
      refine dst_ ?_
      refine aG_ ?_
      refine ⟨(((((((((σ.set o1 (.cells [.ref o 0])).set o2 (.cells [.lit (.int .i64 0),.lit (.string ⟨#[]⟩),.lit (.string ⟨#[]⟩),.lit (.int .i64 0),.lit (.int .i64 0),.lit (.string ⟨#[]⟩),.lit (.slice none 0 0),.lit (.slice none 0 0),.lit (.slice none 0 0),.lit (.slice none 0 0),.lit (.slice none 0 0),.lit (.slice none 0 0)])).set o3 (.cells [.lit (.int .i64 0),.lit (.string ⟨#[]⟩),.lit (.string ⟨#[]⟩),.lit (.int .i64 0),.lit (.int .i64 0),.lit (.string ⟨#[]⟩),.lit (.slice none 0 0),.lit (.slice none 0 0),.lit (.slice none 0 0),.lit (.slice none 0 0),.lit (.slice none 0 0),.lit (.slice none 0 0)])).set o (rdO a.2)).set o (rdO b.2)).set o (rdO c.2)).set o3 (.cells [vInt a.1,.lit (.string ⟨#[]⟩),.lit (.string ⟨#[]⟩),.lit (.int .i64 0),.lit (.int .i64 0),.lit (.string ⟨#[]⟩),.lit (.slice none 0 0),.lit (.slice none 0 0),.lit (.slice none 0 0),.lit (.slice none 0 0),.lit (.slice none 0 0),.lit (.slice none 0 0)])).set o3 (.cells [vInt a.1,vStr (B b.1),.lit (.string ⟨#[]⟩),.lit (.int .i64 0),.lit (.int .i64 0),.lit (.string ⟨#[]⟩),.lit (.slice none 0 0),.lit (.slice none 0 0),.lit (.slice none 0 0),.lit (.slice none 0 0),.lit (.slice none 0 0),.lit (.slice none 0 0)])).set o3 (.cells [vInt a.1,vStr (B b.1),vStr (B c.1),.lit (.int .i64 0),.lit (.int .i64 0),.lit (.string ⟨#[]⟩),.lit (.slice none 0 0),.lit (.slice none 0 0),.lit (.slice none 0 0),.lit (.slice none 0 0),.lit (.slice none 0 0),.lit (.slice none 0 0)])),?_,?_,?_⟩
      ·rw [← hz];exact ⟨h_,h_,h_,h_,sub_⟩
      ·exact cv_
      ·exact Store.Wk.refl _
     refine dR_T o_ (by rfl) (by rfl) (ao_ v_ ?_)
     refine tx_ o_ g_ va_ (aH_ hb (Store.set_get ..)) ?_;rintro _ _ ⟨rfl,rfl⟩
     refine tx_ o_ g_ va_ (aH_ hc (Store.set_get ..)) ?_;rintro _ _ ⟨rfl,rfl⟩
     refine dst_ ?_
     refine ds_ ?_
     refine dst_ ?_
     refine ds_ ?_
     refine dst_ ?_
     refine aG_ ?_
     refine ⟨(((((((((σ.set o1 (.cells [.ref o 0])).set o2 (.cells [.lit (.int .i64 0),.lit (.string ⟨#[]⟩),.lit (.string ⟨#[]⟩),.lit (.int .i64 0),.lit (.int .i64 0),.lit (.string ⟨#[]⟩),.lit (.slice none 0 0),.lit (.slice none 0 0),.lit (.slice none 0 0),.lit (.slice none 0 0),.lit (.slice none 0 0),.lit (.slice none 0 0)])).set o3 (.cells [.lit (.int .i64 0),.lit (.string ⟨#[]⟩),.lit (.string ⟨#[]⟩),.lit (.int .i64 0),.lit (.int .i64 0),.lit (.string ⟨#[]⟩),.lit (.slice none 0 0),.lit (.slice none 0 0),.lit (.slice none 0 0),.lit (.slice none 0 0),.lit (.slice none 0 0),.lit (.slice none 0 0)])).set o (rdO a.2)).set o (rdO b.2)).set o (rdO c.2)).set o3 (.cells [vInt a.1,.lit (.string ⟨#[]⟩),.lit (.string ⟨#[]⟩),.lit (.int .i64 0),.lit (.int .i64 0),.lit (.string ⟨#[]⟩),.lit (.slice none 0 0),.lit (.slice none 0 0),.lit (.slice none 0 0),.lit (.slice none 0 0),.lit (.slice none 0 0),.lit (.slice none 0 0)])).set o3 (.cells [vInt a.1,vStr (B b.1),.lit (.string ⟨#[]⟩),.lit (.int .i64 0),.lit (.int .i64 0),.lit (.string ⟨#[]⟩),.lit (.slice none 0 0),.lit (.slice none 0 0),.lit (.slice none 0 0),.lit (.slice none 0 0),.lit (.slice none 0 0),.lit (.slice none 0 0)])).set o3 (.cells [vInt a.1,vStr (B b.1),vStr (B c.1),.lit (.int .i64 0),.lit (.int .i64 0),.lit (.string ⟨#[]⟩),.lit (.slice none 0 0),.lit (.slice none 0 0),.lit (.slice none 0 0),.lit (.slice none 0 0),.lit (.slice none 0 0),.lit (.slice none 0 0)])),?_,?_,?_⟩
     ·rw [← hz];exact ⟨h_,h_,h_,h_,sub_⟩
     ·exact cv_
     ·exact Store.Wk.refl _
    refine dR_T o_ (by rfl) (by rfl) (ao_ v_ ?_)
    refine tx_ o_ g_ va_ (a1_ ha (by simp (disch:=omega) only [Store.set_ne,ho])) ?_;rintro _ _ ⟨rfl,rfl⟩
    refine ds_ ?_
    refine tx_ o_ g_ va_ (aH_ hb (Store.set_get ..)) ?_;rintro _ _ ⟨rfl,rfl⟩
    refine tx_ o_ g_ va_ (aH_ hc (Store.set_get ..)) ?_;rintro _ _ ⟨rfl,rfl⟩
    refine dst_ ?_
    refine ds_ ?_
    refine dst_ ?_
    refine ds_ ?_
    refine dst_ ?_
    refine aG_ ?_
    refine ⟨(((((((((σ.set o1 (.cells [.ref o 0])).set o2 (.cells [.lit (.int .i64 0),.lit (.string ⟨#[]⟩),.lit (.string ⟨#[]⟩),.lit (.int .i64 0),.lit (.int .i64 0),.lit (.string ⟨#[]⟩),.lit (.slice none 0 0),.lit (.slice none 0 0),.lit (.slice none 0 0),.lit (.slice none 0 0),.lit (.slice none 0 0),.lit (.slice none 0 0)])).set o3 (.cells [.lit (.int .i64 0),.lit (.string ⟨#[]⟩),.lit (.string ⟨#[]⟩),.lit (.int .i64 0),.lit (.int .i64 0),.lit (.string ⟨#[]⟩),.lit (.slice none 0 0),.lit (.slice none 0 0),.lit (.slice none 0 0),.lit (.slice none 0 0),.lit (.slice none 0 0),.lit (.slice none 0 0)])).set o (rdO a.2)).set o (rdO b.2)).set o (rdO c.2)).set o3 (.cells [vInt a.1,.lit (.string ⟨#[]⟩),.lit (.string ⟨#[]⟩),.lit (.int .i64 0),.lit (.int .i64 0),.lit (.string ⟨#[]⟩),.lit (.slice none 0 0),.lit (.slice none 0 0),.lit (.slice none 0 0),.lit (.slice none 0 0),.lit (.slice none 0 0),.lit (.slice none 0 0)])).set o3 (.cells [vInt a.1,vStr (B b.1),.lit (.string ⟨#[]⟩),.lit (.int .i64 0),.lit (.int .i64 0),.lit (.string ⟨#[]⟩),.lit (.slice none 0 0),.lit (.slice none 0 0),.lit (.slice none 0 0),.lit (.slice none 0 0),.lit (.slice none 0 0),.lit (.slice none 0 0)])).set o3 (.cells [vInt a.1,vStr (B b.1),vStr (B c.1),.lit (.int .i64 0),.lit (.int .i64 0),.lit (.string ⟨#[]⟩),.lit (.slice none 0 0),.lit (.slice none 0 0),.lit (.slice none 0 0),.lit (.slice none 0 0),.lit (.slice none 0 0),.lit (.slice none 0 0)])),?_,?_,?_⟩
    ·rw [← hz];exact ⟨h_,h_,h_,h_,sub_⟩
    ·exact cv_
    ·exact Store.Wk.refl _
   refine dR_T o_ (by rfl) (by rfl) (ao_ v_ ?_)
   refine dR_T o_ (by rfl) (by rfl) (ao_ v_ ?_)
   refine tx_ o_ g_ va_ (a1_ ha (by simp (disch:=omega) only [Store.set_ne,ho])) ?_;rintro _ _ ⟨rfl,rfl⟩
   refine ds_ ?_
   refine tx_ o_ g_ va_ (aH_ hb (Store.set_get ..)) ?_;rintro _ _ ⟨rfl,rfl⟩
   refine tx_ o_ g_ va_ (aH_ hc (Store.set_get ..)) ?_;rintro _ _ ⟨rfl,rfl⟩
   refine dst_ ?_
   refine ds_ ?_
   refine dst_ ?_
   refine ds_ ?_
   refine dst_ ?_
   refine aG_ ?_
   refine ⟨(((((((((σ.set o1 (.cells [.ref o 0])).set o2 (.cells [.lit (.int .i64 0),.lit (.string ⟨#[]⟩),.lit (.string ⟨#[]⟩),.lit (.int .i64 0),.lit (.int .i64 0),.lit (.string ⟨#[]⟩),.lit (.slice none 0 0),.lit (.slice none 0 0),.lit (.slice none 0 0),.lit (.slice none 0 0),.lit (.slice none 0 0),.lit (.slice none 0 0)])).set o3 (.cells [.lit (.int .i64 0),.lit (.string ⟨#[]⟩),.lit (.string ⟨#[]⟩),.lit (.int .i64 0),.lit (.int .i64 0),.lit (.string ⟨#[]⟩),.lit (.slice none 0 0),.lit (.slice none 0 0),.lit (.slice none 0 0),.lit (.slice none 0 0),.lit (.slice none 0 0),.lit (.slice none 0 0)])).set o (rdO a.2)).set o (rdO b.2)).set o (rdO c.2)).set o3 (.cells [vInt a.1,.lit (.string ⟨#[]⟩),.lit (.string ⟨#[]⟩),.lit (.int .i64 0),.lit (.int .i64 0),.lit (.string ⟨#[]⟩),.lit (.slice none 0 0),.lit (.slice none 0 0),.lit (.slice none 0 0),.lit (.slice none 0 0),.lit (.slice none 0 0),.lit (.slice none 0 0)])).set o3 (.cells [vInt a.1,vStr (B b.1),.lit (.string ⟨#[]⟩),.lit (.int .i64 0),.lit (.int .i64 0),.lit (.string ⟨#[]⟩),.lit (.slice none 0 0),.lit (.slice none 0 0),.lit (.slice none 0 0),.lit (.slice none 0 0),.lit (.slice none 0 0),.lit (.slice none 0 0)])).set o3 (.cells [vInt a.1,vStr (B b.1),vStr (B c.1),.lit (.int .i64 0),.lit (.int .i64 0),.lit (.string ⟨#[]⟩),.lit (.slice none 0 0),.lit (.slice none 0 0),.lit (.slice none 0 0),.lit (.slice none 0 0),.lit (.slice none 0 0),.lit (.slice none 0 0)])),?_,?_,?_⟩
   ·rw [← hz];exact ⟨h_,h_,h_,h_,sub_⟩
   ·exact cv_
   ·exact Store.Wk.refl _
  refine dR_T o_ (by rfl) (by rfl) (ao_ v_ ?_)
  refine a3_ ?_ ?_
  ·refine dR_T o_ (by rfl) (by rfl) (ao_ v_ ?_)
   refine a3_ ?_ ?_
   ·refine tx_ o_ g_ va_ (a1_ ha (by simp (disch:=omega) only [Store.set_ne,ho])) ?_;rintro _ _ ⟨rfl,rfl⟩
    refine ds_ ?_
    refine dR_T o_ (by rfl) (by rfl) (ao_ v_ ?_)
    refine tx_ o_ g_ va_ (aH_ hb (Store.set_get ..)) ?_;rintro _ _ ⟨rfl,rfl⟩
    refine tx_ o_ g_ va_ (aH_ hc (Store.set_get ..)) ?_;rintro _ _ ⟨rfl,rfl⟩
    refine dst_ ?_
    refine ds_ ?_
    refine dst_ ?_
    refine ds_ ?_
    refine dst_ ?_
    refine aG_ ?_
    refine ⟨(((((((((σ.set o1 (.cells [.ref o 0])).set o2 (.cells [.lit (.int .i64 0),.lit (.string ⟨#[]⟩),.lit (.string ⟨#[]⟩),.lit (.int .i64 0),.lit (.int .i64 0),.lit (.string ⟨#[]⟩),.lit (.slice none 0 0),.lit (.slice none 0 0),.lit (.slice none 0 0),.lit (.slice none 0 0),.lit (.slice none 0 0),.lit (.slice none 0 0)])).set o3 (.cells [.lit (.int .i64 0),.lit (.string ⟨#[]⟩),.lit (.string ⟨#[]⟩),.lit (.int .i64 0),.lit (.int .i64 0),.lit (.string ⟨#[]⟩),.lit (.slice none 0 0),.lit (.slice none 0 0),.lit (.slice none 0 0),.lit (.slice none 0 0),.lit (.slice none 0 0),.lit (.slice none 0 0)])).set o (rdO a.2)).set o (rdO b.2)).set o (rdO c.2)).set o3 (.cells [vInt a.1,.lit (.string ⟨#[]⟩),.lit (.string ⟨#[]⟩),.lit (.int .i64 0),.lit (.int .i64 0),.lit (.string ⟨#[]⟩),.lit (.slice none 0 0),.lit (.slice none 0 0),.lit (.slice none 0 0),.lit (.slice none 0 0),.lit (.slice none 0 0),.lit (.slice none 0 0)])).set o3 (.cells [vInt a.1,vStr (B b.1),.lit (.string ⟨#[]⟩),.lit (.int .i64 0),.lit (.int .i64 0),.lit (.string ⟨#[]⟩),.lit (.slice none 0 0),.lit (.slice none 0 0),.lit (.slice none 0 0),.lit (.slice none 0 0),.lit (.slice none 0 0),.lit (.slice none 0 0)])).set o3 (.cells [vInt a.1,vStr (B b.1),vStr (B c.1),.lit (.int .i64 0),.lit (.int .i64 0),.lit (.string ⟨#[]⟩),.lit (.slice none 0 0),.lit (.slice none 0 0),.lit (.slice none 0 0),.lit (.slice none 0 0),.lit (.slice none 0 0),.lit (.slice none 0 0)])),?_,?_,?_⟩
    ·rw [← hz];exact ⟨h_,h_,h_,h_,sub_⟩
    ·exact cv_
    ·exact Store.Wk.refl _
   refine dR_T o_ (by rfl) (by rfl) (ao_ v_ ?_)
   refine tx_ o_ g_ va_ (a1_ ha (by simp (disch:=omega) only [Store.set_ne,ho])) ?_;rintro _ _ ⟨rfl,rfl⟩
   refine ds_ ?_
   refine tx_ o_ g_ va_ (aH_ hb (Store.set_get ..)) ?_;rintro _ _ ⟨rfl,rfl⟩
   refine tx_ o_ g_ va_ (aH_ hc (Store.set_get ..)) ?_;rintro _ _ ⟨rfl,rfl⟩
   refine dst_ ?_
   refine ds_ ?_
   refine dst_ ?_
   refine ds_ ?_
   refine dst_ ?_
   refine aG_ ?_
   refine ⟨(((((((((σ.set o1 (.cells [.ref o 0])).set o2 (.cells [.lit (.int .i64 0),.lit (.string ⟨#[]⟩),.lit (.string ⟨#[]⟩),.lit (.int .i64 0),.lit (.int .i64 0),.lit (.string ⟨#[]⟩),.lit (.slice none 0 0),.lit (.slice none 0 0),.lit (.slice none 0 0),.lit (.slice none 0 0),.lit (.slice none 0 0),.lit (.slice none 0 0)])).set o3 (.cells [.lit (.int .i64 0),.lit (.string ⟨#[]⟩),.lit (.string ⟨#[]⟩),.lit (.int .i64 0),.lit (.int .i64 0),.lit (.string ⟨#[]⟩),.lit (.slice none 0 0),.lit (.slice none 0 0),.lit (.slice none 0 0),.lit (.slice none 0 0),.lit (.slice none 0 0),.lit (.slice none 0 0)])).set o (rdO a.2)).set o (rdO b.2)).set o (rdO c.2)).set o3 (.cells [vInt a.1,.lit (.string ⟨#[]⟩),.lit (.string ⟨#[]⟩),.lit (.int .i64 0),.lit (.int .i64 0),.lit (.string ⟨#[]⟩),.lit (.slice none 0 0),.lit (.slice none 0 0),.lit (.slice none 0 0),.lit (.slice none 0 0),.lit (.slice none 0 0),.lit (.slice none 0 0)])).set o3 (.cells [vInt a.1,vStr (B b.1),.lit (.string ⟨#[]⟩),.lit (.int .i64 0),.lit (.int .i64 0),.lit (.string ⟨#[]⟩),.lit (.slice none 0 0),.lit (.slice none 0 0),.lit (.slice none 0 0),.lit (.slice none 0 0),.lit (.slice none 0 0),.lit (.slice none 0 0)])).set o3 (.cells [vInt a.1,vStr (B b.1),vStr (B c.1),.lit (.int .i64 0),.lit (.int .i64 0),.lit (.string ⟨#[]⟩),.lit (.slice none 0 0),.lit (.slice none 0 0),.lit (.slice none 0 0),.lit (.slice none 0 0),.lit (.slice none 0 0),.lit (.slice none 0 0)])),?_,?_,?_⟩
   ·rw [← hz];exact ⟨h_,h_,h_,h_,sub_⟩
   ·exact cv_
   ·exact Store.Wk.refl _
  refine dR_T o_ (by rfl) (by rfl) (ao_ v_ ?_)
  refine dR_T o_ (by rfl) (by rfl) (ao_ v_ ?_)
  refine tx_ o_ g_ va_ (a1_ ha (by simp (disch:=omega) only [Store.set_ne,ho])) ?_;rintro _ _ ⟨rfl,rfl⟩
  refine ds_ ?_
  refine tx_ o_ g_ va_ (aH_ hb (Store.set_get ..)) ?_;rintro _ _ ⟨rfl,rfl⟩
  refine tx_ o_ g_ va_ (aH_ hc (Store.set_get ..)) ?_;rintro _ _ ⟨rfl,rfl⟩
  refine dst_ ?_
  refine ds_ ?_
  refine dst_ ?_
  refine ds_ ?_
  refine dst_ ?_
  refine aG_ ?_
  refine ⟨(((((((((σ.set o1 (.cells [.ref o 0])).set o2 (.cells [.lit (.int .i64 0),.lit (.string ⟨#[]⟩),.lit (.string ⟨#[]⟩),.lit (.int .i64 0),.lit (.int .i64 0),.lit (.string ⟨#[]⟩),.lit (.slice none 0 0),.lit (.slice none 0 0),.lit (.slice none 0 0),.lit (.slice none 0 0),.lit (.slice none 0 0),.lit (.slice none 0 0)])).set o3 (.cells [.lit (.int .i64 0),.lit (.string ⟨#[]⟩),.lit (.string ⟨#[]⟩),.lit (.int .i64 0),.lit (.int .i64 0),.lit (.string ⟨#[]⟩),.lit (.slice none 0 0),.lit (.slice none 0 0),.lit (.slice none 0 0),.lit (.slice none 0 0),.lit (.slice none 0 0),.lit (.slice none 0 0)])).set o (rdO a.2)).set o (rdO b.2)).set o (rdO c.2)).set o3 (.cells [vInt a.1,.lit (.string ⟨#[]⟩),.lit (.string ⟨#[]⟩),.lit (.int .i64 0),.lit (.int .i64 0),.lit (.string ⟨#[]⟩),.lit (.slice none 0 0),.lit (.slice none 0 0),.lit (.slice none 0 0),.lit (.slice none 0 0),.lit (.slice none 0 0),.lit (.slice none 0 0)])).set o3 (.cells [vInt a.1,vStr (B b.1),.lit (.string ⟨#[]⟩),.lit (.int .i64 0),.lit (.int .i64 0),.lit (.string ⟨#[]⟩),.lit (.slice none 0 0),.lit (.slice none 0 0),.lit (.slice none 0 0),.lit (.slice none 0 0),.lit (.slice none 0 0),.lit (.slice none 0 0)])).set o3 (.cells [vInt a.1,vStr (B b.1),vStr (B c.1),.lit (.int .i64 0),.lit (.int .i64 0),.lit (.string ⟨#[]⟩),.lit (.slice none 0 0),.lit (.slice none 0 0),.lit (.slice none 0 0),.lit (.slice none 0 0),.lit (.slice none 0 0),.lit (.slice none 0 0)])),?_,?_,?_⟩
  ·rw [← hz];exact ⟨h_,h_,h_,h_,sub_⟩
  ·exact cv_
  ·exact Store.Wk.refl _
 ·rintro υ ⟨u1,u2,u3,u4,u5⟩
  simp only [ar_,av_]
  refine bw_ (ι:=Store) (fun φ=>φ.heap o=some (rdO f.2)∧φ.heap o1=some (.cells [.ref o 0])∧φ.heap o2=some z∧φ.heap o3=some (.cells [vInt a.1,vStr (B b.1),vStr (B c.1),vInt d.1,vInt e.1,vStr (B f.1),.lit (.slice none 0 0),.lit (.slice none 0 0),.lit (.slice none 0 0),.lit (.slice none 0 0),.lit (.slice none 0 0),.lit (.slice none 0 0)])∧SubX [o] σ φ) (fun φ=>[(1,.ref o1 0),(2,.ref o2 0),(3,.ref o3 0)]) (fun φ=>φ) ?_ ?_
  ·have R:=And.intro u2 u4
   refine aL_ (.alt 0 2 (.alt 1 2 (.op 6 0 (.alt 2 2 (.alt 3 2 (.op 4 2 (.op 5 2 (.op 7 2 (.op 8 0 (.op 9 2 (.op 10 0 (.op 11 2 .nil))))))) (.op 4 2 (.op 3 2 (.op 5 2 (.op 7 2 (.op 8 0 (.op 9 2 (.op 10 0 (.op 11 2 .nil))))))))) (.op 4 2 (.op 2 2 (.op 3 2 (.op 5 2 (.op 7 2 (.op 8 0 (.op 9 2 (.op 10 0 (.op 11 2 .nil))))))))))) (.alt 2 2 (.alt 1 2 (.op 6 0 (.alt 3 2 (.op 4 2 (.op 5 2 (.op 7 2 (.op 8 0 (.op 9 2 (.op 10 0 (.op 11 2 .nil))))))) (.op 4 2 (.op 3 2 (.op 5 2 (.op 7 2 (.op 8 0 (.op 9 2 (.op 10 0 (.op 11 2 .nil)))))))))) (.op 4 2 (.op 1 2 (.op 6 0 (.op 3 2 (.op 5 2 (.op 7 2 (.op 8 0 (.op 9 2 (.op 10 0 (.op 11 2 .nil))))))))))) (.op 4 2 (.alt 1 2 (.op 6 0 (.op 2 2 (.op 3 2 (.op 5 2 (.op 7 2 (.op 8 0 (.op 9 2 (.op 10 0 (.op 11 2 .nil))))))))) (.op 2 2 (.op 1 2 (.op 6 0 (.op 3 2 (.op 5 2 (.op 7 2 (.op 8 0 (.op 9 2 (.op 10 0 (.op 11 2 .nil)))))))))))))) (.alt 2 2 (.alt 0 2 (.alt 1 2 (.op 6 0 (.alt 3 2 (.op 4 2 (.op 5 2 (.op 7 2 (.op 8 0 (.op 9 2 (.op 10 0 (.op 11 2 .nil))))))) (.op 4 2 (.op 3 2 (.op 5 2 (.op 7 2 (.op 8 0 (.op 9 2 (.op 10 0 (.op 11 2 .nil)))))))))) (.op 4 2 (.op 1 2 (.op 6 0 (.op 3 2 (.op 5 2 (.op 7 2 (.op 8 0 (.op 9 2 (.op 10 0 (.op 11 2 .nil))))))))))) (.op 4 2 (.op 0 2 (.op 1 2 (.op 6 0 (.op 3 2 (.op 5 2 (.op 7 2 (.op 8 0 (.op 9 2 (.op 10 0 (.op 11 2 .nil)))))))))))) (.op 4 2 (.alt 0 2 (.alt 1 2 (.op 6 0 (.op 2 2 (.op 3 2 (.op 5 2 (.op 7 2 (.op 8 0 (.op 9 2 (.op 10 0 (.op 11 2 .nil))))))))) (.op 2 2 (.op 1 2 (.op 6 0 (.op 3 2 (.op 5 2 (.op 7 2 (.op 8 0 (.op 9 2 (.op 10 0 (.op 11 2 .nil))))))))))) (.op 2 2 (.op 0 2 (.op 1 2 (.op 6 0 (.op 3 2 (.op 5 2 (.op 7 2 (.op 8 0 (.op 9 2 (.op 10 0 (.op 11 2 .nil))))))))))))))) Tryz.mixed kr_ ?_
   refine a3_ ?_ ?_
   ·refine dR_T o_ (by rfl) (by rfl) (ao_ v_ ?_)
    refine a3_ ?_ ?_
    ·refine tx_ o_ g_ va_ (cW_ hd (by simp (disch:=omega) only [Store.set_ne,u1])) ?_;rintro _ _ ⟨rfl,rfl⟩
     refine ds_ ?_
     refine a3_ ?_ ?_
     ·refine dR_T o_ (by rfl) (by rfl) (ao_ v_ ?_)
      refine a3_ ?_ ?_
      ·refine tx_ o_ g_ va_ (a1_ he (Store.set_get ..)) ?_;rintro _ _ ⟨rfl,rfl⟩
       refine dR_T o_ (by rfl) (by rfl) (ao_ v_ ?_)
       refine tx_ o_ g_ va_ (aH_ hf (Store.set_get ..)) ?_;rintro _ _ ⟨rfl,rfl⟩
       refine dst_ ?_
       refine ds_ ?_
       refine dst_ ?_
       refine ds_ ?_
       refine dst_ ?_
       refine aG_ ?_
       refine ⟨((((((υ.set o (rdO d.2)).set o (rdO e.2)).set o (rdO f.2)).set o3 (.cells [vInt a.1,vStr (B b.1),vStr (B c.1),vInt d.1,.lit (.int .i64 0),.lit (.string ⟨#[]⟩),.lit (.slice none 0 0),.lit (.slice none 0 0),.lit (.slice none 0 0),.lit (.slice none 0 0),.lit (.slice none 0 0),.lit (.slice none 0 0)])).set o3 (.cells [vInt a.1,vStr (B b.1),vStr (B c.1),vInt d.1,vInt e.1,.lit (.string ⟨#[]⟩),.lit (.slice none 0 0),.lit (.slice none 0 0),.lit (.slice none 0 0),.lit (.slice none 0 0),.lit (.slice none 0 0),.lit (.slice none 0 0)])).set o3 (.cells [vInt a.1,vStr (B b.1),vStr (B c.1),vInt d.1,vInt e.1,vStr (B f.1),.lit (.slice none 0 0),.lit (.slice none 0 0),.lit (.slice none 0 0),.lit (.slice none 0 0),.lit (.slice none 0 0),.lit (.slice none 0 0)])),?_,?_,?_⟩
       ·exact ⟨by simp (disch:=omega) only [Store.set_ne,Store.set_get],by simp (disch:=omega) only [Store.set_ne,u2],by simp (disch:=omega) only [Store.set_ne,u3],h_,ai_ ho3 (ai_ ho3 (ai_ ho3 (az_ (.head _) (az_ (.head _) (az_ (.head _) u5)))))⟩
       ·exact cv_
       ·exact Store.Wk.refl _
      refine dR_T o_ (by rfl) (by rfl) (ao_ v_ ?_)
      refine tx_ o_ g_ va_ (a1_ he (Store.set_get ..)) ?_;rintro _ _ ⟨rfl,rfl⟩
      refine tx_ o_ g_ va_ (aH_ hf (Store.set_get ..)) ?_;rintro _ _ ⟨rfl,rfl⟩
      refine dst_ ?_
      refine ds_ ?_
      refine dst_ ?_
      refine ds_ ?_
      refine dst_ ?_
      refine aG_ ?_
      refine ⟨((((((υ.set o (rdO d.2)).set o (rdO e.2)).set o (rdO f.2)).set o3 (.cells [vInt a.1,vStr (B b.1),vStr (B c.1),vInt d.1,.lit (.int .i64 0),.lit (.string ⟨#[]⟩),.lit (.slice none 0 0),.lit (.slice none 0 0),.lit (.slice none 0 0),.lit (.slice none 0 0),.lit (.slice none 0 0),.lit (.slice none 0 0)])).set o3 (.cells [vInt a.1,vStr (B b.1),vStr (B c.1),vInt d.1,vInt e.1,.lit (.string ⟨#[]⟩),.lit (.slice none 0 0),.lit (.slice none 0 0),.lit (.slice none 0 0),.lit (.slice none 0 0),.lit (.slice none 0 0),.lit (.slice none 0 0)])).set o3 (.cells [vInt a.1,vStr (B b.1),vStr (B c.1),vInt d.1,vInt e.1,vStr (B f.1),.lit (.slice none 0 0),.lit (.slice none 0 0),.lit (.slice none 0 0),.lit (.slice none 0 0),.lit (.slice none 0 0),.lit (.slice none 0 0)])),?_,?_,?_⟩
      ·exact ⟨by simp (disch:=omega) only [Store.set_ne,Store.set_get],by simp (disch:=omega) only [Store.set_ne,u2],by simp (disch:=omega) only [Store.set_ne,u3],h_,ai_ ho3 (ai_ ho3 (ai_ ho3 (az_ (.head _) (az_ (.head _) (az_ (.head _) u5)))))⟩
      ·exact cv_
      ·exact Store.Wk.refl _
     refine dR_T o_ (by rfl) (by rfl) (ao_ v_ ?_)
     refine dR_T o_ (by rfl) (by rfl) (ao_ v_ ?_)
     refine tx_ o_ g_ va_ (a1_ he (Store.set_get ..)) ?_;rintro _ _ ⟨rfl,rfl⟩
     refine tx_ o_ g_ va_ (aH_ hf (Store.set_get ..)) ?_;rintro _ _ ⟨rfl,rfl⟩
     refine dst_ ?_
     refine ds_ ?_
     refine dst_ ?_
     refine ds_ ?_
     refine dst_ ?_
     refine aG_ ?_
     refine ⟨((((((υ.set o (rdO d.2)).set o (rdO e.2)).set o (rdO f.2)).set o3 (.cells [vInt a.1,vStr (B b.1),vStr (B c.1),vInt d.1,.lit (.int .i64 0),.lit (.string ⟨#[]⟩),.lit (.slice none 0 0),.lit (.slice none 0 0),.lit (.slice none 0 0),.lit (.slice none 0 0),.lit (.slice none 0 0),.lit (.slice none 0 0)])).set o3 (.cells [vInt a.1,vStr (B b.1),vStr (B c.1),vInt d.1,vInt e.1,.lit (.string ⟨#[]⟩),.lit (.slice none 0 0),.lit (.slice none 0 0),.lit (.slice none 0 0),.lit (.slice none 0 0),.lit (.slice none 0 0),.lit (.slice none 0 0)])).set o3 (.cells [vInt a.1,vStr (B b.1),vStr (B c.1),vInt d.1,vInt e.1,vStr (B f.1),.lit (.slice none 0 0),.lit (.slice none 0 0),.lit (.slice none 0 0),.lit (.slice none 0 0),.lit (.slice none 0 0),.lit (.slice none 0 0)])),?_,?_,?_⟩
     ·exact ⟨by simp (disch:=omega) only [Store.set_ne,Store.set_get],by simp (disch:=omega) only [Store.set_ne,u2],by simp (disch:=omega) only [Store.set_ne,u3],h_,ai_ ho3 (ai_ ho3 (ai_ ho3 (az_ (.head _) (az_ (.head _) (az_ (.head _) u5)))))⟩
     ·exact cv_
     ·exact Store.Wk.refl _
    refine a3_ ?_ ?_
    ·refine dR_T o_ (by rfl) (by rfl) (ao_ v_ ?_)
     refine a3_ ?_ ?_
     ·refine tx_ o_ g_ va_ (cW_ hd (by simp (disch:=omega) only [Store.set_ne,u1])) ?_;rintro _ _ ⟨rfl,rfl⟩
      refine ds_ ?_
      refine a3_ ?_ ?_
      ·refine tx_ o_ g_ va_ (a1_ he (Store.set_get ..)) ?_;rintro _ _ ⟨rfl,rfl⟩
       refine dR_T o_ (by rfl) (by rfl) (ao_ v_ ?_)
       refine tx_ o_ g_ va_ (aH_ hf (Store.set_get ..)) ?_;rintro _ _ ⟨rfl,rfl⟩
       refine dst_ ?_
       refine ds_ ?_
       refine dst_ ?_
       refine ds_ ?_
       refine dst_ ?_
       refine aG_ ?_
       refine ⟨((((((υ.set o (rdO d.2)).set o (rdO e.2)).set o (rdO f.2)).set o3 (.cells [vInt a.1,vStr (B b.1),vStr (B c.1),vInt d.1,.lit (.int .i64 0),.lit (.string ⟨#[]⟩),.lit (.slice none 0 0),.lit (.slice none 0 0),.lit (.slice none 0 0),.lit (.slice none 0 0),.lit (.slice none 0 0),.lit (.slice none 0 0)])).set o3 (.cells [vInt a.1,vStr (B b.1),vStr (B c.1),vInt d.1,vInt e.1,.lit (.string ⟨#[]⟩),.lit (.slice none 0 0),.lit (.slice none 0 0),.lit (.slice none 0 0),.lit (.slice none 0 0),.lit (.slice none 0 0),.lit (.slice none 0 0)])).set o3 (.cells [vInt a.1,vStr (B b.1),vStr (B c.1),vInt d.1,vInt e.1,vStr (B f.1),.lit (.slice none 0 0),.lit (.slice none 0 0),.lit (.slice none 0 0),.lit (.slice none 0 0),.lit (.slice none 0 0),.lit (.slice none 0 0)])),?_,?_,?_⟩
       ·exact ⟨by simp (disch:=omega) only [Store.set_ne,Store.set_get],by simp (disch:=omega) only [Store.set_ne,u2],by simp (disch:=omega) only [Store.set_ne,u3],h_,ai_ ho3 (ai_ ho3 (ai_ ho3 (az_ (.head _) (az_ (.head _) (az_ (.head _) u5)))))⟩
       ·exact cv_
       ·exact Store.Wk.refl _
      refine dR_T o_ (by rfl) (by rfl) (ao_ v_ ?_)
      refine tx_ o_ g_ va_ (a1_ he (Store.set_get ..)) ?_;rintro _ _ ⟨rfl,rfl⟩
      refine tx_ o_ g_ va_ (aH_ hf (Store.set_get ..)) ?_;rintro _ _ ⟨rfl,rfl⟩
      refine dst_ ?_
      refine ds_ ?_
      refine dst_ ?_
      refine ds_ ?_
      refine dst_ ?_
      refine aG_ ?_
      refine ⟨((((((υ.set o (rdO d.2)).set o (rdO e.2)).set o (rdO f.2)).set o3 (.cells [vInt a.1,vStr (B b.1),vStr (B c.1),vInt d.1,.lit (.int .i64 0),.lit (.string ⟨#[]⟩),.lit (.slice none 0 0),.lit (.slice none 0 0),.lit (.slice none 0 0),.lit (.slice none 0 0),.lit (.slice none 0 0),.lit (.slice none 0 0)])).set o3 (.cells [vInt a.1,vStr (B b.1),vStr (B c.1),vInt d.1,vInt e.1,.lit (.string ⟨#[]⟩),.lit (.slice none 0 0),.lit (.slice none 0 0),.lit (.slice none 0 0),.lit (.slice none 0 0),.lit (.slice none 0 0),.lit (.slice none 0 0)])).set o3 (.cells [vInt a.1,vStr (B b.1),vStr (B c.1),vInt d.1,vInt e.1,vStr (B f.1),.lit (.slice none 0 0),.lit (.slice none 0 0),.lit (.slice none 0 0),.lit (.slice none 0 0),.lit (.slice none 0 0),.lit (.slice none 0 0)])),?_,?_,?_⟩
      ·exact ⟨by simp (disch:=omega) only [Store.set_ne,Store.set_get],by simp (disch:=omega) only [Store.set_ne,u2],by simp (disch:=omega) only [Store.set_ne,u3],h_,ai_ ho3 (ai_ ho3 (ai_ ho3 (az_ (.head _) (az_ (.head _) (az_ (.head _) u5)))))⟩
      ·exact cv_
      ·exact Store.Wk.refl _
     refine dR_T o_ (by rfl) (by rfl) (ao_ v_ ?_)
     refine tx_ o_ g_ va_ (cW_ hd (by simp (disch:=omega) only [Store.set_ne,u1])) ?_;rintro _ _ ⟨rfl,rfl⟩
     refine ds_ ?_
     refine tx_ o_ g_ va_ (a1_ he (Store.set_get ..)) ?_;rintro _ _ ⟨rfl,rfl⟩
     refine tx_ o_ g_ va_ (aH_ hf (Store.set_get ..)) ?_;rintro _ _ ⟨rfl,rfl⟩
     refine dst_ ?_
     refine ds_ ?_
     refine dst_ ?_
     refine ds_ ?_
     refine dst_ ?_
     refine aG_ ?_
     refine ⟨((((((υ.set o (rdO d.2)).set o (rdO e.2)).set o (rdO f.2)).set o3 (.cells [vInt a.1,vStr (B b.1),vStr (B c.1),vInt d.1,.lit (.int .i64 0),.lit (.string ⟨#[]⟩),.lit (.slice none 0 0),.lit (.slice none 0 0),.lit (.slice none 0 0),.lit (.slice none 0 0),.lit (.slice none 0 0),.lit (.slice none 0 0)])).set o3 (.cells [vInt a.1,vStr (B b.1),vStr (B c.1),vInt d.1,vInt e.1,.lit (.string ⟨#[]⟩),.lit (.slice none 0 0),.lit (.slice none 0 0),.lit (.slice none 0 0),.lit (.slice none 0 0),.lit (.slice none 0 0),.lit (.slice none 0 0)])).set o3 (.cells [vInt a.1,vStr (B b.1),vStr (B c.1),vInt d.1,vInt e.1,vStr (B f.1),.lit (.slice none 0 0),.lit (.slice none 0 0),.lit (.slice none 0 0),.lit (.slice none 0 0),.lit (.slice none 0 0),.lit (.slice none 0 0)])),?_,?_,?_⟩
     ·exact ⟨by simp (disch:=omega) only [Store.set_ne,Store.set_get],by simp (disch:=omega) only [Store.set_ne,u2],by simp (disch:=omega) only [Store.set_ne,u3],h_,ai_ ho3 (ai_ ho3 (ai_ ho3 (az_ (.head _) (az_ (.head _) (az_ (.head _) u5)))))⟩
     ·exact cv_
     ·exact Store.Wk.refl _
    refine dR_T o_ (by rfl) (by rfl) (ao_ v_ ?_)
    refine a3_ ?_ ?_
    ·refine tx_ o_ g_ va_ (cW_ hd (by simp (disch:=omega) only [Store.set_ne,u1])) ?_;rintro _ _ ⟨rfl,rfl⟩
     refine ds_ ?_
     refine dR_T o_ (by rfl) (by rfl) (ao_ v_ ?_)
     refine tx_ o_ g_ va_ (a1_ he (Store.set_get ..)) ?_;rintro _ _ ⟨rfl,rfl⟩
     refine tx_ o_ g_ va_ (aH_ hf (Store.set_get ..)) ?_;rintro _ _ ⟨rfl,rfl⟩
     refine dst_ ?_
     refine ds_ ?_
     refine dst_ ?_
     refine ds_ ?_
     refine dst_ ?_
     refine aG_ ?_
     refine ⟨((((((υ.set o (rdO d.2)).set o (rdO e.2)).set o (rdO f.2)).set o3 (.cells [vInt a.1,vStr (B b.1),vStr (B c.1),vInt d.1,.lit (.int .i64 0),.lit (.string ⟨#[]⟩),.lit (.slice none 0 0),.lit (.slice none 0 0),.lit (.slice none 0 0),.lit (.slice none 0 0),.lit (.slice none 0 0),.lit (.slice none 0 0)])).set o3 (.cells [vInt a.1,vStr (B b.1),vStr (B c.1),vInt d.1,vInt e.1,.lit (.string ⟨#[]⟩),.lit (.slice none 0 0),.lit (.slice none 0 0),.lit (.slice none 0 0),.lit (.slice none 0 0),.lit (.slice none 0 0),.lit (.slice none 0 0)])).set o3 (.cells [vInt a.1,vStr (B b.1),vStr (B c.1),vInt d.1,vInt e.1,vStr (B f.1),.lit (.slice none 0 0),.lit (.slice none 0 0),.lit (.slice none 0 0),.lit (.slice none 0 0),.lit (.slice none 0 0),.lit (.slice none 0 0)])),?_,?_,?_⟩
     ·exact ⟨by simp (disch:=omega) only [Store.set_ne,Store.set_get],by simp (disch:=omega) only [Store.set_ne,u2],by simp (disch:=omega) only [Store.set_ne,u3],h_,ai_ ho3 (ai_ ho3 (ai_ ho3 (az_ (.head _) (az_ (.head _) (az_ (.head _) u5)))))⟩
     ·exact cv_
     ·exact Store.Wk.refl _
    refine dR_T o_ (by rfl) (by rfl) (ao_ v_ ?_)
    refine tx_ o_ g_ va_ (cW_ hd (by simp (disch:=omega) only [Store.set_ne,u1])) ?_;rintro _ _ ⟨rfl,rfl⟩
    refine ds_ ?_
    refine tx_ o_ g_ va_ (a1_ he (Store.set_get ..)) ?_;rintro _ _ ⟨rfl,rfl⟩
    refine tx_ o_ g_ va_ (aH_ hf (Store.set_get ..)) ?_;rintro _ _ ⟨rfl,rfl⟩
    refine dst_ ?_
    refine ds_ ?_
    refine dst_ ?_
    refine ds_ ?_
    refine dst_ ?_
    refine aG_ ?_
    refine ⟨((((((υ.set o (rdO d.2)).set o (rdO e.2)).set o (rdO f.2)).set o3 (.cells [vInt a.1,vStr (B b.1),vStr (B c.1),vInt d.1,.lit (.int .i64 0),.lit (.string ⟨#[]⟩),.lit (.slice none 0 0),.lit (.slice none 0 0),.lit (.slice none 0 0),.lit (.slice none 0 0),.lit (.slice none 0 0),.lit (.slice none 0 0)])).set o3 (.cells [vInt a.1,vStr (B b.1),vStr (B c.1),vInt d.1,vInt e.1,.lit (.string ⟨#[]⟩),.lit (.slice none 0 0),.lit (.slice none 0 0),.lit (.slice none 0 0),.lit (.slice none 0 0),.lit (.slice none 0 0),.lit (.slice none 0 0)])).set o3 (.cells [vInt a.1,vStr (B b.1),vStr (B c.1),vInt d.1,vInt e.1,vStr (B f.1),.lit (.slice none 0 0),.lit (.slice none 0 0),.lit (.slice none 0 0),.lit (.slice none 0 0),.lit (.slice none 0 0),.lit (.slice none 0 0)])),?_,?_,?_⟩
    ·exact ⟨by simp (disch:=omega) only [Store.set_ne,Store.set_get],by simp (disch:=omega) only [Store.set_ne,u2],by simp (disch:=omega) only [Store.set_ne,u3],h_,ai_ ho3 (ai_ ho3 (ai_ ho3 (az_ (.head _) (az_ (.head _) (az_ (.head _) u5)))))⟩
    ·exact cv_
    ·exact Store.Wk.refl _
   refine a3_ ?_ ?_
   ·refine dR_T o_ (by rfl) (by rfl) (ao_ v_ ?_)
    refine a3_ ?_ ?_
    ·refine dR_T o_ (by rfl) (by rfl) (ao_ v_ ?_)
     refine a3_ ?_ ?_
     ·refine tx_ o_ g_ va_ (cW_ hd (by simp (disch:=omega) only [Store.set_ne,u1])) ?_;rintro _ _ ⟨rfl,rfl⟩
      refine ds_ ?_
      refine a3_ ?_ ?_
      ·refine tx_ o_ g_ va_ (a1_ he (Store.set_get ..)) ?_;rintro _ _ ⟨rfl,rfl⟩
       refine dR_T o_ (by rfl) (by rfl) (ao_ v_ ?_)
       refine tx_ o_ g_ va_ (aH_ hf (Store.set_get ..)) ?_;rintro _ _ ⟨rfl,rfl⟩
       refine dst_ ?_
       refine ds_ ?_
       refine dst_ ?_
       refine ds_ ?_
       refine dst_ ?_
       refine aG_ ?_
       refine ⟨((((((υ.set o (rdO d.2)).set o (rdO e.2)).set o (rdO f.2)).set o3 (.cells [vInt a.1,vStr (B b.1),vStr (B c.1),vInt d.1,.lit (.int .i64 0),.lit (.string ⟨#[]⟩),.lit (.slice none 0 0),.lit (.slice none 0 0),.lit (.slice none 0 0),.lit (.slice none 0 0),.lit (.slice none 0 0),.lit (.slice none 0 0)])).set o3 (.cells [vInt a.1,vStr (B b.1),vStr (B c.1),vInt d.1,vInt e.1,.lit (.string ⟨#[]⟩),.lit (.slice none 0 0),.lit (.slice none 0 0),.lit (.slice none 0 0),.lit (.slice none 0 0),.lit (.slice none 0 0),.lit (.slice none 0 0)])).set o3 (.cells [vInt a.1,vStr (B b.1),vStr (B c.1),vInt d.1,vInt e.1,vStr (B f.1),.lit (.slice none 0 0),.lit (.slice none 0 0),.lit (.slice none 0 0),.lit (.slice none 0 0),.lit (.slice none 0 0),.lit (.slice none 0 0)])),?_,?_,?_⟩
       ·exact ⟨by simp (disch:=omega) only [Store.set_ne,Store.set_get],by simp (disch:=omega) only [Store.set_ne,u2],by simp (disch:=omega) only [Store.set_ne,u3],h_,ai_ ho3 (ai_ ho3 (ai_ ho3 (az_ (.head _) (az_ (.head _) (az_ (.head _) u5)))))⟩
       ·exact cv_
       ·exact Store.Wk.refl _
      refine dR_T o_ (by rfl) (by rfl) (ao_ v_ ?_)
      refine tx_ o_ g_ va_ (a1_ he (Store.set_get ..)) ?_;rintro _ _ ⟨rfl,rfl⟩
      refine tx_ o_ g_ va_ (aH_ hf (Store.set_get ..)) ?_;rintro _ _ ⟨rfl,rfl⟩
      refine dst_ ?_
      refine ds_ ?_
      refine dst_ ?_
      refine ds_ ?_
      refine dst_ ?_
      refine aG_ ?_
      refine ⟨((((((υ.set o (rdO d.2)).set o (rdO e.2)).set o (rdO f.2)).set o3 (.cells [vInt a.1,vStr (B b.1),vStr (B c.1),vInt d.1,.lit (.int .i64 0),.lit (.string ⟨#[]⟩),.lit (.slice none 0 0),.lit (.slice none 0 0),.lit (.slice none 0 0),.lit (.slice none 0 0),.lit (.slice none 0 0),.lit (.slice none 0 0)])).set o3 (.cells [vInt a.1,vStr (B b.1),vStr (B c.1),vInt d.1,vInt e.1,.lit (.string ⟨#[]⟩),.lit (.slice none 0 0),.lit (.slice none 0 0),.lit (.slice none 0 0),.lit (.slice none 0 0),.lit (.slice none 0 0),.lit (.slice none 0 0)])).set o3 (.cells [vInt a.1,vStr (B b.1),vStr (B c.1),vInt d.1,vInt e.1,vStr (B f.1),.lit (.slice none 0 0),.lit (.slice none 0 0),.lit (.slice none 0 0),.lit (.slice none 0 0),.lit (.slice none 0 0),.lit (.slice none 0 0)])),?_,?_,?_⟩
      ·exact ⟨by simp (disch:=omega) only [Store.set_ne,Store.set_get],by simp (disch:=omega) only [Store.set_ne,u2],by simp (disch:=omega) only [Store.set_ne,u3],h_,ai_ ho3 (ai_ ho3 (ai_ ho3 (az_ (.head _) (az_ (.head _) (az_ (.head _) u5)))))⟩
      ·exact cv_
      ·exact Store.Wk.refl _
     refine dR_T o_ (by rfl) (by rfl) (ao_ v_ ?_)
     refine tx_ o_ g_ va_ (cW_ hd (by simp (disch:=omega) only [Store.set_ne,u1])) ?_;rintro _ _ ⟨rfl,rfl⟩
     refine ds_ ?_
     refine tx_ o_ g_ va_ (a1_ he (Store.set_get ..)) ?_;rintro _ _ ⟨rfl,rfl⟩
     refine tx_ o_ g_ va_ (aH_ hf (Store.set_get ..)) ?_;rintro _ _ ⟨rfl,rfl⟩
     refine dst_ ?_
     refine ds_ ?_
     refine dst_ ?_
     refine ds_ ?_
     refine dst_ ?_
     refine aG_ ?_
     refine ⟨((((((υ.set o (rdO d.2)).set o (rdO e.2)).set o (rdO f.2)).set o3 (.cells [vInt a.1,vStr (B b.1),vStr (B c.1),vInt d.1,.lit (.int .i64 0),.lit (.string ⟨#[]⟩),.lit (.slice none 0 0),.lit (.slice none 0 0),.lit (.slice none 0 0),.lit (.slice none 0 0),.lit (.slice none 0 0),.lit (.slice none 0 0)])).set o3 (.cells [vInt a.1,vStr (B b.1),vStr (B c.1),vInt d.1,vInt e.1,.lit (.string ⟨#[]⟩),.lit (.slice none 0 0),.lit (.slice none 0 0),.lit (.slice none 0 0),.lit (.slice none 0 0),.lit (.slice none 0 0),.lit (.slice none 0 0)])).set o3 (.cells [vInt a.1,vStr (B b.1),vStr (B c.1),vInt d.1,vInt e.1,vStr (B f.1),.lit (.slice none 0 0),.lit (.slice none 0 0),.lit (.slice none 0 0),.lit (.slice none 0 0),.lit (.slice none 0 0),.lit (.slice none 0 0)])),?_,?_,?_⟩
     ·exact ⟨by simp (disch:=omega) only [Store.set_ne,Store.set_get],by simp (disch:=omega) only [Store.set_ne,u2],by simp (disch:=omega) only [Store.set_ne,u3],h_,ai_ ho3 (ai_ ho3 (ai_ ho3 (az_ (.head _) (az_ (.head _) (az_ (.head _) u5)))))⟩
     ·exact cv_
     ·exact Store.Wk.refl _
    refine dR_T o_ (by rfl) (by rfl) (ao_ v_ ?_)
    refine dR_T o_ (by rfl) (by rfl) (ao_ v_ ?_)
    refine tx_ o_ g_ va_ (cW_ hd (by simp (disch:=omega) only [Store.set_ne,u1])) ?_;rintro _ _ ⟨rfl,rfl⟩
    refine ds_ ?_
    refine tx_ o_ g_ va_ (a1_ he (Store.set_get ..)) ?_;rintro _ _ ⟨rfl,rfl⟩
    refine tx_ o_ g_ va_ (aH_ hf (Store.set_get ..)) ?_;rintro _ _ ⟨rfl,rfl⟩
    refine dst_ ?_
    refine ds_ ?_
    refine dst_ ?_
    refine ds_ ?_
    refine dst_ ?_
    refine aG_ ?_
    refine ⟨((((((υ.set o (rdO d.2)).set o (rdO e.2)).set o (rdO f.2)).set o3 (.cells [vInt a.1,vStr (B b.1),vStr (B c.1),vInt d.1,.lit (.int .i64 0),.lit (.string ⟨#[]⟩),.lit (.slice none 0 0),.lit (.slice none 0 0),.lit (.slice none 0 0),.lit (.slice none 0 0),.lit (.slice none 0 0),.lit (.slice none 0 0)])).set o3 (.cells [vInt a.1,vStr (B b.1),vStr (B c.1),vInt d.1,vInt e.1,.lit (.string ⟨#[]⟩),.lit (.slice none 0 0),.lit (.slice none 0 0),.lit (.slice none 0 0),.lit (.slice none 0 0),.lit (.slice none 0 0),.lit (.slice none 0 0)])).set o3 (.cells [vInt a.1,vStr (B b.1),vStr (B c.1),vInt d.1,vInt e.1,vStr (B f.1),.lit (.slice none 0 0),.lit (.slice none 0 0),.lit (.slice none 0 0),.lit (.slice none 0 0),.lit (.slice none 0 0),.lit (.slice none 0 0)])),?_,?_,?_⟩
    ·exact ⟨by simp (disch:=omega) only [Store.set_ne,Store.set_get],by simp (disch:=omega) only [Store.set_ne,u2],by simp (disch:=omega) only [Store.set_ne,u3],h_,ai_ ho3 (ai_ ho3 (ai_ ho3 (az_ (.head _) (az_ (.head _) (az_ (.head _) u5)))))⟩
    ·exact cv_
    ·exact Store.Wk.refl _
   refine dR_T o_ (by rfl) (by rfl) (ao_ v_ ?_)
   refine a3_ ?_ ?_
   ·refine dR_T o_ (by rfl) (by rfl) (ao_ v_ ?_)
    refine a3_ ?_ ?_
    ·refine tx_ o_ g_ va_ (cW_ hd (by simp (disch:=omega) only [Store.set_ne,u1])) ?_;rintro _ _ ⟨rfl,rfl⟩
     refine ds_ ?_
     refine dR_T o_ (by rfl) (by rfl) (ao_ v_ ?_)
     refine tx_ o_ g_ va_ (a1_ he (Store.set_get ..)) ?_;rintro _ _ ⟨rfl,rfl⟩
     refine tx_ o_ g_ va_ (aH_ hf (Store.set_get ..)) ?_;rintro _ _ ⟨rfl,rfl⟩
     refine dst_ ?_
     refine ds_ ?_
     refine dst_ ?_
     refine ds_ ?_
     refine dst_ ?_
     refine aG_ ?_
     refine ⟨((((((υ.set o (rdO d.2)).set o (rdO e.2)).set o (rdO f.2)).set o3 (.cells [vInt a.1,vStr (B b.1),vStr (B c.1),vInt d.1,.lit (.int .i64 0),.lit (.string ⟨#[]⟩),.lit (.slice none 0 0),.lit (.slice none 0 0),.lit (.slice none 0 0),.lit (.slice none 0 0),.lit (.slice none 0 0),.lit (.slice none 0 0)])).set o3 (.cells [vInt a.1,vStr (B b.1),vStr (B c.1),vInt d.1,vInt e.1,.lit (.string ⟨#[]⟩),.lit (.slice none 0 0),.lit (.slice none 0 0),.lit (.slice none 0 0),.lit (.slice none 0 0),.lit (.slice none 0 0),.lit (.slice none 0 0)])).set o3 (.cells [vInt a.1,vStr (B b.1),vStr (B c.1),vInt d.1,vInt e.1,vStr (B f.1),.lit (.slice none 0 0),.lit (.slice none 0 0),.lit (.slice none 0 0),.lit (.slice none 0 0),.lit (.slice none 0 0),.lit (.slice none 0 0)])),?_,?_,?_⟩
     ·exact ⟨by simp (disch:=omega) only [Store.set_ne,Store.set_get],by simp (disch:=omega) only [Store.set_ne,u2],by simp (disch:=omega) only [Store.set_ne,u3],h_,ai_ ho3 (ai_ ho3 (ai_ ho3 (az_ (.head _) (az_ (.head _) (az_ (.head _) u5)))))⟩
     ·exact cv_
     ·exact Store.Wk.refl _
    refine dR_T o_ (by rfl) (by rfl) (ao_ v_ ?_)
    refine tx_ o_ g_ va_ (cW_ hd (by simp (disch:=omega) only [Store.set_ne,u1])) ?_;rintro _ _ ⟨rfl,rfl⟩
    refine ds_ ?_
    refine tx_ o_ g_ va_ (a1_ he (Store.set_get ..)) ?_;rintro _ _ ⟨rfl,rfl⟩
    refine tx_ o_ g_ va_ (aH_ hf (Store.set_get ..)) ?_;rintro _ _ ⟨rfl,rfl⟩
    refine dst_ ?_
    refine ds_ ?_
    refine dst_ ?_
    refine ds_ ?_
    refine dst_ ?_
    refine aG_ ?_
    refine ⟨((((((υ.set o (rdO d.2)).set o (rdO e.2)).set o (rdO f.2)).set o3 (.cells [vInt a.1,vStr (B b.1),vStr (B c.1),vInt d.1,.lit (.int .i64 0),.lit (.string ⟨#[]⟩),.lit (.slice none 0 0),.lit (.slice none 0 0),.lit (.slice none 0 0),.lit (.slice none 0 0),.lit (.slice none 0 0),.lit (.slice none 0 0)])).set o3 (.cells [vInt a.1,vStr (B b.1),vStr (B c.1),vInt d.1,vInt e.1,.lit (.string ⟨#[]⟩),.lit (.slice none 0 0),.lit (.slice none 0 0),.lit (.slice none 0 0),.lit (.slice none 0 0),.lit (.slice none 0 0),.lit (.slice none 0 0)])).set o3 (.cells [vInt a.1,vStr (B b.1),vStr (B c.1),vInt d.1,vInt e.1,vStr (B f.1),.lit (.slice none 0 0),.lit (.slice none 0 0),.lit (.slice none 0 0),.lit (.slice none 0 0),.lit (.slice none 0 0),.lit (.slice none 0 0)])),?_,?_,?_⟩
    ·exact ⟨by simp (disch:=omega) only [Store.set_ne,Store.set_get],by simp (disch:=omega) only [Store.set_ne,u2],by simp (disch:=omega) only [Store.set_ne,u3],h_,ai_ ho3 (ai_ ho3 (ai_ ho3 (az_ (.head _) (az_ (.head _) (az_ (.head _) u5)))))⟩
    ·exact cv_
    ·exact Store.Wk.refl _
   refine dR_T o_ (by rfl) (by rfl) (ao_ v_ ?_)
   refine dR_T o_ (by rfl) (by rfl) (ao_ v_ ?_)
   refine tx_ o_ g_ va_ (cW_ hd (by simp (disch:=omega) only [Store.set_ne,u1])) ?_;rintro _ _ ⟨rfl,rfl⟩
   refine ds_ ?_
   refine tx_ o_ g_ va_ (a1_ he (Store.set_get ..)) ?_;rintro _ _ ⟨rfl,rfl⟩
   refine tx_ o_ g_ va_ (aH_ hf (Store.set_get ..)) ?_;rintro _ _ ⟨rfl,rfl⟩
   refine dst_ ?_
   refine ds_ ?_
   refine dst_ ?_
   refine ds_ ?_
   refine dst_ ?_
   refine aG_ ?_
   refine ⟨((((((υ.set o (rdO d.2)).set o (rdO e.2)).set o (rdO f.2)).set o3 (.cells [vInt a.1,vStr (B b.1),vStr (B c.1),vInt d.1,.lit (.int .i64 0),.lit (.string ⟨#[]⟩),.lit (.slice none 0 0),.lit (.slice none 0 0),.lit (.slice none 0 0),.lit (.slice none 0 0),.lit (.slice none 0 0),.lit (.slice none 0 0)])).set o3 (.cells [vInt a.1,vStr (B b.1),vStr (B c.1),vInt d.1,vInt e.1,.lit (.string ⟨#[]⟩),.lit (.slice none 0 0),.lit (.slice none 0 0),.lit (.slice none 0 0),.lit (.slice none 0 0),.lit (.slice none 0 0),.lit (.slice none 0 0)])).set o3 (.cells [vInt a.1,vStr (B b.1),vStr (B c.1),vInt d.1,vInt e.1,vStr (B f.1),.lit (.slice none 0 0),.lit (.slice none 0 0),.lit (.slice none 0 0),.lit (.slice none 0 0),.lit (.slice none 0 0),.lit (.slice none 0 0)])),?_,?_,?_⟩
   ·exact ⟨by simp (disch:=omega) only [Store.set_ne,Store.set_get],by simp (disch:=omega) only [Store.set_ne,u2],by simp (disch:=omega) only [Store.set_ne,u3],h_,ai_ ho3 (ai_ ho3 (ai_ ho3 (az_ (.head _) (az_ (.head _) (az_ (.head _) u5)))))⟩
   ·exact cv_
   ·exact Store.Wk.refl _
  ·rintro φ ⟨q1,q2,q3,q4,q5⟩
   simp only [ar_,av_]
   refine bw_ (ι:=Store) (fun κ=>κ.heap o=some (rdO h.2)∧κ.heap o1=some (.cells [.ref o 0])∧κ.heap o2=some z∧κ.heap o3=some (.cells [vInt a.1,vStr (B b.1),vStr (B c.1),vInt d.1,vInt e.1,vStr (B f.1),.sl 3 (g.1.ctx.map aM_) false,.sl 5 (g.1.sibs.map sSib) false,.sl 1 (h.1.map vStr) false,.lit (.slice none 0 0),.lit (.slice none 0 0),.lit (.slice none 0 0)])∧SubX [o] σ κ) (fun κ=>[(1,.ref o1 0),(2,.ref o2 0),(3,.ref o3 0)]) (fun κ=>κ) ?_ ?_
   ·have R:=q2
    refine aL_ (.alt 0 2 (.alt 1 2 (.op 4 0 (.op 2 2 (.op 3 2 (.op 5 2 (.op 6 0 (.op 7 2 .nil)))))) (.op 2 2 (.op 1 2 (.op 4 0 (.op 3 2 (.op 5 2 (.op 6 0 (.op 7 2 .nil)))))))) (.op 2 2 (.op 0 2 (.op 1 2 (.op 4 0 (.op 3 2 (.op 5 2 (.op 6 0 (.op 7 2 .nil))))))))) Tryz.mixed kr_ ?_
    refine a3_ ?_ ?_
    ·refine dR_T o_ (by rfl) (by rfl) (ao_ v_ ?_)
     refine a3_ ?_ ?_
     ·refine tx_ o_ g_ va_ (eS_ hg q1) ?_;rintro _ ρ ⟨rfl,r1,r2⟩
      have k1:=keep (i:=o1) r2 q2 (by simp;omega)
      have k3:=keep (i:=o3) r2 q4 (by simp;omega)
      have k2:=keep (i:=o2) r2 q3 (by simp;omega)
      have R:=And.intro k1 k3
      refine ds_ ?_
      refine dR_T o_ (by rfl) (by rfl) (ao_ v_ ?_)
      refine tx_ o_ g_ va_ (j7_ hh r1) ?_;rintro _ ψ ⟨rfl,w1,w2⟩
      have l1:=keep (i:=o1) w2 k1 (by simp;omega)
      have l3:=keep (i:=o3) w2 k3 (by simp;omega)
      have l2:=keep (i:=o2) w2 k2 (by simp;omega)
      have R:=And.intro l1 l3
      refine dst_ ?_
      refine ds_ ?_
      refine dst_ ?_
      refine aG_ ?_
      refine ⟨((ψ.set o3 (.cells [vInt a.1,vStr (B b.1),vStr (B c.1),vInt d.1,vInt e.1,vStr (B f.1),.sl 3 (g.1.ctx.map aM_) false,.sl 5 (g.1.sibs.map sSib) false,.lit (.slice none 0 0),.lit (.slice none 0 0),.lit (.slice none 0 0),.lit (.slice none 0 0)])).set o3 (.cells [vInt a.1,vStr (B b.1),vStr (B c.1),vInt d.1,vInt e.1,vStr (B f.1),.sl 3 (g.1.ctx.map aM_) false,.sl 5 (g.1.sibs.map sSib) false,.sl 1 (h.1.map vStr) false,.lit (.slice none 0 0),.lit (.slice none 0 0),.lit (.slice none 0 0)])),?_,?_,?_⟩
      ·exact ⟨by simp (disch:=omega) only [Store.set_ne,w1],by simp (disch:=omega) only [Store.set_ne,l1],by simp (disch:=omega) only [Store.set_ne,l2],h_,ai_ ho3 (ai_ ho3 (SubX.trans (SubX.trans q5 r2) w2))⟩
      ·exact cv_
      ·exact Store.Wk.refl _
     refine dR_T o_ (by rfl) (by rfl) (ao_ v_ ?_)
     refine tx_ o_ g_ va_ (eS_ hg q1) ?_;rintro _ ρ ⟨rfl,r1,r2⟩
     have k1:=keep (i:=o1) r2 q2 (by simp;omega)
     have k3:=keep (i:=o3) r2 q4 (by simp;omega)
     have k2:=keep (i:=o2) r2 q3 (by simp;omega)
     have R:=And.intro k1 k3
     refine ds_ ?_
     refine tx_ o_ g_ va_ (j7_ hh r1) ?_;rintro _ ψ ⟨rfl,w1,w2⟩
     have l1:=keep (i:=o1) w2 k1 (by simp;omega)
     have l3:=keep (i:=o3) w2 k3 (by simp;omega)
     have l2:=keep (i:=o2) w2 k2 (by simp;omega)
     have R:=And.intro l1 l3
     refine dst_ ?_
     refine ds_ ?_
     refine dst_ ?_
     refine aG_ ?_
     refine ⟨((ψ.set o3 (.cells [vInt a.1,vStr (B b.1),vStr (B c.1),vInt d.1,vInt e.1,vStr (B f.1),.sl 3 (g.1.ctx.map aM_) false,.sl 5 (g.1.sibs.map sSib) false,.lit (.slice none 0 0),.lit (.slice none 0 0),.lit (.slice none 0 0),.lit (.slice none 0 0)])).set o3 (.cells [vInt a.1,vStr (B b.1),vStr (B c.1),vInt d.1,vInt e.1,vStr (B f.1),.sl 3 (g.1.ctx.map aM_) false,.sl 5 (g.1.sibs.map sSib) false,.sl 1 (h.1.map vStr) false,.lit (.slice none 0 0),.lit (.slice none 0 0),.lit (.slice none 0 0)])),?_,?_,?_⟩
     ·exact ⟨by simp (disch:=omega) only [Store.set_ne,w1],by simp (disch:=omega) only [Store.set_ne,l1],by simp (disch:=omega) only [Store.set_ne,l2],h_,ai_ ho3 (ai_ ho3 (SubX.trans (SubX.trans q5 r2) w2))⟩
     ·exact cv_
     ·exact Store.Wk.refl _
    refine dR_T o_ (by rfl) (by rfl) (ao_ v_ ?_)
    refine dR_T o_ (by rfl) (by rfl) (ao_ v_ ?_)
    refine tx_ o_ g_ va_ (eS_ hg q1) ?_;rintro _ ρ ⟨rfl,r1,r2⟩
    have k1:=keep (i:=o1) r2 q2 (by simp;omega)
    have k3:=keep (i:=o3) r2 q4 (by simp;omega)
    have k2:=keep (i:=o2) r2 q3 (by simp;omega)
    have R:=And.intro k1 k3
    refine ds_ ?_
    refine tx_ o_ g_ va_ (j7_ hh r1) ?_;rintro _ ψ ⟨rfl,w1,w2⟩
    have l1:=keep (i:=o1) w2 k1 (by simp;omega)
    have l3:=keep (i:=o3) w2 k3 (by simp;omega)
    have l2:=keep (i:=o2) w2 k2 (by simp;omega)
    have R:=And.intro l1 l3
    refine dst_ ?_
    refine ds_ ?_
    refine dst_ ?_
    refine aG_ ?_
    refine ⟨((ψ.set o3 (.cells [vInt a.1,vStr (B b.1),vStr (B c.1),vInt d.1,vInt e.1,vStr (B f.1),.sl 3 (g.1.ctx.map aM_) false,.sl 5 (g.1.sibs.map sSib) false,.lit (.slice none 0 0),.lit (.slice none 0 0),.lit (.slice none 0 0),.lit (.slice none 0 0)])).set o3 (.cells [vInt a.1,vStr (B b.1),vStr (B c.1),vInt d.1,vInt e.1,vStr (B f.1),.sl 3 (g.1.ctx.map aM_) false,.sl 5 (g.1.sibs.map sSib) false,.sl 1 (h.1.map vStr) false,.lit (.slice none 0 0),.lit (.slice none 0 0),.lit (.slice none 0 0)])),?_,?_,?_⟩
    ·exact ⟨by simp (disch:=omega) only [Store.set_ne,w1],by simp (disch:=omega) only [Store.set_ne,l1],by simp (disch:=omega) only [Store.set_ne,l2],h_,ai_ ho3 (ai_ ho3 (SubX.trans (SubX.trans q5 r2) w2))⟩
    ·exact cv_
    ·exact Store.Wk.refl _
   ·rintro κ ⟨v1,v2,v3,v4,v5⟩
    simp only [ar_,av_]
    refine ab_ ?_
    have R:=v2
    refine r_ ?_
    iterate 2 refine s_ ?_
    refine x_ g_ va_ (oO_ (fun τ=>τ.heap o1=some (.cells [.ref o 0])) hi kr_ (fun _ _ h k=>keep k h (by simp;omega)) v1 v2 (fun _ _ h k=>mc_ h k)) ?_;rintro _ κ5 ⟨rfl,a1,a2⟩
    have b1:=keep (i:=o1) a2 v2 (by simp;omega)
    have b2:=keep (i:=o2) a2 v3 (by simp;omega)
    have b3:=keep (i:=o3) a2 v4 (by simp;omega)
    have R:=And.intro b1 b3
    refine s_ ?_
    refine st_ ?_
    refine aa_ ?_
    refine ab_ ?_
    have R:=b1
    refine r_ ?_
    iterate 2 refine s_ ?_
    refine x_ g_ va_ (oM_ (fun τ=>τ.heap o1=some (.cells [.ref o 0])) hj kr_ (fun _ _ h k=>keep k h (by simp;omega)) (by simp (disch:=omega) only [Store.set_ne,a1]) (by simp (disch:=omega) only [Store.set_ne,b1]) (fun _ _ h k=>mb_ h k)) ?_;rintro _ κ6 ⟨rfl,c1,c2⟩
    have d1:=keep (i:=o1) (x:=.cells [.ref o 0]) c2 (by simp (disch:=omega) only [Store.set_ne,b1]) (by simp;omega)
    have d2:=keep (i:=o2) (x:=z) c2 (by simp (disch:=omega) only [Store.set_ne,b2]) (by simp;omega)
    have d3:=keep (i:=o3) c2 (Store.set_get ..) (by simp;omega)
    have R:=And.intro d1 d3
    refine s_ ?_
    refine st_ ?_
    refine aa_ ?_
    refine ab_ ?_
    have R:=d1
    refine r_ ?_
    refine s_ ?_
    refine x_ g_ va_ (ma_ hk (by simp (disch:=omega) only [Store.set_ne,c1])) ?_;rintro _ κ7 ⟨rfl,f1,f2⟩
    have g2:=keep (i:=o2) (x:=z) f2 (by simp (disch:=omega) only [Store.set_ne,d2]) (by simp;omega)
    have g3:=keep (i:=o3) f2 (Store.set_get ..) (by simp;omega)
    have R:=g3
    refine s_ ?_
    refine st_ ?_
    refine aa_ ?_
    refine ab_ ?_
    rw [← hz] at g2
    have R:=g2
    refine r_ ?_
    refine s_ ?_
    refine st_ ?_
    refine aa_ ?_
    refine ac_ ?_
    refine aE_ v_ (Store.Wk.refl _) ?_
    refine ⟨rfl,by simp (disch:=omega) only [Store.set_ne,f1],?_⟩
    exact ai_ ho2 (ai_ ho3 (SubX.trans (ai_ ho3 (SubX.trans (ai_ ho3 (SubX.trans v5 a2)) c2)) f2))
theorem b8_.sub {a b:Store} {o:Nat} {e:TypeId} {sz:Nat} {l:List AVal} {x:AVal} {old:Option Nat} {y:AObj} (h:b8_ a e sz l x old) (hs:SubX [o] (a.set o y) b):b8_ b e sz l x old:=by
 rcases h with ⟨k,h1,h2,h3⟩ | h
 ·exact .inl ⟨k,h1,hs.2 k _ (by rw [Store.set_tok];exact h2),h3⟩
 ·exact .inr h
set_option maxHeartbeats 2000000 in
theorem qe_ {m:Msg} {σ:Store} (hm:MsgSm m):ACalls Tryz.prog 163 [sMsg m] σ fun v σ'=>v=vStr (B (msgB m))∧σ=σ':=by
 have h1:=hm.frm;have h2:=hm.to;have h3:=hm.place;have hl:=hm.ln
 have l1:=hl.texts;have l2:=hl.leaves;have l3:=hl.items;have l4:=hl.ents;have l5:=hl.obj
 have nt:=hm.nt;have nl:=hm.nl;have ni:=hm.ni;have ne:=hm.ne
 refine en_ Tryz.func163 Tryz.ntmps163 Tryz.results163 ?_
 refine rr_ ?_
 refine bx_ fun o1 ho1=>?_
 repeat (rw [ad_] at ho1;obtain ⟨_,ho1⟩:=ho1)
 refine s_ ?_
 refine aa_ ?_
 refine rr_ ?_
 refine s_ ?_
 refine aL_X rfl rfl (AOp_boxP rfl va_ fun o5 ho5=>?_);obtain ⟨n5,ho5⟩:=ad_.1 ho5
 refine lc_ fun o3 ho3=>?_
 repeat (rw [ad_] at ho3;obtain ⟨_,ho3⟩:=ho3)
 refine st_ ?_
 refine aa_ ?_
 skip
 have n31:o3≠o1:=by omega
 have n35:o3≠o5:=by omega
 refine r6_ fun S hS=>?_
 have w0:WR S o5 []:=by
  refine ⟨_,_,none,?_,.inr rfl,.inr ⟨rfl,rfl,rfl⟩⟩
  rw [hS];simp (disch:=omega) only [Store.set_ne,Store.set_get];rfl
 have n1:o1≠o5:=Ne.symm n5
 have f1:S.heap o1=some (.cells (sMsg m).cells):=by rw [hS];simp (disch:=omega) only [Store.set_ne,Store.set_get];rfl
 have f3:S.heap o3=some (.cells [.ref o5 0]):=by rw [hS];simp (disch:=omega) only [Store.set_ne,Store.set_get]
 have e:WF o5 ((σ.set o1 (.cells (sMsg m).cells)).set o5 (.cells [.nilp o5 331 2,.lit (.slice none 0 0)])) S:=by
  rw [hS]
  exact WF.alloc2 WF.refl (by simp (disch:=omega) only [Store.set_ne];exact ho3) n35
 clear hS
 refine ab_ ?_
 have R:=And.intro f1 f3
 refine r_ ?_
 iterate 3 refine s_ ?_
 refine x_ g_ va_ (ij_ w0 (by simp)) ?_;rintro _ τ2 ⟨rfl,a,e'⟩
 refine aa_ ?_
 replace f1:=WF.keep e' f1 n1
 replace f3:=WF.keep e' f3 n35
 replace e:=e.trans e'
 refine ab_ ?_
 have R:=And.intro f1 f3
 refine r_ ?_
 iterate 3 refine s_ ?_
 refine x_ g_ va_ (bW_ a (by simp only [List.length_append,List.length_nil,ap_,am_,bq_];omega) (by omega)) ?_;rintro _ τ3 ⟨rfl,a,e'⟩
 refine aa_ ?_
 replace f1:=WF.keep e' f1 n1
 replace f3:=WF.keep e' f3 n35
 replace e:=e.trans e'
 refine ab_ ?_
 have R:=And.intro f1 f3
 refine r_ ?_
 iterate 3 refine s_ ?_
 refine x_ g_ va_ (bW_ a (by simp only [List.length_append,List.length_nil,ap_,am_,bq_];omega) (by omega)) ?_;rintro _ τ4 ⟨rfl,a,e'⟩
 refine aa_ ?_
 replace f1:=WF.keep e' f1 n1
 replace f3:=WF.keep e' f3 n35
 replace e:=e.trans e'
 refine ab_ ?_
 have R:=And.intro f1 f3
 refine r_ ?_
 iterate 3 refine s_ ?_
 refine x_ g_ va_ (fk_ a (by simp only [List.length_append,List.length_nil,ap_,am_,bq_];omega)) ?_;rintro _ τ5 ⟨rfl,a,e'⟩
 refine aa_ ?_
 replace f1:=WF.keep e' f1 n1
 replace f3:=WF.keep e' f3 n35
 replace e:=e.trans e'
 refine ab_ ?_
 have R:=And.intro f1 f3
 refine r_ ?_
 iterate 3 refine s_ ?_
 refine x_ g_ va_ (ij_ a (by simp only [List.length_append,List.length_nil,ap_,am_,bq_];omega)) ?_;rintro _ τ6 ⟨rfl,a,e'⟩
 refine aa_ ?_
 replace f1:=WF.keep e' f1 n1
 replace f3:=WF.keep e' f3 n35
 replace e:=e.trans e'
 refine ab_ ?_
 have R:=And.intro f1 f3
 refine r_ ?_
 iterate 3 refine s_ ?_
 refine x_ g_ va_ (bW_ a (by simp only [List.length_append,List.length_nil,ap_,am_,bq_];omega) (by omega)) ?_;rintro _ τ7 ⟨rfl,a,e'⟩
 refine aa_ ?_
 replace f1:=WF.keep e' f1 n1
 replace f3:=WF.keep e' f3 n35
 replace e:=e.trans e'
 refine ab_ ?_
 have R:=And.intro f1 f3
 refine r_ ?_
 iterate 3 refine s_ ?_
 refine x_ g_ va_ (pf_ a hm.obj (by simp only [List.length_append,List.length_nil,ap_,am_,bq_];omega)) ?_;rintro _ τ8 ⟨rfl,a,e'⟩
 refine aa_ ?_
 replace f1:=WF.keep e' f1 n1
 replace f3:=WF.keep e' f3 n35
 replace e:=e.trans e'
 refine ab_ ?_
 have R:=And.intro f1 f3
 refine r_ ?_
 iterate 3 refine s_ ?_
 refine x_ g_ va_ (pg_ a hm.texts (by simp only [List.length_append,List.length_nil,ap_,am_,bq_];omega) (by omega)) ?_;rintro _ τ9 ⟨rfl,a,e'⟩
 refine aa_ ?_
 replace f1:=WF.keep e' f1 n1
 replace f3:=WF.keep e' f3 n35
 replace e:=e.trans e'
 refine ab_ ?_
 have R:=And.intro f1 f3
 refine r_ ?_
 iterate 4 refine s_ ?_
 refine x_ g_ va_ (lO_ (wb:=ej_) (fun τ=>τ.heap o3=some (.cells [.ref o5 0])) kr_ (fun _ _ h k=>k.keep h n35) a f3 (by simp only [List.length_append,List.length_nil,ap_,am_,bq_];omega) (by omega) (fun _ _ _ hx h hb hl=>q0_ h hb (hm.leaves _ hx) (by omega))) ?_;rintro _ τ10 ⟨rfl,a,e'⟩
 refine aa_ ?_
 replace f1:=WF.keep e' f1 n1
 replace f3:=WF.keep e' f3 n35
 replace e:=e.trans e'
 refine ab_ ?_
 have R:=And.intro f1 f3
 refine r_ ?_
 iterate 4 refine s_ ?_
 refine x_ g_ va_ (lN_ (wb:=fi_) (fun τ=>τ.heap o3=some (.cells [.ref o5 0])) kr_ (fun _ _ h k=>k.keep h n35) a f3 (by simp only [List.length_append,List.length_nil,ap_,am_,bq_];omega) (by omega) (fun _ _ _ hx h hb hl=>qZ_ h hb (hm.items _ hx) hl)) ?_;rintro _ τ11 ⟨rfl,a,e'⟩
 refine aa_ ?_
 replace f1:=WF.keep e' f1 n1
 replace f3:=WF.keep e' f3 n35
 replace e:=e.trans e'
 refine ab_ ?_
 have R:=And.intro f1 f3
 refine r_ ?_
 iterate 3 refine s_ ?_
 refine x_ g_ va_ (lt_ a hm.ents (by simp only [List.length_append,List.length_nil,ap_,am_,bq_];omega) (by omega)) ?_;rintro _ τ12 ⟨rfl,a,e'⟩
 refine aa_ ?_
 replace f1:=WF.keep e' f1 n1
 replace f3:=WF.keep e' f3 n35
 replace e:=e.trans e'
 refine ab_ ?_
 have R:=f3
 refine r_ ?_
 refine s_ ?_
 refine x_ g_ va_ (gN_ a (by simp only [List.length_append,List.length_nil,ap_,am_,bq_];omega)) ?_;rintro _ τ13 ⟨rfl,e'⟩
 refine s_ ?_
 refine aa_ ?_
 refine ac_ ?_
 have h9:=WF.sub (x:=.cells [.nilp o5 331 2,.lit (.slice none 0 0)]) (by simp (disch:=omega) only [Store.set_ne,ho5]) (e.trans e') (fun a t sz l hh=>by simp at hh)
 exact aE_ (σ':=σ) va_ (Store.Sub.wk (Store.Sub.trans (tP_ ho1) h9)) ⟨by simp [msgB,pV_,List.append_assoc],rfl⟩
instance:DecidableEq Seen:=fun a b=>decidable_of_iff (a.node=b.node∧a.base=b.base∧a.more=b.more) (by cases a;cases b;simp)
instance:DecidableEq Sib:=fun a b=>decidable_of_iff (a.node=b.node∧a.n=b.n∧a.value=b.value∧a.gone=b.gone∧a.time=b.time) (by cases a;cases b;simp)
instance:DecidableEq Obj':=fun a b=>decidable_of_iff (a.ctx=b.ctx∧a.sibs=b.sibs) (by cases a;cases b;simp)
instance:DecidableEq Leaf:=fun a b=>decidable_of_iff (a.place=b.place∧a.digest=b.digest) (by cases a;cases b;simp)
instance:DecidableEq Itm:=fun a b=>decidable_of_iff (a.place=b.place∧a.obj=b.obj) (by cases a;cases b;simp)
instance:DecidableEq Ent:=fun a b=>decidable_of_iff (a.key=b.key∧a.n=b.n∧a.who=b.who∧a.value=b.value) (by cases a;cases b;simp)
instance:DecidableEq Msg:=fun a b=>decidable_of_iff (a.kind=b.kind∧a.frm=b.frm∧a.to=b.to∧a.num=b.num∧a.err=b.err∧a.place=b.place∧a.obj=b.obj∧a.texts=b.texts∧a.leaves=b.leaves∧a.items=b.items∧a.ents=b.ents) (by cases a;cases b;simp)
theorem la_ {a b:List Ent} {ta tb:Bool} {σ:Store} (hla:a.length≤1000000) (hlb:b.length≤1000000):ACalls Tryz.prog 20 [.sl 4 (a.map sEnt) ta,.sl 4 (b.map sEnt) tb] σ fun v σ'=>v=vB (decide (a=b))∧σ=σ':=by
 have hinj:∀ x y:Ent,sEnt x=sEnt y ↔ x=y:=fun x y=>by cases x;cases y;simp
 refine en_ Tryz.func20 Tryz.ntmps20 Tryz.results20 ?_
 refine rr_ ?_
 refine s_ ?_
 refine aa_ ?_
 refine ab_ ?_
 refine rr_ ?_
 iterate 5 refine s_ ?_
 refine aa_ ?_
 refine cd_ (fun hc1=>?_) (fun hc1=>?_)
 ·refine rr_ ?_
  refine s_ ?_
  refine aa_ ?_
  refine ac_ ?_
  refine er_ σ ?_
  exact ⟨by rw [decide_eq_false];intro h;rw [h] at hc1;omega,rfl⟩
 ·have hab:a.length=b.length:=by omega
  refine ae_ ?_
  refine ab_ ?_
  refine rr_ ?_
  refine s_ ?_
  refine aa_ ?_
  refine ah_ ?_
  refine ak_ (ι:=Nat) (fun k=>a.length - k) (fun k=>k≤a.length∧a.take k=b.take k) (fun k=>[(0,.sl 4 (a.map sEnt) ta),(1,.sl 4 (b.map sEnt) tb),(5,vInt k)]) (fun k=>σ) 0 ?_ ?_ ?_ ?_
  ·exact ⟨Nat.zero_le _,rfl⟩
  ·exact cv_
  ·exact sub_
  rintro k ⟨hk,he⟩
  simp only [ar_,av_]
  refine ab_ ?_
  refine rr_ ?_
  iterate 5 refine s_ ?_
  refine gt_ ?_
  refine gt_ ?_
  refine gt_ ?_
  refine gt_ ?_
  refine s_ ?_
  refine aa_ ?_
  refine cd_ (fun hc4=>?_) (fun hc4=>?_)
  ·refine ae_ ?_
   refine ab_ ?_
   refine ah_ ?_
   refine ab_ ?_
   obtain ⟨x,hx⟩:=a0_ (l:=a) (k:=k) (by omega)
   obtain ⟨y,hy⟩:=a0_ (l:=b) (k:=k) (by omega)
   have R:=And.intro hx hy
   refine aL_ (.op 0 0 (.op 1 0 (.op 2 0 (.op 3 0 (.op 4 0 (.op 5 0 (.op 6 0 (.op 7 0 (.op 8 0 .nil))))))))) Tryz.mixed kr_ ?_
   iterate 9 refine ds_ ?_
   refine aG_ ?_
   refine cd_ (fun hc6=>?_) (fun hc6=>?_)
   ·refine rr_ ?_
    refine s_ ?_
    refine aa_ ?_
    refine ac_ ?_
    refine er_ σ ?_
    exact ⟨by rw [decide_eq_false];intro h;rw [h,hy] at hx;have hyx:=Option.some.inj hx;subst hyx;simp at hc6,rfl⟩
   ·have hxy:x=y:=by first | exact hc6 | (have h:=hc6;clear hx hy R hc6;cases x;cases y;simp_all)
    refine ae_ ?_
    refine r_ ?_
    iterate 3 refine s_ ?_
    refine aa_ ?_
    refine bb_ (ι:=Nat) (i:=k) (k + 1) ?_ ?_ ?_ ?_
    ·omega
    ·exact ⟨by omega,by rw [bE_ hx,bE_ hy,he,hxy]⟩
    ·exact cv_
    ·exact sub_
  ·refine ay_ ?_
   refine af_ ?_
   refine af_ ?_
   refine aq_ ?_
   refine rr_ ?_
   refine s_ ?_
   refine aa_ ?_
   refine ac_ ?_
   refine er_ σ ?_
   exact ⟨by rw [decide_eq_true];rwa [List.take_of_length_le (by omega),List.take_of_length_le (by omega)] at he,rfl⟩
def msg0:Msg:=⟨0,⟨#[]⟩,⟨#[]⟩,0,0,⟨#[]⟩,⟨[],[]⟩,[],[],[],[]⟩
def nV_ (s:List UInt8):Bool:=(dd_ (s,true)).2.2 && decide ((dd_ (s,true)).2.1=[]) && bg_ (dd_ (s,true)).1 && decide (msgB (dd_ (s,true)).1=s)
def mofW (s:List UInt8):Msg × Int:=if nV_ s then ((dd_ (s,true)).1,0) else (msg0,3)
theorem s1_:Wk (.agg [.lit (.int .i64 0),.lit (.string ⟨#[]⟩),.lit (.string ⟨#[]⟩),.lit (.int .i64 0),.lit (.int .i64 0),.lit (.string ⟨#[]⟩),.lit (.slice none 0 0),.lit (.slice none 0 0),.lit (.slice none 0 0),.lit (.slice none 0 0),.lit (.slice none 0 0),.lit (.slice none 0 0)]) (sMsg msg0):=.agg _ _ rfl (fun j hj hj'=>by match j,hj with | 0,_=>exact .refl _ | 1,_=>exact .refl _ | 2,_=>exact .refl _ | 3,_=>exact .refl _ | 4,_=>exact .refl _ | 5,_=>exact .refl _ | 6,_=>exact .nil _ _ | 7,_=>exact .nil _ _ | 8,_=>exact .nil _ _ | 9,_=>exact .nil _ _ | 10,_=>exact .nil _ _ | 11,_=>exact .nil _ _)
set_option maxHeartbeats 1000000 in
theorem xb_ {s:List UInt8} {σ:Store} (hsm:(dd_ (s,true)).2.2=true→MsgSm (dd_ (s,true)).1):ACalls Tryz.prog 80 [vStr (B s)] σ fun v σ'=>v=.tup [sMsg (mofW s).1,vInt (mofW s).2]∧σ=σ':=by
 have hdef:nV_ s=((dd_ (s,true)).2.2 && decide ((dd_ (s,true)).2.1=[]) && bg_ (dd_ (s,true)).1 && decide (msgB (dd_ (s,true)).1=s)):=rfl
 obtain ⟨o,ho⟩:∃ o,(dd_ (s,true)).1=o:=⟨_,rfl⟩
 obtain ⟨y,hy⟩:∃ y,(dd_ (s,true)).2=y:=⟨_,rfl⟩
 rw [ho,hy] at hsm
 rw [ho,hy] at hdef
 have hof:mofW s=if nV_ s then (o,0) else (msg0,3):=by rw [mofW,ho]
 refine en_ Tryz.func80 Tryz.ntmps80 Tryz.results80 ?_
 refine rr_ ?_
 refine lc_ fun o2 ho2=>?_
 repeat (rw [ad_] at ho2;obtain ⟨_,ho2⟩:=ho2)
 refine s_ ?_
 refine aa_ ?_
 refine rr_ ?_
 refine s_ ?_
 refine x_ g_ va_ (xd_) ?_;rintro _ _ ⟨r,hr,rfl,rfl⟩
 refine s_ ?_
 refine aa_ ?_
 refine rr_ ?_
 refine s_ ?_
 refine x_ g_ va_ (s0_ (x:=(s,true)) (Store.set_get ..)) ?_;rintro _ τ ⟨rfl,g1,g2⟩
 rw [ho]
 rw [hy] at g1
 have n2:o2≠r:=Ne.symm (fun hh=>by rw [hh,Store.set_get] at hr;cases hr)
 have t2:=keep g2 (i:=o2) (x:=.cells [.lit (.int .i64 0),.lit (.string ⟨#[]⟩),.lit (.string ⟨#[]⟩),.lit (.int .i64 0),.lit (.int .i64 0),.lit (.string ⟨#[]⟩),.lit (.slice none 0 0),.lit (.slice none 0 0),.lit (.slice none 0 0),.lit (.slice none 0 0),.lit (.slice none 0 0),.lit (.slice none 0 0)]) (by rw [Store.set_ne _ _ n2];exact Store.set_get ..) (by simpa using n2)
 refine lc_ fun o5 ho5=>?_
 repeat (rw [ad_] at ho5;obtain ⟨_,ho5⟩:=ho5)
 refine st_ ?_
 refine aa_ ?_
 skip
 have n25:=an_ t2 ho5
 have hrσ:σ.heap r=none:=by rwa [Store.set_ne _ _ (Ne.symm n2)] at hr
 have st:SubX [] σ τ:=⟨fun i x _ hx=>by
  have h1:i≠r:=fun hh=>by rw [hh,hrσ] at hx;cases hx
  have h2:i≠o2:=fun hh=>by rw [hh,ho2] at hx;cases hx
  exact g2.1 i x (by simpa using h1) (by rw [Store.set_ne _ _ h1,Store.set_ne _ _ h2];exact hx),fun t n ht=>g2.2 t n ht⟩
 have n5σ:σ.heap o5=none:=SubX.noObj st ho5 (by simp)
 have n5:=an_ g1 ho5
 refine ab_ ?_
 refine rr_ ?_
 refine s_ ?_
 refine x_ g_ va_ (qy_ (x:=y) (by simp (disch:=omega) only [Store.set_ne,g1])) ?_;rintro _ _ ⟨rfl,rfl⟩
 iterate 2 refine s_ ?_
 refine gf_ ?_
 refine bi_ rfl rfl v_ rfl (fun hb=>aw_ (by rfl) (by rfl) (.inr ⟨by rfl,by rfl,by rfl⟩) g_ cg_ (qf_ (hsm (by have h:=hb;simp at h;exact h.1)))) ?_
 refine gf_ ?_
 iterate 2 refine s_ ?_
 refine gf_ ?_
 refine bi_ rfl rfl v_ rfl (fun hb=>aw_ (by rfl) (by rfl) (.inr ⟨by rfl,by rfl,by rfl⟩) g_ cg_ (qe_ (hsm (by have h:=hb;simp at h;exact h.1.1)))) ?_
 refine gf_ ?_
 refine gf_ ?_
 refine s_ ?_
 refine aa_ ?_
 refine cd_ (fun hc3=>?_) (fun hc3=>?_)
 ·skip
  have hfl:nV_ s=false:=by
   rw [chk0] at hc3
   rw [hdef]
   rcases hc3 with ((h | h) | h) | h
   ·simp [h]
   ·simp [h]
   ·simp [Bool.eq_false_iff.2 h]
   ·rw [hx_] at h;simp [h]
  refine ab_ ?_
  have R:=t2
  refine r_ ?_
  refine s_ ?_
  refine st_ ?_
  refine s_ ?_
  refine aa_ ?_
  refine ac_ ?_
  rw [hof,hfl]
  exact a2_ (v:=.tup [sMsg msg0,vInt 3]) (v':=.tup [.agg [.lit (.int .i64 0),.lit (.string ⟨#[]⟩),.lit (.string ⟨#[]⟩),.lit (.int .i64 0),.lit (.int .i64 0),.lit (.string ⟨#[]⟩),.lit (.slice none 0 0),.lit (.slice none 0 0),.lit (.slice none 0 0),.lit (.slice none 0 0),.lit (.slice none 0 0),.lit (.slice none 0 0)],vInt 3]) va_ (.tup _ _ rfl (fun i hi hi'=>by match i,hi with | 0,_=>exact s1_ | 1,_=>exact .refl _)) (cN_ (ai_ ho2 (ai_ n5σ (ai_ n5σ st)))) ⟨rfl,rfl⟩
 ·skip
  have htr:nV_ s=true:=by
   rw [chk0,hx_] at hc3
   rw [hdef];simp [hc3.1.1.1,hc3.1.1.2,hc3.1.2,hc3.2]
  refine ae_ ?_
  refine ab_ ?_
  have R:=t2
  refine r_ ?_
  refine s_ ?_
  refine st_ ?_
  refine s_ ?_
  refine aa_ ?_
  refine ac_ ?_
  rw [hof,htr]
  exact aE_ (σ':=σ) va_ (cN_ (ai_ ho2 (ai_ n5σ (ai_ n5σ st)))) ⟨rfl,rfl⟩
theorem u4_ {s:List UInt8} {σ:Store} (hs:s.length≤4000):ACalls Tryz.prog 80 [vStr (B s)] σ fun v σ'=>v=.tup [sMsg (mofW s).1,vInt (mofW s).2]∧σ=σ':=xb_ (qC_ hs)
end Go.Proofs.YtkjfpgjpeofndaaGreatDoor
end
