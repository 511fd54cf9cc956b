/-
  Walks and plain laws for the statement (see the law's own text). Own work (an AI agent).
-/
import Derived.Test.YtkjfpgjpeofndaaGreatDoorGG
import Derived.Test.YtkjfpgjpeofndaaGreatDoorGD
import Derived.Test.YtkjfpgjpeofndaaGreatDoorGE
import Derived.Test.YtkjfpgjpeofndaaGreatDoorGF
import Derived.Test.YtkjfpgjpeofndaaGreatDoorGM

section
set_option linter.all false
set_option maxRecDepth 100000
namespace Go.Proofs.YtkjfpgjpeofndaaGreatDoor
open Go.Ab
abbrev vNn:AVal:=.lit (.pointer none)
abbrev vE0:AVal:=.lit (.string ⟨#[]⟩)
abbrev zNd:List AVal:=[vE0,vB false,vInt 0,vInt 0,vNn,vNil,vNil,.lit (.map none),vNil,vNil]
theorem iy_ {t:Bool} {σ:Store}:ACalls Tryz.prog 43 [.sl 4 [] t] σ fun v σ'=>v=.sl 4 [] false∧σ=σ':=by
 refine en_ Tryz.func43 Tryz.ntmps43 Tryz.results43 ?_
 refine rr_ ?_
 refine s_ ?_
 refine aa_ ?_
 refine ab_ ?_
 refine rr_ ?_
 refine s_ ?_
 refine aL_X rfl rfl (jp_ rfl g_ va_ va_ fun b=>?_)
 refine aa_ ?_
 refine cd_ (fun hc1=>?_) (fun hc1=>?_)
 ·refine rr_ ?_
  refine s_ ?_
  refine aa_ ?_
  refine ac_ ?_
  exact a2_ (v:=.sl 4 [] false) (v':=vNil) va_ (.nil _ _) sub_ ⟨rfl,rfl⟩
 ·refine ae_ ?_
  refine rr_ ?_
  refine aJ_ rfl rfl rfl g_ g_ rfl rfl h_ c2_ (by decide) ?_
  refine s_ ?_
  refine aL_X rfl rfl (hv_ rfl g_ g_ va_ va_ ?_)
  refine s_ ?_
  refine aa_ ?_
  refine ac_ ?_
  refine er_ σ ?_
  exact ⟨rfl,rfl⟩
theorem mZ_ {σ:Store}:ACalls Tryz.prog 43 [vNil] σ fun v σ'=>v=.sl 4 [] false∧σ=σ':=ACalls.wkA (args:=[vNil]) (iy_ (t:=false)) rfl (fun j hj hj'=>by match j,hj with | 0,_=>exact .nil _ _)
theorem iF_ {σ:Store}:ACalls Tryz.prog 47 [vNn] σ fun v σ'=>v=vE0∧σ=σ':=by
 refine en_ Tryz.func47 Tryz.ntmps47 Tryz.results47 ?_
 refine rr_ ?_
 refine s_ ?_
 refine aa_ ?_
 refine ab_ ?_
 refine rr_ ?_
 iterate 2 refine s_ ?_
 refine aa_ ?_
 refine cd_ (fun hc1=>?_) (fun hc1=>?_)
 ·refine rr_ ?_
  refine s_ ?_
  refine aa_ ?_
  refine ac_ ?_
  refine er_ σ ?_
  exact ⟨rfl,rfl⟩
 ·cases hc1
theorem jE_ {σ:Store}:ACalls Tryz.prog 48 [vNn] σ fun v σ'=>v=vInt 0∧σ=σ':=by
 refine en_ Tryz.func48 Tryz.ntmps48 Tryz.results48 ?_
 refine rr_ ?_
 refine s_ ?_
 refine aa_ ?_
 refine ab_ ?_
 refine rr_ ?_
 iterate 2 refine s_ ?_
 refine aa_ ?_
 refine cd_ (fun hc1=>?_) (fun hc1=>?_)
 ·refine rr_ ?_
  refine s_ ?_
  refine aa_ ?_
  refine ac_ ?_
  refine er_ σ ?_
  exact ⟨rfl,rfl⟩
 ·cases hc1
theorem ih_ {σ:Store}:ACalls Tryz.prog 49 [vNn] σ fun v σ'=>v=vB true∧σ=σ':=by
 refine en_ Tryz.func49 Tryz.ntmps49 Tryz.results49 ?_
 refine rr_ ?_
 refine s_ ?_
 refine aa_ ?_
 refine rr_ ?_
 refine s_ ?_
 refine x_ g_ va_ (jE_) ?_;rintro _ _ ⟨rfl,rfl⟩
 refine s_ ?_
 refine x_ g_ va_ (iF_) ?_;rintro _ _ ⟨rfl,rfl⟩
 iterate 3 refine s_ ?_
 refine aa_ ?_
 refine ac_ ?_
 refine er_ σ ?_
 exact ⟨rfl,rfl⟩
structure Cal where
 kind:Int
 token:ByteArray
 bucket:ByteArray
 key:ByteArray
 value:ByteArray
 ctx:List Seen
 time:Int
@[reducible] def sCal (x:Cal):AVal:=.agg [vInt x.kind,vStr x.token,vStr x.bucket,vStr x.key,vStr x.value,.sl 3 (x.ctx.map aM_) false,vInt x.time]
abbrev Adm0:=Unit
abbrev tC_ (_:Adm0):AVal:=.agg [vInt 0,vE0,vE0,vE0,vE0,vInt 0,vE0,vE0,vE0,vB false]
theorem jh_  {σ:Store} :ACalls Tryz.prog 8 [.lit (.pointer none)] σ fun v σ'=>v=vB false∧σ=σ':=by
 refine en_ Tryz.func8 Tryz.ntmps8 Tryz.results8 ?_
 refine rr_ ?_
 refine s_ ?_
 refine aa_ ?_
 refine rr_ ?_
 iterate 3 refine s_ ?_
 first | refine as_ wn_ rfl ?_ | refine gt_ ?_
 first | refine as_ wn_ rfl ?_ | refine gt_ ?_
 first | refine as_ wn_ rfl ?_ | refine gt_ ?_
 first | refine as_ wn_ rfl ?_ | refine gt_ ?_
 iterate 2 refine s_ ?_
 refine aa_ ?_
 refine ac_ ?_
 refine er_ σ ?_
 exact ⟨rfl,rfl⟩
theorem nT_  {σ:Store} :ACalls Tryz.prog 14 [.lit (.pointer none)] σ fun v σ'=>v=vNil∧σ=σ':=by
 refine en_ Tryz.func14 Tryz.ntmps14 Tryz.results14 ?_
 refine rr_ ?_
 refine s_ ?_
 refine aa_ ?_
 refine ab_ ?_
 refine rr_ ?_
 iterate 2 refine s_ ?_
 refine aa_ ?_
 refine cd_ (fun hc1=>?_) (fun hc1=>?_)
 ·refine rr_ ?_
  refine s_ ?_
  refine aa_ ?_
  refine ac_ ?_
  refine er_ σ ?_
  exact ⟨rfl,rfl⟩
 ·cases hc1
theorem tW_  {σ:Store} :ACalls Tryz.prog 15 [.lit (.pointer none)] σ fun v σ'=>v=vNil∧σ=σ':=by
 refine en_ Tryz.func15 Tryz.ntmps15 Tryz.results15 ?_
 refine rr_ ?_
 refine s_ ?_
 refine aa_ ?_
 refine ab_ ?_
 refine rr_ ?_
 iterate 2 refine s_ ?_
 refine aa_ ?_
 refine cd_ (fun hc1=>?_) (fun hc1=>?_)
 ·refine rr_ ?_
  refine s_ ?_
  refine aa_ ?_
  refine ac_ ?_
  refine er_ σ ?_
  exact ⟨rfl,rfl⟩
 ·cases hc1
theorem lQ_  {σ:Store} :ACalls Tryz.prog 11 [.lit (.pointer none)] σ fun v σ'=>v=.sl 4 [] false∧σ=σ':=by
 refine en_ Tryz.func11 Tryz.ntmps11 Tryz.results11 ?_
 refine rr_ ?_
 refine s_ ?_
 refine aa_ ?_
 refine ab_ ?_
 refine rr_ ?_
 iterate 2 refine s_ ?_
 refine aa_ ?_
 refine cd_ (fun hc1=>?_) (fun hc1=>?_)
 ·refine rr_ ?_
  refine s_ ?_
  refine aa_ ?_
  refine ac_ ?_
  exact a2_ (v:=.sl 4 [] false) (v':=vNil) va_ (.nil _ _) sub_ ⟨rfl,rfl⟩
 ·cases hc1
theorem u9_  {σ:Store} :ACalls Tryz.prog 9 [.lit (.pointer none)] σ fun v σ'=>v=vInt 0∧σ=σ':=by
 refine en_ Tryz.func9 Tryz.ntmps9 Tryz.results9 ?_
 refine rr_ ?_
 refine s_ ?_
 refine aa_ ?_
 refine ab_ ?_
 refine rr_ ?_
 iterate 2 refine s_ ?_
 refine aa_ ?_
 refine cd_ (fun hc1=>?_) (fun hc1=>?_)
 ·refine rr_ ?_
  refine s_ ?_
  refine aa_ ?_
  refine ac_ ?_
  refine er_ σ ?_
  exact ⟨rfl,rfl⟩
 ·cases hc1
theorem ji_ {g:Nat} {σ:Store} (hg:σ.heap g=some (.cells zNd)):ACalls Tryz.prog 8 [.ref g 0] σ fun v σ'=>v=vB false∧σ=σ':=by
 refine en_ Tryz.func8 Tryz.ntmps8 Tryz.results8 ?_
 refine ab_ ?_
 have R:=hg
 refine r_ ?_
 refine s_ ?_
 refine aa_ ?_
 refine ab_ ?_
 have R:=hg
 refine r_ ?_
 iterate 3 refine s_ ?_
 first | refine as_ wn_ rfl ?_ | refine gt_ ?_
 first | refine as_ wn_ rfl ?_ | refine gt_ ?_
 first | refine as_ wn_ rfl ?_ | refine gt_ ?_
 first | refine as_ wn_ rfl ?_ | refine gt_ ?_
 iterate 2 refine s_ ?_
 refine aa_ ?_
 refine ac_ ?_
 refine er_ σ ?_
 exact ⟨rfl,rfl⟩
theorem nU_ {g:Nat} {σ:Store} (hg:σ.heap g=some (.cells zNd)):ACalls Tryz.prog 14 [.ref g 0] σ fun v σ'=>v=vNil∧σ=σ':=by
 refine en_ Tryz.func14 Tryz.ntmps14 Tryz.results14 ?_
 refine ab_ ?_
 have R:=hg
 refine r_ ?_
 refine s_ ?_
 refine aa_ ?_
 refine ab_ ?_
 refine ab_ ?_
 have R:=hg
 refine r_ ?_
 iterate 2 refine s_ ?_
 refine aa_ ?_
 refine cd_ (fun hc1=>?_) (fun hc1=>?_)
 ·cases hc1
 ·refine ae_ ?_
  refine ab_ ?_
  have R:=hg
  refine r_ ?_
  iterate 5 refine s_ ?_
  refine aa_ ?_
  refine ab_ ?_
  have R:=hg
  refine r_ ?_
  iterate 3 refine s_ ?_
  refine st_ ?_
  refine aa_ ?_
  refine ab_ ?_
  have R:=hg
  refine r_ ?_
  iterate 2 refine s_ ?_
  refine aa_ ?_
  refine ac_ ?_
  exact aE_ (σ':=σ) va_ (by rw [Store.set_self hg];exact Store.Wk.refl _) ⟨rfl,rfl⟩
theorem tX_ {g:Nat} {σ:Store} (hg:σ.heap g=some (.cells zNd)):ACalls Tryz.prog 15 [.ref g 0] σ fun v σ'=>v=vNil∧σ=σ':=by
 refine en_ Tryz.func15 Tryz.ntmps15 Tryz.results15 ?_
 refine ab_ ?_
 have R:=hg
 refine r_ ?_
 refine s_ ?_
 refine aa_ ?_
 refine ab_ ?_
 refine ab_ ?_
 have R:=hg
 refine r_ ?_
 iterate 2 refine s_ ?_
 refine aa_ ?_
 refine cd_ (fun hc1=>?_) (fun hc1=>?_)
 ·cases hc1
 ·refine ae_ ?_
  refine ab_ ?_
  have R:=hg
  refine r_ ?_
  iterate 5 refine s_ ?_
  refine aa_ ?_
  refine ab_ ?_
  have R:=hg
  refine r_ ?_
  iterate 3 refine s_ ?_
  refine st_ ?_
  refine aa_ ?_
  refine ab_ ?_
  have R:=hg
  refine r_ ?_
  iterate 2 refine s_ ?_
  refine aa_ ?_
  refine ac_ ?_
  exact aE_ (σ':=σ) va_ (by rw [Store.set_self hg];exact Store.Wk.refl _) ⟨rfl,rfl⟩
theorem lR_ {g:Nat} {σ:Store} (hg:σ.heap g=some (.cells zNd)):ACalls Tryz.prog 11 [.ref g 0] σ fun v σ'=>v=.sl 4 [] false∧σ=σ':=by
 refine en_ Tryz.func11 Tryz.ntmps11 Tryz.results11 ?_
 refine ab_ ?_
 have R:=hg
 refine r_ ?_
 refine s_ ?_
 refine aa_ ?_
 refine ab_ ?_
 refine ab_ ?_
 have R:=hg
 refine r_ ?_
 iterate 2 refine s_ ?_
 refine aa_ ?_
 refine cd_ (fun hc1=>?_) (fun hc1=>?_)
 ·cases hc1
 ·refine ae_ ?_
  refine ab_ ?_
  have R:=hg
  refine r_ ?_
  iterate 4 refine s_ ?_
  refine x_ g_ va_ (mZ_) ?_;rintro _ _ ⟨rfl,rfl⟩
  refine s_ ?_
  refine aa_ ?_
  refine ac_ ?_
  refine er_ σ ?_
  exact ⟨rfl,rfl⟩
theorem vc_ {g:Nat} {σ:Store} (hg:σ.heap g=some (.cells zNd)):ACalls Tryz.prog 9 [.ref g 0] σ fun v σ'=>v=vInt 0∧σ=σ':=by
 refine en_ Tryz.func9 Tryz.ntmps9 Tryz.results9 ?_
 refine ab_ ?_
 have R:=hg
 refine r_ ?_
 refine s_ ?_
 refine aa_ ?_
 refine ab_ ?_
 refine ab_ ?_
 have R:=hg
 refine r_ ?_
 iterate 2 refine s_ ?_
 refine aa_ ?_
 refine cd_ (fun hc1=>?_) (fun hc1=>?_)
 ·cases hc1
 ·refine ae_ ?_
  refine ab_ ?_
  have R:=hg
  refine r_ ?_
  iterate 5 refine s_ ?_
  refine aa_ ?_
  refine ac_ ?_
  refine er_ σ ?_
  exact ⟨rfl,rfl⟩
theorem eF_ {s:ByteArray} {σ:Store}:ACalls Tryz.prog 42 [.lit (.pointer none),vStr s] σ fun v σ'=>v=.tup [vNn,vB false]∧σ=σ':=by
 refine en_ Tryz.func42 Tryz.ntmps42 Tryz.results42 ?_
 refine rr_ ?_
 iterate 2 refine s_ ?_
 refine aa_ ?_
 refine ab_ ?_
 refine rr_ ?_
 iterate 2 refine s_ ?_
 refine aa_ ?_
 refine cd_ (fun hc1=>?_) (fun hc1=>?_)
 ·refine rr_ ?_
  iterate 2 refine s_ ?_
  refine aa_ ?_
  refine ac_ ?_
  refine er_ σ ?_
  exact ⟨rfl,rfl⟩
 ·cases hc1
theorem eG_ {g:Nat} {s:ByteArray} {σ:Store} (hg:σ.heap g=some (.cells zNd)):ACalls Tryz.prog 42 [.ref g 0,vStr s] σ fun v σ'=>v=.tup [vNn,vB false]∧σ=σ':=by
 refine en_ Tryz.func42 Tryz.ntmps42 Tryz.results42 ?_
 refine ab_ ?_
 have R:=hg
 refine r_ ?_
 iterate 2 refine s_ ?_
 refine aa_ ?_
 refine ab_ ?_
 refine ab_ ?_
 have R:=hg
 refine r_ ?_
 iterate 2 refine s_ ?_
 refine aa_ ?_
 refine cd_ (fun hc1=>?_) (fun hc1=>?_)
 ·cases hc1
 ·refine ae_ ?_
  refine ab_ ?_
  have R:=hg
  refine r_ ?_
  iterate 11 refine s_ ?_
  refine aa_ ?_
  refine ab_ ?_
  have R:=hg
  refine r_ ?_
  iterate 4 refine s_ ?_
  refine aa_ ?_
  refine ac_ ?_
  refine er_ σ ?_
  exact ⟨rfl,rfl⟩
theorem gj_  {s:ByteArray} {σ:Store} :ACalls Tryz.prog 70 [.lit (.pointer none),vStr s] σ fun v σ'=>v=vNn∧σ=σ':=by
 refine en_ Tryz.func70 Tryz.ntmps70 Tryz.results70 ?_
 refine rr_ ?_
 refine s_ ?_
 refine aa_ ?_
 refine ab_ ?_
 refine rr_ ?_
 refine s_ ?_
 refine x_ g_ va_ (jh_) ?_;rintro _ _ ⟨rfl,rfl⟩
 iterate 2 refine s_ ?_
 first | refine as_ wn_ rfl ?_ | refine gf_ ?_
 first | refine as_ wn_ rfl ?_ | refine bi_ rfl rfl v_ rfl (fun hb=>aw_ (by rfl) (by rfl) (.inr ⟨by rfl,by rfl,by rfl⟩) g_ cg_ (cF_)) ?_
 first | refine as_ wn_ rfl ?_ | refine gf_ ?_
 refine s_ ?_
 refine aa_ ?_
 refine cd_ (fun hc1=>?_) (fun hc1=>?_)
 ·refine rr_ ?_
  refine s_ ?_
  refine aa_ ?_
  refine ac_ ?_
  refine er_ σ ?_
  exact ⟨rfl,rfl⟩
 ·simp at hc1
theorem s8_  {s:ByteArray} {σ:Store} :ACalls Tryz.prog 10 [.lit (.pointer none),vStr s] σ fun v σ'=>v=vInt 0∧σ=σ':=by
 refine en_ Tryz.func10 Tryz.ntmps10 Tryz.results10 ?_
 refine rr_ ?_
 refine s_ ?_
 refine aa_ ?_
 refine rr_ ?_
 iterate 2 refine s_ ?_
 refine x_ g_ va_ (eF_) ?_;rintro _ _ ⟨rfl,rfl⟩
 iterate 5 refine s_ ?_
 refine aa_ ?_
 refine ab_ ?_
 refine rr_ ?_
 iterate 2 refine s_ ?_
 refine aa_ ?_
 refine cd_ (fun hc2=>?_) (fun hc2=>?_)
 ·refine rr_ ?_
  refine s_ ?_
  refine aa_ ?_
  refine ac_ ?_
  refine er_ σ ?_
  exact ⟨rfl,rfl⟩
 ·simp at hc2
theorem qS_  {σ:Store} :ACalls Tryz.prog 35 [.lit (.pointer none)] σ fun v σ'=>v=.tup []∧σ=σ':=by
 refine en_ Tryz.func35 Tryz.ntmps35 Tryz.results35 ?_
 refine rr_ ?_
 iterate 3 refine s_ ?_
 first | refine as_ wn_ rfl ?_ | refine gt_ ?_
 first | refine as_ wn_ rfl ?_ | refine gt_ ?_
 first | refine as_ wn_ rfl ?_ | refine gt_ ?_
 first | refine as_ wn_ rfl ?_ | refine gt_ ?_
 first | refine as_ wn_ rfl ?_ | refine gt_ ?_
 iterate 2 refine s_ ?_
 first | refine as_ wn_ rfl ?_ | refine gt_ ?_
 first | refine as_ wn_ rfl ?_ | refine gt_ ?_
 first | refine as_ wn_ rfl ?_ | refine gt_ ?_
 first | refine as_ wn_ rfl ?_ | refine gt_ ?_
 first | refine as_ wn_ rfl ?_ | refine gt_ ?_
 refine s_ ?_
 refine aa_ ?_
 refine cd_ (fun hc0=>?_) (fun hc0=>?_)
 ·simp at hc0
 ·refine ae_ ?_
  refine aD_ (σ':=σ) v_ sub_ ?_
  exact ⟨rfl,rfl⟩
theorem tU_  {σ:Store} :ACalls Tryz.prog 33 [.lit (.pointer none)] σ fun v σ'=>v=.tup []∧σ=σ':=by
 refine en_ Tryz.func33 Tryz.ntmps33 Tryz.results33 ?_
 refine ab_ ?_
 refine rr_ ?_
 refine s_ ?_
 refine x_ g_ va_ (jh_) ?_;rintro _ _ ⟨rfl,rfl⟩
 refine s_ ?_
 refine aa_ ?_
 refine cd_ (fun hc0=>?_) (fun hc0=>?_)
 ·refine ac_ ?_
  refine er_ σ ?_
  exact ⟨rfl,rfl⟩
 ·simp at hc0
theorem pH_  {k:Int} {σ:Store} :ACalls Tryz.prog 34 [.lit (.pointer none),vInt k] σ fun v σ'=>v=.tup []∧σ=σ':=by
 refine en_ Tryz.func34 Tryz.ntmps34 Tryz.results34 ?_
 refine ab_ ?_
 refine rr_ ?_
 refine s_ ?_
 refine x_ g_ va_ (jh_) ?_;rintro _ _ ⟨rfl,rfl⟩
 refine s_ ?_
 refine aa_ ?_
 refine cd_ (fun hc0=>?_) (fun hc0=>?_)
 ·refine ac_ ?_
  refine er_ σ ?_
  exact ⟨rfl,rfl⟩
 ·simp at hc0
theorem ky_  {s:ByteArray} {σ:Store} :ACalls Tryz.prog 32 [.lit (.pointer none),vStr s] σ fun v σ'=>v=.tup []∧σ=σ':=by
 refine en_ Tryz.func32 Tryz.ntmps32 Tryz.results32 ?_
 refine ab_ ?_
 refine rr_ ?_
 refine s_ ?_
 refine x_ g_ va_ (jh_) ?_;rintro _ _ ⟨rfl,rfl⟩
 refine s_ ?_
 first | refine as_ wn_ rfl ?_ | refine gt_ ?_
 first | refine as_ wn_ rfl ?_ | refine gt_ ?_
 refine s_ ?_
 refine aa_ ?_
 refine cd_ (fun hc0=>?_) (fun hc0=>?_)
 ·simp at hc0
 ·refine ae_ ?_
  refine rr_ ?_
  iterate 2 refine s_ ?_
  refine x_ g_ va_ (eF_) ?_;rintro _ _ ⟨rfl,rfl⟩
  iterate 5 refine s_ ?_
  refine aa_ ?_
  refine rr_ ?_
  iterate 2 refine s_ ?_
  first | refine as_ wn_ rfl ?_ | refine gt_ ?_
  first | refine as_ wn_ rfl ?_ | refine gt_ ?_
  first | refine as_ wn_ rfl ?_ | refine gt_ ?_
  first | refine as_ wn_ rfl ?_ | refine gt_ ?_
  refine s_ ?_
  refine aa_ ?_
  refine cd_ (fun hc4=>?_) (fun hc4=>?_)
  ·simp at hc4
  ·refine ae_ ?_
   refine aD_ (σ':=σ) v_ sub_ ?_
   exact ⟨rfl,rfl⟩
theorem qX_  {s:ByteArray} {σ:Store} :ACalls Tryz.prog 16 [.lit (.pointer none),vStr s] σ fun v σ'=>v=vB false∧σ=σ':=by
 refine en_ Tryz.func16 Tryz.ntmps16 Tryz.results16 ?_
 refine rr_ ?_
 refine s_ ?_
 refine aa_ ?_
 refine ab_ ?_
 refine rr_ ?_
 iterate 3 refine s_ ?_
 first | refine as_ wn_ rfl ?_ | refine gt_ ?_
 first | refine as_ wn_ rfl ?_ | refine gt_ ?_
 refine s_ ?_
 refine aa_ ?_
 refine cd_ (fun hc1=>?_) (fun hc1=>?_)
 ·simp at hc1
 ·refine ae_ ?_
  refine rr_ ?_
  iterate 2 refine s_ ?_
  refine x_ g_ va_ (eF_) ?_;rintro _ _ ⟨rfl,rfl⟩
  iterate 5 refine s_ ?_
  refine aa_ ?_
  refine rr_ ?_
  iterate 2 refine s_ ?_
  first | refine as_ wn_ rfl ?_ | refine gt_ ?_
  first | refine as_ wn_ rfl ?_ | refine gt_ ?_
  first | refine as_ wn_ rfl ?_ | refine gt_ ?_
  first | refine as_ wn_ rfl ?_ | refine gt_ ?_
  first | refine as_ wn_ rfl ?_ | refine bQ_ rfl rfl v_ rfl (fun hb=>aw_ (by rfl) (by rfl) (.inr ⟨by rfl,by rfl,by rfl⟩) g_ cg_ (ih_)) ?_
  first | refine as_ wn_ rfl ?_ | refine gt_ ?_
  first | refine as_ wn_ rfl ?_ | refine gt_ ?_
  first | refine as_ wn_ rfl ?_ | refine bJ_ rfl rfl v_ rfl vg_ ?_
  first | refine as_ wn_ rfl ?_ | refine bJ_ rfl rfl v_ rfl vg_ ?_
  first | refine as_ wn_ rfl ?_ | refine bJ_ rfl rfl v_ rfl vg_ ?_
  first | refine as_ wn_ rfl ?_ | refine bJ_ rfl rfl v_ rfl vg_ ?_
  first | refine as_ wn_ rfl ?_ | refine bJ_ rfl rfl v_ rfl vg_ ?_
  first | refine as_ wn_ rfl ?_ | refine bJ_ rfl rfl v_ rfl vg_ ?_
  first | refine as_ wn_ rfl ?_ | refine gt_ ?_
  iterate 2 refine s_ ?_
  refine aa_ ?_
  refine ac_ ?_
  refine er_ σ ?_
  exact ⟨rfl,rfl⟩
theorem tq_  {s:ByteArray} {k:Int} {σ:Store} :ACalls Tryz.prog 36 [.lit (.pointer none),vStr s,vInt k] σ fun v σ'=>v=.tup []∧σ=σ':=by
 refine en_ Tryz.func36 Tryz.ntmps36 Tryz.results36 ?_
 refine rr_ ?_
 iterate 2 refine s_ ?_
 refine x_ g_ va_ (gj_) ?_;rintro _ _ ⟨rfl,rfl⟩
 refine s_ ?_
 refine aa_ ?_
 refine rr_ ?_
 iterate 2 refine s_ ?_
 refine aa_ ?_
 refine cd_ (fun hc1=>?_) (fun hc1=>?_)
 ·simp at hc1
 ·refine ae_ ?_
  refine aD_ (σ':=σ) v_ sub_ ?_
  exact ⟨rfl,rfl⟩
theorem lH_  {s:ByteArray} {σ:Store} :ACalls Tryz.prog 37 [.lit (.pointer none),vStr s] σ fun v σ'=>v=.tup []∧σ=σ':=by
 refine en_ Tryz.func37 Tryz.ntmps37 Tryz.results37 ?_
 refine rr_ ?_
 iterate 2 refine s_ ?_
 refine x_ g_ va_ (gj_) ?_;rintro _ _ ⟨rfl,rfl⟩
 refine s_ ?_
 refine aa_ ?_
 refine rr_ ?_
 iterate 2 refine s_ ?_
 refine aa_ ?_
 refine cd_ (fun hc1=>?_) (fun hc1=>?_)
 ·simp at hc1
 ·refine ae_ ?_
  refine aD_ (σ':=σ) v_ sub_ ?_
  exact ⟨rfl,rfl⟩
theorem jF_  {s t:ByteArray} {σ:Store} :ACalls Tryz.prog 38 [.lit (.pointer none),vStr s,vStr t] σ fun v σ'=>v=.tup []∧σ=σ':=by
 refine en_ Tryz.func38 Tryz.ntmps38 Tryz.results38 ?_
 refine rr_ ?_
 iterate 2 refine s_ ?_
 refine x_ g_ va_ (gj_) ?_;rintro _ _ ⟨rfl,rfl⟩
 refine s_ ?_
 refine aa_ ?_
 refine rr_ ?_
 iterate 2 refine s_ ?_
 refine aa_ ?_
 refine cd_ (fun hc1=>?_) (fun hc1=>?_)
 ·simp at hc1
 ·refine ae_ ?_
  refine aD_ (σ':=σ) v_ sub_ ?_
  exact ⟨rfl,rfl⟩
theorem sz_  {s:ByteArray} {σ:Store} :ACalls Tryz.prog 39 [.lit (.pointer none),vStr s] σ fun v σ'=>v=.tup []∧σ=σ':=by
 refine en_ Tryz.func39 Tryz.ntmps39 Tryz.results39 ?_
 refine rr_ ?_
 iterate 2 refine s_ ?_
 refine x_ g_ va_ (gj_) ?_;rintro _ _ ⟨rfl,rfl⟩
 refine s_ ?_
 refine aa_ ?_
 refine ab_ ?_
 refine rr_ ?_
 iterate 2 refine s_ ?_
 refine aa_ ?_
 refine cd_ (fun hc1=>?_) (fun hc1=>?_)
 ·refine ac_ ?_
  refine er_ σ ?_
  exact ⟨rfl,rfl⟩
 ·simp at hc1
theorem no_  {s:ByteArray} {σ:Store} :ACalls Tryz.prog 40 [.lit (.pointer none),vStr s] σ fun v σ'=>v=.tup []∧σ=σ':=by
 refine en_ Tryz.func40 Tryz.ntmps40 Tryz.results40 ?_
 refine rr_ ?_
 refine s_ ?_
 refine x_ g_ va_ (jh_) ?_;rintro _ _ ⟨rfl,rfl⟩
 refine aa_ ?_
 refine cd_ (fun hc0=>?_) (fun hc0=>?_)
 ·cases hc0
 ·refine ae_ ?_
  refine aD_ (σ':=σ) v_ sub_ ?_
  exact ⟨rfl,rfl⟩
theorem gk_ {g:Nat} {s:ByteArray} {σ:Store} (hg:σ.heap g=some (.cells zNd)):ACalls Tryz.prog 70 [.ref g 0,vStr s] σ fun v σ'=>v=vNn∧σ=σ':=by
 refine en_ Tryz.func70 Tryz.ntmps70 Tryz.results70 ?_
 refine rr_ ?_
 refine s_ ?_
 refine aa_ ?_
 refine ab_ ?_
 refine rr_ ?_
 refine s_ ?_
 refine x_ g_ va_ (ji_ hg) ?_;rintro _ _ ⟨rfl,rfl⟩
 iterate 2 refine s_ ?_
 first | refine as_ wn_ rfl ?_ | refine gf_ ?_
 first | refine as_ wn_ rfl ?_ | refine bi_ rfl rfl v_ rfl (fun hb=>aw_ (by rfl) (by rfl) (.inr ⟨by rfl,by rfl,by rfl⟩) g_ cg_ (cF_)) ?_
 first | refine as_ wn_ rfl ?_ | refine gf_ ?_
 refine s_ ?_
 refine aa_ ?_
 refine cd_ (fun hc1=>?_) (fun hc1=>?_)
 ·refine rr_ ?_
  refine s_ ?_
  refine aa_ ?_
  refine ac_ ?_
  refine er_ σ ?_
  exact ⟨rfl,rfl⟩
 ·simp at hc1
theorem s9_ {g:Nat} {s:ByteArray} {σ:Store} (hg:σ.heap g=some (.cells zNd)):ACalls Tryz.prog 10 [.ref g 0,vStr s] σ fun v σ'=>v=vInt 0∧σ=σ':=by
 refine en_ Tryz.func10 Tryz.ntmps10 Tryz.results10 ?_
 refine rr_ ?_
 refine s_ ?_
 refine aa_ ?_
 refine rr_ ?_
 iterate 2 refine s_ ?_
 refine x_ g_ va_ (eG_ hg) ?_;rintro _ _ ⟨rfl,rfl⟩
 iterate 5 refine s_ ?_
 refine aa_ ?_
 refine ab_ ?_
 refine rr_ ?_
 iterate 2 refine s_ ?_
 refine aa_ ?_
 refine cd_ (fun hc2=>?_) (fun hc2=>?_)
 ·refine rr_ ?_
  refine s_ ?_
  refine aa_ ?_
  refine ac_ ?_
  refine er_ σ ?_
  exact ⟨rfl,rfl⟩
 ·simp at hc2
theorem qT_ {g:Nat} {σ:Store} (hg:σ.heap g=some (.cells zNd)):ACalls Tryz.prog 35 [.ref g 0] σ fun v σ'=>v=.tup []∧σ=σ':=by
 refine en_ Tryz.func35 Tryz.ntmps35 Tryz.results35 ?_
 refine ab_ ?_
 have R:=hg
 refine r_ ?_
 iterate 3 refine s_ ?_
 first | refine as_ wn_ rfl ?_ | refine gt_ ?_
 first | refine as_ wn_ rfl ?_ | refine gt_ ?_
 first | refine as_ wn_ rfl ?_ | refine gt_ ?_
 first | refine as_ wn_ rfl ?_ | refine gt_ ?_
 first | refine as_ wn_ rfl ?_ | refine gt_ ?_
 iterate 2 refine s_ ?_
 first | refine as_ wn_ rfl ?_ | refine gt_ ?_
 first | refine as_ wn_ rfl ?_ | refine gt_ ?_
 first | refine as_ wn_ rfl ?_ | refine gt_ ?_
 first | refine as_ wn_ rfl ?_ | refine gt_ ?_
 first | refine as_ wn_ rfl ?_ | refine gt_ ?_
 refine s_ ?_
 refine aa_ ?_
 refine cd_ (fun hc0=>?_) (fun hc0=>?_)
 ·simp at hc0
 ·refine ae_ ?_
  refine aD_ (σ':=σ) v_ sub_ ?_
  exact ⟨rfl,rfl⟩
theorem tV_ {g:Nat} {σ:Store} (hg:σ.heap g=some (.cells zNd)):ACalls Tryz.prog 33 [.ref g 0] σ fun v σ'=>v=.tup []∧σ=σ':=by
 refine en_ Tryz.func33 Tryz.ntmps33 Tryz.results33 ?_
 refine ab_ ?_
 refine rr_ ?_
 refine s_ ?_
 refine x_ g_ va_ (ji_ hg) ?_;rintro _ _ ⟨rfl,rfl⟩
 refine s_ ?_
 refine aa_ ?_
 refine cd_ (fun hc0=>?_) (fun hc0=>?_)
 ·refine ac_ ?_
  refine er_ σ ?_
  exact ⟨rfl,rfl⟩
 ·simp at hc0
theorem pI_ {g:Nat} {k:Int} {σ:Store} (hg:σ.heap g=some (.cells zNd)):ACalls Tryz.prog 34 [.ref g 0,vInt k] σ fun v σ'=>v=.tup []∧σ=σ':=by
 refine en_ Tryz.func34 Tryz.ntmps34 Tryz.results34 ?_
 refine ab_ ?_
 refine rr_ ?_
 refine s_ ?_
 refine x_ g_ va_ (ji_ hg) ?_;rintro _ _ ⟨rfl,rfl⟩
 refine s_ ?_
 refine aa_ ?_
 refine cd_ (fun hc0=>?_) (fun hc0=>?_)
 ·refine ac_ ?_
  refine er_ σ ?_
  exact ⟨rfl,rfl⟩
 ·simp at hc0
theorem kz_ {g:Nat} {s:ByteArray} {σ:Store} (hg:σ.heap g=some (.cells zNd)):ACalls Tryz.prog 32 [.ref g 0,vStr s] σ fun v σ'=>v=.tup []∧σ=σ':=by
 refine en_ Tryz.func32 Tryz.ntmps32 Tryz.results32 ?_
 refine ab_ ?_
 refine rr_ ?_
 refine s_ ?_
 refine x_ g_ va_ (ji_ hg) ?_;rintro _ _ ⟨rfl,rfl⟩
 refine s_ ?_
 first | refine as_ wn_ rfl ?_ | refine gt_ ?_
 first | refine as_ wn_ rfl ?_ | refine gt_ ?_
 refine s_ ?_
 refine aa_ ?_
 refine cd_ (fun hc0=>?_) (fun hc0=>?_)
 ·simp at hc0
 ·refine ae_ ?_
  refine rr_ ?_
  iterate 2 refine s_ ?_
  refine x_ g_ va_ (eG_ hg) ?_;rintro _ _ ⟨rfl,rfl⟩
  iterate 5 refine s_ ?_
  refine aa_ ?_
  refine rr_ ?_
  iterate 2 refine s_ ?_
  first | refine as_ wn_ rfl ?_ | refine gt_ ?_
  first | refine as_ wn_ rfl ?_ | refine gt_ ?_
  first | refine as_ wn_ rfl ?_ | refine gt_ ?_
  first | refine as_ wn_ rfl ?_ | refine gt_ ?_
  refine s_ ?_
  refine aa_ ?_
  refine cd_ (fun hc4=>?_) (fun hc4=>?_)
  ·simp at hc4
  ·refine ae_ ?_
   refine aD_ (σ':=σ) v_ sub_ ?_
   exact ⟨rfl,rfl⟩
theorem qY_ {g:Nat} {s:ByteArray} {σ:Store} (hg:σ.heap g=some (.cells zNd)):ACalls Tryz.prog 16 [.ref g 0,vStr s] σ fun v σ'=>v=vB false∧σ=σ':=by
 refine en_ Tryz.func16 Tryz.ntmps16 Tryz.results16 ?_
 refine ab_ ?_
 have R:=hg
 refine r_ ?_
 refine s_ ?_
 refine aa_ ?_
 refine ab_ ?_
 refine ab_ ?_
 have R:=hg
 refine r_ ?_
 iterate 3 refine s_ ?_
 first | refine as_ wn_ rfl ?_ | refine gt_ ?_
 first | refine as_ wn_ rfl ?_ | refine gt_ ?_
 refine s_ ?_
 refine aa_ ?_
 refine cd_ (fun hc1=>?_) (fun hc1=>?_)
 ·refine ab_ ?_
  have R:=hg
  refine r_ ?_
  iterate 4 refine s_ ?_
  refine x_ g_ va_ (ih_) ?_;rintro _ _ ⟨rfl,rfl⟩
  iterate 2 refine s_ ?_
  refine aa_ ?_
  refine ac_ ?_
  refine er_ σ ?_
  exact ⟨rfl,rfl⟩
 ·refine ae_ ?_
  refine ab_ ?_
  have R:=hg
  refine r_ ?_
  iterate 2 refine s_ ?_
  refine x_ g_ va_ (eG_ hg) ?_;rintro _ _ ⟨rfl,rfl⟩
  iterate 5 refine s_ ?_
  refine aa_ ?_
  refine ab_ ?_
  have R:=hg
  refine r_ ?_
  iterate 2 refine s_ ?_
  first | refine as_ wn_ rfl ?_ | refine gt_ ?_
  first | refine as_ wn_ rfl ?_ | refine gt_ ?_
  first | refine as_ wn_ rfl ?_ | refine gt_ ?_
  first | refine as_ wn_ rfl ?_ | refine gt_ ?_
  first | refine as_ wn_ rfl ?_ | refine bQ_ rfl rfl v_ rfl (fun hb=>aw_ (by rfl) (by rfl) (.inr ⟨by rfl,by rfl,by rfl⟩) g_ cg_ (ih_)) ?_
  first | refine as_ wn_ rfl ?_ | refine gt_ ?_
  first | refine as_ wn_ rfl ?_ | refine gt_ ?_
  first | refine as_ wn_ rfl ?_ | refine bJ_ rfl rfl v_ rfl vg_ ?_
  first | refine as_ wn_ rfl ?_ | refine bJ_ rfl rfl v_ rfl vg_ ?_
  first | refine as_ wn_ rfl ?_ | refine bJ_ rfl rfl v_ rfl vg_ ?_
  first | refine as_ wn_ rfl ?_ | refine bJ_ rfl rfl v_ rfl vg_ ?_
  first | refine as_ wn_ rfl ?_ | refine bJ_ rfl rfl v_ rfl vg_ ?_
  first | refine as_ wn_ rfl ?_ | refine bJ_ rfl rfl v_ rfl vg_ ?_
  first | refine as_ wn_ rfl ?_ | refine gt_ ?_
  iterate 2 refine s_ ?_
  refine aa_ ?_
  refine ac_ ?_
  refine er_ σ ?_
  exact ⟨rfl,rfl⟩
theorem tr_ {g:Nat} {s:ByteArray} {k:Int} {σ:Store} (hg:σ.heap g=some (.cells zNd)):ACalls Tryz.prog 36 [.ref g 0,vStr s,vInt k] σ fun v σ'=>v=.tup []∧σ=σ':=by
 refine en_ Tryz.func36 Tryz.ntmps36 Tryz.results36 ?_
 refine rr_ ?_
 iterate 2 refine s_ ?_
 refine x_ g_ va_ (gk_ hg) ?_;rintro _ _ ⟨rfl,rfl⟩
 refine s_ ?_
 refine aa_ ?_
 refine rr_ ?_
 iterate 2 refine s_ ?_
 refine aa_ ?_
 refine cd_ (fun hc1=>?_) (fun hc1=>?_)
 ·simp at hc1
 ·refine ae_ ?_
  refine aD_ (σ':=σ) v_ sub_ ?_
  exact ⟨rfl,rfl⟩
theorem lI_ {g:Nat} {s:ByteArray} {σ:Store} (hg:σ.heap g=some (.cells zNd)):ACalls Tryz.prog 37 [.ref g 0,vStr s] σ fun v σ'=>v=.tup []∧σ=σ':=by
 refine en_ Tryz.func37 Tryz.ntmps37 Tryz.results37 ?_
 refine rr_ ?_
 iterate 2 refine s_ ?_
 refine x_ g_ va_ (gk_ hg) ?_;rintro _ _ ⟨rfl,rfl⟩
 refine s_ ?_
 refine aa_ ?_
 refine rr_ ?_
 iterate 2 refine s_ ?_
 refine aa_ ?_
 refine cd_ (fun hc1=>?_) (fun hc1=>?_)
 ·simp at hc1
 ·refine ae_ ?_
  refine aD_ (σ':=σ) v_ sub_ ?_
  exact ⟨rfl,rfl⟩
theorem jG_ {g:Nat} {s t:ByteArray} {σ:Store} (hg:σ.heap g=some (.cells zNd)):ACalls Tryz.prog 38 [.ref g 0,vStr s,vStr t] σ fun v σ'=>v=.tup []∧σ=σ':=by
 refine en_ Tryz.func38 Tryz.ntmps38 Tryz.results38 ?_
 refine rr_ ?_
 iterate 2 refine s_ ?_
 refine x_ g_ va_ (gk_ hg) ?_;rintro _ _ ⟨rfl,rfl⟩
 refine s_ ?_
 refine aa_ ?_
 refine rr_ ?_
 iterate 2 refine s_ ?_
 refine aa_ ?_
 refine cd_ (fun hc1=>?_) (fun hc1=>?_)
 ·simp at hc1
 ·refine ae_ ?_
  refine aD_ (σ':=σ) v_ sub_ ?_
  exact ⟨rfl,rfl⟩
theorem sA_ {g:Nat} {s:ByteArray} {σ:Store} (hg:σ.heap g=some (.cells zNd)):ACalls Tryz.prog 39 [.ref g 0,vStr s] σ fun v σ'=>v=.tup []∧σ=σ':=by
 refine en_ Tryz.func39 Tryz.ntmps39 Tryz.results39 ?_
 refine rr_ ?_
 iterate 2 refine s_ ?_
 refine x_ g_ va_ (gk_ hg) ?_;rintro _ _ ⟨rfl,rfl⟩
 refine s_ ?_
 refine aa_ ?_
 refine ab_ ?_
 refine rr_ ?_
 iterate 2 refine s_ ?_
 refine aa_ ?_
 refine cd_ (fun hc1=>?_) (fun hc1=>?_)
 ·refine ac_ ?_
  refine er_ σ ?_
  exact ⟨rfl,rfl⟩
 ·simp at hc1
theorem np_ {g:Nat} {s:ByteArray} {σ:Store} (hg:σ.heap g=some (.cells zNd)):ACalls Tryz.prog 40 [.ref g 0,vStr s] σ fun v σ'=>v=.tup []∧σ=σ':=by
 refine en_ Tryz.func40 Tryz.ntmps40 Tryz.results40 ?_
 refine rr_ ?_
 refine s_ ?_
 refine x_ g_ va_ (ji_ hg) ?_;rintro _ _ ⟨rfl,rfl⟩
 refine aa_ ?_
 refine cd_ (fun hc0=>?_) (fun hc0=>?_)
 ·cases hc0
 ·refine ae_ ?_
  refine aD_ (σ':=σ) v_ sub_ ?_
  exact ⟨rfl,rfl⟩
theorem po_ {a:Adm0} {σ:Store}:ACalls Tryz.prog 17 [.lit (.pointer none),tC_ a] σ fun v σ'=>v=vInt 14∧σ=σ':=by
 refine en_ Tryz.func17 Tryz.ntmps17 Tryz.results17 ?_
 refine rr_ ?_
 refine bx_ fun o3 ho3=>?_
 repeat (rw [ad_] at ho3;obtain ⟨_,ho3⟩:=ho3)
 refine s_ ?_
 refine aa_ ?_
 refine ab_ ?_
 refine rr_ ?_
 refine s_ ?_
 refine x_ g_ va_ (jh_) ?_;rintro _ _ ⟨rfl,rfl⟩
 refine s_ ?_
 refine aa_ ?_
 refine cd_ (fun hc1=>?_) (fun hc1=>?_)
 ·refine rr_ ?_
  refine s_ ?_
  refine aa_ ?_
  refine ac_ ?_
  refine er_ σ ?_
  exact ⟨rfl,rfl⟩
 ·simp at hc1
theorem pp_ {g:Nat} {a:Adm0} {σ:Store} (hg:σ.heap g=some (.cells zNd)):ACalls Tryz.prog 17 [.ref g 0,tC_ a] σ fun v σ'=>v=vInt 14∧σ=σ':=by
 refine en_ Tryz.func17 Tryz.ntmps17 Tryz.results17 ?_
 refine ab_ ?_
 have R:=hg
 refine r_ ?_
 refine bx_ fun o3 ho3=>?_
 repeat (rw [ad_] at ho3;obtain ⟨_,ho3⟩:=ho3)
 refine s_ ?_
 refine aa_ ?_
 have gg:=an_ hg ho3
 refine ab_ ?_
 refine ab_ ?_
 have R:=hg
 refine r_ ?_
 refine s_ ?_
 refine x_ g_ va_ (ji_ h_) ?_;rintro _ _ ⟨rfl,rfl⟩
 refine s_ ?_
 refine aa_ ?_
 refine cd_ (fun hc1=>?_) (fun hc1=>?_)
 ·refine ab_ ?_
  have R:=hg
  refine r_ ?_
  refine s_ ?_
  refine aa_ ?_
  refine ac_ ?_
  refine er_ σ ?_
  exact ⟨rfl,rfl⟩
 ·simp at hc1
theorem sa_ {s:ByteArray} {c:Cal} {σ:Store}:ACalls Tryz.prog 25 [.lit (.pointer none),vStr s,sCal c] σ fun v σ'=>v=vInt 0∧σ=σ':=by
 refine en_ Tryz.func25 Tryz.ntmps25 Tryz.results25 ?_
 refine rr_ ?_
 refine bx_ fun o5 ho5=>?_
 repeat (rw [ad_] at ho5;obtain ⟨_,ho5⟩:=ho5)
 refine s_ ?_
 refine aa_ ?_
 refine rr_ ?_
 iterate 2 refine s_ ?_
 refine x_ g_ va_ (gj_) ?_;rintro _ _ ⟨rfl,rfl⟩
 refine s_ ?_
 refine aa_ ?_
 refine ab_ ?_
 refine rr_ ?_
 iterate 2 refine s_ ?_
 refine aa_ ?_
 refine cd_ (fun hc2=>?_) (fun hc2=>?_)
 ·refine rr_ ?_
  refine s_ ?_
  refine aa_ ?_
  refine ac_ ?_
  refine er_ σ ?_
  exact ⟨rfl,rfl⟩
 ·simp at hc2
theorem sb_ {g:Nat} {s:ByteArray} {c:Cal} {σ:Store} (hg:σ.heap g=some (.cells zNd)):ACalls Tryz.prog 25 [.ref g 0,vStr s,sCal c] σ fun v σ'=>v=vInt 0∧σ=σ':=by
 refine en_ Tryz.func25 Tryz.ntmps25 Tryz.results25 ?_
 refine ab_ ?_
 have R:=hg
 refine r_ ?_
 refine bx_ fun o5 ho5=>?_
 repeat (rw [ad_] at ho5;obtain ⟨_,ho5⟩:=ho5)
 refine s_ ?_
 refine aa_ ?_
 have gg:=an_ hg ho5
 refine ab_ ?_
 have R:=hg
 refine r_ ?_
 iterate 2 refine s_ ?_
 refine x_ g_ va_ (gk_ h_) ?_;rintro _ _ ⟨rfl,rfl⟩
 refine s_ ?_
 refine aa_ ?_
 refine ab_ ?_
 refine ab_ ?_
 have R:=hg
 refine r_ ?_
 iterate 2 refine s_ ?_
 refine aa_ ?_
 refine cd_ (fun hc2=>?_) (fun hc2=>?_)
 ·refine ab_ ?_
  have R:=hg
  refine r_ ?_
  refine s_ ?_
  refine aa_ ?_
  refine ac_ ?_
  refine er_ σ ?_
  exact ⟨rfl,rfl⟩
 ·simp at hc2
theorem me_ {s:ByteArray} {b:List UInt8} {σ:Store} (hb:b.length≤4000):ACalls Tryz.prog 31 [.lit (.pointer none),vStr s,vStr (B b)] σ fun v σ'=>v=.tup []∧σ=σ':=by
 refine en_ Tryz.func31 Tryz.ntmps31 Tryz.results31 ?_
 refine rr_ ?_
 refine s_ ?_
 refine x_ g_ va_ (u4_ hb) ?_;rintro _ _ ⟨rfl,rfl⟩
 iterate 3 refine s_ ?_
 refine lc_ fun o6 ho6=>?_
 repeat (rw [ad_] at ho6;obtain ⟨_,ho6⟩:=ho6)
 refine st_ ?_
 refine s_ ?_
 refine aa_ ?_
 refine ah_ ?_
 refine ab_ ?_
 refine aL_ (.op 0 0 (.op 1 1 (.op 2 0 (.op 3 0 (.op 4 0 (.op 5 0 (.op 6 0 (.op 7 0 (.op 8 0 (.op 9 0 (.op 10 0 (.op 11 0 (.op 12 0 (.op 13 0 (.op 14 0 (.op 15 0 (.op 16 0 .nil))))))))))))))))) Tryz.mixed kr_ ?_
 refine ds_ ?_
 refine dx_ o_ g_ va_ (jh_) ?_;rintro _ _ ⟨rfl,rfl⟩;refine ⟨sub_,?_⟩
 iterate 2 refine ds_ ?_
 first | refine db_ o_ (by rfl) wn_ ?_ | refine dgf_ ?_
 first | refine db_ o_ (by rfl) wn_ ?_ | refine dgf_ ?_
 iterate 2 refine ds_ ?_
 first | refine db_ o_ (by rfl) wn_ ?_ | refine dgf_ ?_
 first | refine db_ o_ (by rfl) wn_ ?_ | refine dgf_ ?_
 first | refine db_ o_ (by rfl) wn_ ?_ | refine dgf_ ?_
 first | refine db_ o_ (by rfl) wn_ ?_ | refine dgf_ ?_
 first | refine db_ o_ (by rfl) wn_ ?_ | refine dgf_ ?_
 first | refine db_ o_ (by rfl) wn_ ?_ | refine dgf_ ?_
 first | refine db_ o_ (by rfl) wn_ ?_ | refine dgf_ ?_
 iterate 2 refine ds_ ?_
 refine aG_ ?_
 refine cd_ (fun hc4=>?_) (fun hc4=>?_)
 ·refine ae_ ?_
  refine aD_ (σ':=σ) v_ sub_ ?_
  exact ⟨rfl,rfl⟩
 ·simp at hc4
theorem mf_ {g:Nat} {s:ByteArray} {b:List UInt8} {σ:Store} (hg:σ.heap g=some (.cells zNd)) (hb:b.length≤4000):ACalls Tryz.prog 31 [.ref g 0,vStr s,vStr (B b)] σ fun v σ'=>v=.tup []∧σ=σ':=by
 refine en_ Tryz.func31 Tryz.ntmps31 Tryz.results31 ?_
 refine ab_ ?_
 have R:=hg
 refine r_ ?_
 refine s_ ?_
 refine x_ g_ va_ (u4_ hb) ?_;rintro _ _ ⟨rfl,rfl⟩
 iterate 3 refine s_ ?_
 refine lc_ fun o6 ho6=>?_
 repeat (rw [ad_] at ho6;obtain ⟨_,ho6⟩:=ho6)
 refine st_ ?_
 refine s_ ?_
 refine aa_ ?_
 have gg:=an_ hg ho6
 refine ah_ ?_
 refine ab_ ?_
 have R:=hg
 refine aL_ (.op 0 0 (.op 1 1 (.op 2 0 (.op 3 0 (.op 4 0 (.op 5 0 (.op 6 0 (.op 7 0 (.op 8 0 (.op 9 0 (.op 10 0 (.op 11 0 (.op 12 0 (.op 13 0 (.op 14 0 (.op 15 0 (.op 16 0 .nil))))))))))))))))) Tryz.mixed kr_ ?_
 refine ds_ ?_
 refine dx_ o_ g_ va_ (ji_ h_) ?_;rintro _ _ ⟨rfl,rfl⟩;refine ⟨sub_,?_⟩
 iterate 2 refine ds_ ?_
 first | refine db_ o_ (by rfl) wn_ ?_ | refine dgf_ ?_
 first | refine db_ o_ (by rfl) wn_ ?_ | refine dgf_ ?_
 iterate 2 refine ds_ ?_
 first | refine db_ o_ (by rfl) wn_ ?_ | refine dgf_ ?_
 first | refine db_ o_ (by rfl) wn_ ?_ | refine dgf_ ?_
 first | refine db_ o_ (by rfl) wn_ ?_ | refine dgf_ ?_
 first | refine db_ o_ (by rfl) wn_ ?_ | refine dgf_ ?_
 first | refine db_ o_ (by rfl) wn_ ?_ | refine dgf_ ?_
 first | refine db_ o_ (by rfl) wn_ ?_ | refine dgf_ ?_
 first | refine db_ o_ (by rfl) wn_ ?_ | refine dgf_ ?_
 iterate 2 refine ds_ ?_
 refine aG_ ?_
 refine cd_ (fun hc4=>?_) (fun hc4=>?_)
 ·refine ae_ ?_
  refine aD_ (σ':=σ) v_ sub_ ?_
  exact ⟨rfl,rfl⟩
 ·simp at hc4
theorem r8_ {s:ByteArray} {σ:Store}:ACalls Tryz.prog 12 [.lit (.pointer none),vStr s] σ fun v σ'=>v=.agg [vNil,vNil]∧σ=σ':=by
 refine en_ Tryz.func12 Tryz.ntmps12 Tryz.results12 ?_
 refine rr_ ?_
 refine lc_ fun o4 ho4=>?_
 repeat (rw [ad_] at ho4;obtain ⟨_,ho4⟩:=ho4)
 refine aa_ ?_
 refine rr_ ?_
 iterate 2 refine s_ ?_
 refine x_ g_ va_ (eF_) ?_;rintro _ _ ⟨rfl,rfl⟩
 iterate 5 refine s_ ?_
 refine aa_ ?_
 refine ab_ ?_
 refine rr_ ?_
 iterate 2 refine s_ ?_
 refine aa_ ?_
 refine cd_ (fun hc2=>?_) (fun hc2=>?_)
 ·refine rr_ ?_
  refine s_ ?_
  refine st_ ?_
  refine aa_ ?_
  refine ac_ ?_
  refine er_ σ ?_
  exact ⟨rfl,rfl⟩
 ·simp at hc2
theorem r9_ {g:Nat} {s:ByteArray} {σ:Store} (hg:σ.heap g=some (.cells zNd)):ACalls Tryz.prog 12 [.ref g 0,vStr s] σ fun v σ'=>v=.agg [vNil,vNil]∧σ=σ':=by
 refine en_ Tryz.func12 Tryz.ntmps12 Tryz.results12 ?_
 refine ab_ ?_
 have R:=hg
 refine r_ ?_
 refine lc_ fun o4 ho4=>?_
 repeat (rw [ad_] at ho4;obtain ⟨_,ho4⟩:=ho4)
 refine aa_ ?_
 have gg:=an_ hg ho4
 refine ab_ ?_
 have R:=hg
 refine r_ ?_
 iterate 2 refine s_ ?_
 refine x_ g_ va_ (eG_ h_) ?_;rintro _ _ ⟨rfl,rfl⟩
 iterate 5 refine s_ ?_
 refine aa_ ?_
 refine ab_ ?_
 refine ab_ ?_
 have R:=hg
 refine r_ ?_
 iterate 2 refine s_ ?_
 refine aa_ ?_
 refine cd_ (fun hc2=>?_) (fun hc2=>?_)
 ·refine ab_ ?_
  have R:=hg
  refine r_ ?_
  refine s_ ?_
  refine st_ ?_
  refine aa_ ?_
  refine ac_ ?_
  refine er_ σ ?_
  exact ⟨rfl,rfl⟩
 ·simp at hc2
theorem tQ_ {s:ByteArray} {σ:Store}:ACalls Tryz.prog 13 [.lit (.pointer none),vStr s] σ fun v σ'=>v=.agg [vNil,vNil]∧σ=σ':=by
 refine en_ Tryz.func13 Tryz.ntmps13 Tryz.results13 ?_
 refine rr_ ?_
 refine lc_ fun o4 ho4=>?_
 repeat (rw [ad_] at ho4;obtain ⟨_,ho4⟩:=ho4)
 refine aa_ ?_
 refine rr_ ?_
 iterate 2 refine s_ ?_
 refine x_ g_ va_ (eF_) ?_;rintro _ _ ⟨rfl,rfl⟩
 iterate 5 refine s_ ?_
 refine aa_ ?_
 refine ab_ ?_
 refine rr_ ?_
 iterate 2 refine s_ ?_
 refine aa_ ?_
 refine cd_ (fun hc2=>?_) (fun hc2=>?_)
 ·refine rr_ ?_
  refine s_ ?_
  refine st_ ?_
  refine aa_ ?_
  refine ac_ ?_
  refine er_ σ ?_
  exact ⟨rfl,rfl⟩
 ·simp at hc2
theorem tR_ {g:Nat} {s:ByteArray} {σ:Store} (hg:σ.heap g=some (.cells zNd)):ACalls Tryz.prog 13 [.ref g 0,vStr s] σ fun v σ'=>v=.agg [vNil,vNil]∧σ=σ':=by
 refine en_ Tryz.func13 Tryz.ntmps13 Tryz.results13 ?_
 refine ab_ ?_
 have R:=hg
 refine r_ ?_
 refine lc_ fun o4 ho4=>?_
 repeat (rw [ad_] at ho4;obtain ⟨_,ho4⟩:=ho4)
 refine aa_ ?_
 have gg:=an_ hg ho4
 refine ab_ ?_
 have R:=hg
 refine r_ ?_
 iterate 2 refine s_ ?_
 refine x_ g_ va_ (eG_ h_) ?_;rintro _ _ ⟨rfl,rfl⟩
 iterate 5 refine s_ ?_
 refine aa_ ?_
 refine ab_ ?_
 refine ab_ ?_
 have R:=hg
 refine r_ ?_
 iterate 2 refine s_ ?_
 refine aa_ ?_
 refine cd_ (fun hc2=>?_) (fun hc2=>?_)
 ·refine ab_ ?_
  have R:=hg
  refine r_ ?_
  refine s_ ?_
  refine st_ ?_
  refine aa_ ?_
  refine ac_ ?_
  refine er_ σ ?_
  exact ⟨rfl,rfl⟩
 ·simp at hc2
def Kn (x:Seen) (n:Int):Prop:=(0 < n∧n≤x.base)∨n∈x.more
structure SeenCn (x:Seen):Prop where
 lo:0≤x.base
 hi:x.base≤9007199254740992
 rise:x.more.Pairwise (·< ·)
 ab:∀ n∈x.more,x.base + 1 < n∧n≤9007199254740992
def wM_ (c:List Seen):Prop:=c.Pairwise fun x y=>sLt x.node y.node=true
def room (c:List Seen):Nat:=(c.map fun x=>x.more.length).sum
structure CtxG (c:List Seen):Prop where
 rise:wM_ c
 ok:∀ x∈c,cY_ x=true
def xa_ (x y:Sib):Bool:=jQ_ x.node x.n y.node y.n
def Dot (x y:Sib):Prop:=x.node=y.node∧x.n=y.n
theorem Dot.symm {x y:Sib} (h:Dot x y):Dot y x:=⟨h.1.symm,h.2.symm⟩
def wL_ (l:List Sib):Prop:=l.Pairwise fun x y=>xa_ x y=true
def w8_ (s:ByteArray) (n:Int) (x:Sib):Bool:=decide (x.node=s) && decide (x.n=n)
def fnd (l:List Sib) (s:ByteArray) (n:Int):Option Sib:=l.find? (w8_ s n)
structure ObjG (o:Obj'):Prop where
 ctx:CtxG o.ctx
 rise:wL_ o.sibs
 ok:∀ x∈o.sibs,qM_ x=true∧hasS o.ctx x.node x.n=true
inductive St where
 |un
 |rep
 |val (x:Sib)
def look (o:Obj') (s:ByteArray) (n:Int):St:=match fnd o.sibs s n with
 |some x=>.val x
 |none=>if hasS o.ctx s n then .rep else .un
theorem gK_ {α:Type} {ok:α→Bool} {key:α→ByteArray}:∀ {l:List α} {pv:Option ByteArray},upGo ok key pv l=true→(∀ p,pv=some p→∀ x∈l,sLt p (key x)=true)∧(l.Pairwise fun a b=>sLt (key a) (key b)=true)∧∀ x∈l,ok x=true
 |[],_,_=>⟨fun _ _ x hx=>(List.not_mem_nil hx).elim,List.Pairwise.nil,fun x hx=>(List.not_mem_nil hx).elim⟩
 |x :: l,pv,h=>by
  simp only [upGo,Bool.and_eq_true] at h
  obtain ⟨⟨h1,h2⟩,h3⟩:=h
  obtain ⟨g1,g2,g3⟩:=gK_ h3
  refine ⟨fun p hp y hy=>?_,List.pairwise_cons.2 ⟨fun y hy=>g1 _ rfl y hy,g2⟩,fun y hy=>?_⟩
  ·subst hp
   have h4:sLt p (key x)=true:=h2
   rcases List.mem_cons.1 hy with rfl | hy
   ·exact h4
   ·exact dM_ h4 (g1 _ rfl y hy)
  ·rcases List.mem_cons.1 hy with rfl | hy
   ·exact h1
   ·exact g3 y hy
end Go.Proofs.YtkjfpgjpeofndaaGreatDoor
end

section
set_option linter.all false
set_option maxRecDepth 100000
namespace Go.Ab
structure Mnt where
 place:ByteArray
 n:Int
structure Bk where
 items:List Itm
 mints:List Mnt
@[reducible] def sMnt (x:Mnt):AVal:=.agg [.lit (.string x.place),vInt x.n]
@[reducible] def sBk (b:Bk):AVal:=.agg [.sl 3 (b.items.map cI_) false,.sl 2 (b.mints.map sMnt) false]
end Go.Ab
namespace Go.Proofs.YtkjfpgjpeofndaaGreatDoor
open Go.Ab
instance:DecidableEq Mnt:=fun a b=>decidable_of_iff (a.place=b.place∧a.n=b.n) (by cases a;cases b;simp)
def mx_ {α:Type} (key:α→ByteArray) (l:List α):Prop:=l.Pairwise fun a b=>sLt (key a) (key b)=true
def insK {α:Type} (key:α→ByteArray) (x:α):List α→List α
 |[]=>[x]
 |y :: l=>if sLt (key y) (key x)=true then y :: insK key x l else if key y=key x then x :: l else x :: y :: l
theorem fI_ {α:Type} {key:α→ByteArray} {x z:α}:∀ {l:List α},z∈insK key x l→z=x∨z∈l
 |[],h=>.inl (by simpa [insK] using h)
 |y :: l,h=>by
  rw [insK] at h
  split at h
  ·rcases List.mem_cons.1 h with rfl | h
   ·exact .inr (.head _)
   ·rcases fI_ h with h | h
    ·exact .inl h
    ·exact .inr (.tail _ h)
  ·split at h
   ·rcases List.mem_cons.1 h with rfl | h
    ·exact .inl rfl
    ·exact .inr (.tail _ h)
   ·rcases List.mem_cons.1 h with rfl | h
    ·exact .inl rfl
    ·exact .inr h
theorem gc_ {α:Type} {key:α→ByteArray} {x:α}:∀ {l:List α},mx_ key l→mx_ key (insK key x l)
 |[],_=>List.pairwise_singleton ..
 |y :: l,h=>by
  obtain ⟨h1,h2⟩:=List.pairwise_cons.1 h
  rw [insK]
  split
  ·rename_i hlt
   refine List.pairwise_cons.2 ⟨fun z hz=>?_,gc_ h2⟩
   rcases fI_ hz with rfl | hz
   ·exact hlt
   ·exact h1 z hz
  ·split
   ·rename_i _ he
    exact List.pairwise_cons.2 ⟨fun z hz=>by rw [← he];exact h1 z hz,h2⟩
   ·rename_i hlt he
    have hxy:sLt (key x) (key y)=true:=tD_ (by simpa using hlt) he
    refine List.pairwise_cons.2 ⟨fun z hz=>?_,h⟩
    rcases List.mem_cons.1 hz with rfl | hz
    ·exact hxy
    ·exact dM_ hxy (h1 z hz)
theorem ka_ {α:Type} {ok:α→Bool} {key:α→ByteArray}:∀ {l:List α} {pv:Option ByteArray},(∀ p,pv=some p→∀ x∈l,sLt p (key x)=true)→mx_ key l→(∀ x∈l,ok x=true)→upGo ok key pv l=true
 |[],_,_,_,_=>rfl
 |x :: l,pv,h1,h2,h3=>by
  obtain ⟨g1,g2⟩:=List.pairwise_cons.1 h2
  rw [upGo,h3 x (.head _),ka_ (l:=l) (fun p hp y hy=>by cases hp;exact g1 y hy) g2 fun y hy=>h3 y (.tail _ hy)]
  cases pv with
  |none=>rfl
  |some p=>rw [show ca_ (some p) (key x)=true from h1 p rfl x (.head _)];rfl
def m4_ (n:Int):Bool:=decide (1≤n) && decide (n≤9007199254740992)
def sZ_ (l:List Mnt):Bool:=upGo (fun x=>b4_ x.place && m4_ x.n) Mnt.place none l
def bkOk (b:Bk):Bool:=hS_ b.items && sZ_ b.mints
def putR (p:ByteArray) (o:Obj'):List UInt8:=1 :: (cj_ p ++ objB o)
def qh_ (l:List Mnt) (p:ByteArray):Int:=match l.find? (fun x=>decide (x.place=p)) with
 |some x=>x.n + 1
 |none=>1
def hdK (r:List UInt8):Int:=(aV_ (r,true) 1).1
def hdP (r:List UInt8):ByteArray:=B (al_ (aV_ (r,true) 1).2).1
def hdX (r:List UInt8):Rd:=(al_ (aV_ (r,true) 1).2).2
def sm_ (x:Rd):Bool:=x.2 && decide (x.1=[])
def apl (b:Bk) (r:List UInt8):Bk × Bool :=
 if b4_ (hdP r) then
  if hdK r=1 then (⟨insK Itm.place ⟨hdP r,(c7_ (hdX r)).1⟩ b.items,b.mints⟩,sm_ (c7_ (hdX r)).2 && dI_ (c7_ (hdX r)).1 && decide (putR (hdP r) (c7_ (hdX r)).1=r))
  else if hdK r=2 then (⟨b.items.filter fun x=>!decide (x.place=hdP r),b.mints⟩,sm_ (hdX r))
  else if hdK r=3 then (⟨b.items,insK Mnt.place ⟨hdP r,max (aV_ (hdX r) 8).1 (qh_ b.mints (hdP r) - 1)⟩ b.mints⟩,sm_ (aV_ (hdX r) 8).2 && m4_ (aV_ (hdX r) 8).1)
  else (b,false)
 else (b,false)
theorem ev_ {b:Bk}:bkOk b=true ↔ (mx_ Itm.place b.items∧∀ x∈b.items,b4_ x.place=true∧dI_ x.obj=true)∧(mx_ Mnt.place b.mints∧∀ x∈b.mints,b4_ x.place=true∧m4_ x.n=true):=by
 rw [bkOk,Bool.and_eq_true]
 refine ⟨fun ⟨h1,h2⟩=>?_,fun ⟨⟨h1,h2⟩,h3,h4⟩=>?_⟩
 ·obtain ⟨_,a1,a2⟩:=gK_ h1
  obtain ⟨_,b1,b2⟩:=gK_ h2
  exact ⟨⟨a1,fun x hx=>by simpa using a2 x hx⟩,b1,fun x hx=>by simpa using b2 x hx⟩
 ·exact ⟨ka_ (fun p hp=>by cases hp) h1 fun x hx=>by simp [h2 x hx],ka_ (fun p hp=>by cases hp) h3 fun x hx=>by simp [h4 x hx]⟩
theorem fW_ {n:Int}:m4_ n=true ↔ 1≤n∧n≤9007199254740992:=by simp [m4_]
theorem s3_ {b:Bk} (h:bkOk b=true) (p:ByteArray):1≤qh_ b.mints p∧qh_ b.mints p≤9007199254740993:=by
 unfold qh_
 split
 ·rename_i x hx
  have:=fW_.1 ((ev_.1 h).2.2 x (List.mem_of_find?_eq_some hx)).2
  omega
 ·omega
theorem ur_ {b:Bk} {r:List UInt8} (h:bkOk b=true) (h2:(apl b r).2=true):bkOk (apl b r).1=true:=by
 have nx:=s3_ h (hdP r)
 obtain ⟨⟨i1,i2⟩,m1,m2⟩:=ev_.1 h
 unfold apl at h2 ⊢
 split at h2
 ·rename_i hp
  rw [if_pos hp]
  split at h2
  ·rename_i hk
   rw [if_pos hk]
   simp only [Bool.and_eq_true] at h2
   refine ev_.2 ⟨⟨gc_ i1,fun x hx=>?_⟩,m1,m2⟩
   rcases fI_ hx with rfl | hx
   ·exact ⟨hp,h2.1.2⟩
   ·exact i2 x hx
  ·rename_i hk
   rw [if_neg hk]
   split at h2
   ·rename_i hk2
    rw [if_pos hk2]
    exact ev_.2 ⟨⟨i1.filter _,fun x hx=>i2 x (List.mem_filter.1 hx).1⟩,m1,m2⟩
   ·rename_i hk2
    rw [if_neg hk2]
    split at h2
    ·rename_i hk3
     rw [if_pos hk3]
     simp only [Bool.and_eq_true] at h2
     have c:=fW_.1 h2.2
     refine ev_.2 ⟨⟨i1,i2⟩,gc_ m1,fun x hx=>?_⟩
     rcases fI_ hx with rfl | hx
     ·exact ⟨hp,fW_.2 (by show 1≤max _ _∧max _ _≤_;omega)⟩
     ·exact m2 x hx
    ·cases h2
 ·cases h2
def crcT (c:Nat):Nat:=if c % 2=1 then (c / 2) ^^^ 0xedb88320 else c / 2
def crcB (c:Nat):Nat:=crcT (crcT (crcT (crcT (crcT (crcT (crcT (crcT c)))))))
def crcG (c:Nat) (l:List UInt8):Nat:=l.foldl (fun n b=>(n / 256) ^^^ crcB ((n % 256) ^^^ b.toNat)) c
def crcS (l:List UInt8):Nat:=4294967295 - crcG 4294967295 l
theorem dl_ {c:Nat} (h:c < 4294967296):crcT c < 4294967296:=by
 unfold crcT
 split
 ·exact Nat.xor_lt_two_pow (n:=32) (by omega) (by decide)
 ·omega
theorem m6_ {c:Nat} (h:c < 4294967296):crcB c < 4294967296:=dl_ (dl_ (dl_ (dl_ (dl_ (dl_ (dl_ (dl_ h)))))))
theorem f4_:∀ {l:List UInt8} {c:Nat},c < 4294967296→crcG c l < 4294967296
 |[],c,h=>h
 |b :: l,c,h=>by
  have hb:=b.toNat_lt
  have h1:(c % 256) ^^^ b.toNat < 256:=Nat.xor_lt_two_pow (n:=8) (by omega) hb
  exact f4_ (l:=l) (Nat.xor_lt_two_pow (n:=32) (by omega) (m6_ (by omega)))
theorem sg_ (l:List UInt8):crcS l < 4294967296:=by have:=f4_ (l:=l) (c:=4294967295) (by decide);unfold crcS;omega
theorem kt_ (c:Nat) (l m:List UInt8):crcG c (l ++ m)=crcG (crcG c l) m:=List.foldl_append ..
def sumF (body:List UInt8):Nat:=crcS (beI 4 (body.length:Int) ++ body)
def putF (body:List UInt8):List UInt8:=beI 4 (body.length:Int) ++ (beI 4 (sumF body:Int) ++ body)
theorem qs_ (b:List UInt8):(putF b).length=8 + b.length:=by simp only [putF,List.length_append,am_];omega
def Runs:Bk→List (List UInt8)→Bk→Prop
 |b,[],c=>c=b
 |b,r :: l,c=>(apl b r).2=true∧Runs (apl b r).1 l c
theorem Runs.ok:∀ {l:List (List UInt8)} {b c:Bk},bkOk b=true→Runs b l c→bkOk c=true
 |[],b,c,hb,h=>by rw [show c=b from h];exact hb
 |r :: l,b,c,hb,h=>h.2.ok (ur_ hb h.1)
theorem Runs.part:∀ {l:List (List UInt8)} {b c:Bk} (i:Nat),Runs b l c→∃ d,Runs b (l.take i) d∧Runs d (l.drop i) c
 |l,b,c,0,h=>⟨b,by simp [Runs],by simpa using h⟩
 |[],b,c,i + 1,h=>⟨b,by simp [Runs],by simpa using h⟩
 |r :: l,b,c,i + 1,h=>by
  obtain ⟨d,h1,h2⟩:=h.2.part i
  exact ⟨d,⟨h.1,h1⟩,h2⟩
end Go.Proofs.YtkjfpgjpeofndaaGreatDoor
end

section
set_option linter.all false
set_option maxRecDepth 100000
namespace Go.Proofs.YtkjfpgjpeofndaaGreatDoor
open Go.Ab
abbrev vU (n:Nat):AVal:=.lit (.int .u32 (n:Int))
theorem q4_ {n:Nat} (h:n < 4294967296):4294967295 ^^^ n=4294967295 - n:=by
 have h1:(BitVec.allOnes 32 ^^^ BitVec.ofNat 32 n).toNat=(~~~ BitVec.ofNat 32 n).toNat:=by rw [BitVec.allOnes_xor]
 rw [BitVec.toNat_xor,BitVec.toNat_allOnes,BitVec.toNat_ofNat,BitVec.toNat_not,BitVec.toNat_ofNat,Nat.mod_eq_of_lt h] at h1
 exact h1
theorem it_ {n:Nat} (h:n < 4294967296):bXor .u32 4294967295 (n:Int)=((4294967295 - n:Nat):Int):=by
 have:=(pi_ (p:=4294967295) (q:=n) (by decide) h).1
 rw [q4_ h] at this
 exact this
def crcI:Nat→Nat→Nat
 |0,c=>c
 |k + 1,c=>crcT (crcI k c)
theorem m8_ {c:Nat} (h:c < 4294967296):∀ k,crcI k c < 4294967296
 |0=>h
 |k + 1=>dl_ (m8_ h k)
theorem w0_ (c:Nat):crcI 8 c=crcB c:=rfl
theorem sh_ (c:Nat):crcT c=(c / 2) ^^^ (if c % 2=1 then 3988292384 else 0):=by
 unfold crcT
 split
 ·rfl
 ·rw [Nat.xor_zero]
theorem r0_ {c:Nat}:c &&& 1=c % 2:=Nat.and_one_is_mod c
theorem rZ_ {c:Nat}:c &&& 255=c % 256:=Nat.and_two_pow_sub_one_eq_mod c 8
theorem o7_ {c:Nat} (h:c < 4294967296):bXor .u32 ((c:Int) / 2 ^ 1) (bAnd .u32 3988292384 ((-(bAnd .u32 (c:Int) 1)) % 4294967296))=(crcT c:Int):=by
 have h1:bAnd .u32 (c:Int) 1=((c % 2:Nat):Int):=by
  have:=(up_ (p:=c) (q:=1) h (by decide)).1
  rw [r0_] at this;exact this
 have h2:(c:Int) / 2 ^ 1=((c / 2:Nat):Int):=by omega
 rw [h1,h2,sh_]
 rcases Nat.mod_two_eq_zero_or_one c with hc | hc
 ·rw [hc,if_neg (by omega),show bAnd .u32 3988292384 ((-((0:Nat):Int)) % 4294967296)=((0:Nat):Int) from by decide +kernel]
  exact (pi_ (by omega) (by decide)).1
 ·rw [hc,if_pos rfl,show bAnd .u32 3988292384 ((-((1:Nat):Int)) % 4294967296)=((3988292384:Nat):Int) from by decide +kernel]
  exact (pi_ (by omega) (by decide)).1
theorem wi_ {c:Nat} {σ:Store} (h:c < 4294967296):ACalls Tryz.prog 389 [vU c] σ fun v σ'=>v=vU (crcB c)∧σ=σ':=by
 have z:∀ n:Int,0 - n=-n:=fun n=>Int.zero_sub n
 refine en_ Tryz.func389 Tryz.ntmps389 Tryz.results389 ?_
 refine rr_ ?_
 refine s_ ?_
 refine aa_ ?_
 refine ab_ ?_
 refine rr_ ?_
 refine s_ ?_
 refine aa_ ?_
 refine ah_ ?_
 refine ak_ (ι:=Nat) (fun k=>8 - k) (fun k=>k≤8) (fun k=>[(0,vU (crcI k c)),(3,vInt k)]) (fun k=>σ) 0 ?_ ?_ ?_ ?_
 ·exact Nat.zero_le _
 ·exact cv_
 ·exact sub_
 rintro k hk
 simp only [ar_,av_]
 refine rr_ ?_
 refine s_ ?_
 refine aa_ ?_
 refine ab_ ?_
 refine cd_ (fun hc2=>?_) (fun hc2=>?_)
 ·refine ae_ ?_
  refine ab_ ?_
  refine ah_ ?_
  have hst:=o7_ (m8_ h k)
  have R:=And.intro z dY_
  refine r_ ?_
  iterate 8 refine s_ ?_
  refine aa_ ?_
  refine r_ ?_
  iterate 2 refine s_ ?_
  refine aa_ ?_
  refine bb_ (ι:=Nat) (i:=k) (k + 1) ?_ ?_ ?_ ?_
  ·omega
  ·exact (by omega)
  ·have R:=hst;exact cv_
  ·exact sub_
 ·refine ay_ ?_
  refine af_ ?_
  refine af_ ?_
  refine aq_ ?_
  refine rr_ ?_
  iterate 2 refine s_ ?_
  refine aa_ ?_
  refine ac_ ?_
  refine er_ σ ?_
  obtain rfl:k=8:=by omega
  exact ⟨by rw [w0_],rfl⟩
theorem nX_ {n c:Nat} (hn:n < 4294967296) (hc:c < 256):bXor .u32 ((n:Int) / 2 ^ 8) ((crcB ((n % 256) ^^^ c):Nat):Int)=(((n / 256) ^^^ crcB ((n % 256) ^^^ c):Nat):Int):=by
 have h2:(n:Int) / 2 ^ 8=((n / 256:Nat):Int):=by omega
 have hb:(n % 256) ^^^ c < 256:=Nat.xor_lt_two_pow (n:=8) (by omega) hc
 rw [h2]
 exact (pi_ (by omega) (m6_ (by omega))).1
theorem qg_ {n c:Nat} (hn:n < 4294967296) (hc:c < 256):bXor .u32 (bAnd .u32 (n:Int) 255) (c:Int)=(((n % 256) ^^^ c:Nat):Int):=by
 have h1:bAnd .u32 (n:Int) 255=((n % 256:Nat):Int):=by
  have:=(up_ (p:=n) (q:=255) hn (by decide)).1
  rw [rZ_] at this;exact this
 rw [h1]
 exact (pi_ (by omega) (by omega)).1
theorem m7_ (n:Nat) (l:List UInt8) (b:UInt8):crcG n (l ++ [b])=(crcG n l / 256) ^^^ crcB ((crcG n l % 256) ^^^ b.toNat):=by rw [kt_];rfl
theorem nW_ {m:Nat} {s:List UInt8} {σ:Store} (hm:m < 4294967296) (hs:s.length≤1000000000):ACalls Tryz.prog 244 [vInt m,vStr (B s)] σ fun v σ'=>v=vInt ((4294967295 - crcG (4294967295 - m) s:Nat):Int)∧σ=σ':=by
 have e1:=it_ hm
 have e2:(m:Int) % 4294967296=m:=by omega
 have hB:=bI_ s
 have es:(if IntKind.u32.signed=true then (-1:Int) else IntKind.u32.max)=4294967295:=rfl
 refine en_ Tryz.func244 Tryz.ntmps244 Tryz.results244 ?_
 refine ab_ ?_
 have R:=And.intro dY_ (And.intro e2 (And.intro es e1))
 refine r_ ?_
 refine s_ ?_
 refine aa_ ?_
 refine ab_ ?_
 have R:=And.intro dY_ (And.intro e2 (And.intro es e1))
 refine r_ ?_
 iterate 4 refine s_ ?_
 refine aa_ ?_
 refine ab_ ?_
 refine ab_ ?_
 have R:=And.intro aF_ hB
 refine r_ ?_
 refine s_ ?_
 refine e7_ rfl rfl rfl g_ g_ g_ v_ ?_
 iterate 2 refine s_ ?_
 refine aa_ ?_
 refine ah_ ?_
 refine ak_ (ι:=Nat) (fun k=>s.length - k) (fun k=>k≤s.length) (fun k=>[(5,vU (crcG (4294967295 - m) (s.take k))),(12,.sl 1 (aA_ (B s)) false),(13,vInt s.length),(14,vInt k)]) (fun k=>σ) 0 ?_ ?_ ?_ ?_
 ·exact Nat.zero_le _
 ·exact cv_
 ·exact sub_
 rintro k hk
 simp only [ar_,av_]
 refine ab_ ?_
 have R:=And.intro dY_ (And.intro e2 (And.intro es e1))
 refine r_ ?_
 refine s_ ?_
 refine aa_ ?_
 refine ab_ ?_
 refine cd_ (fun hc3=>?_) (fun hc3=>?_)
 ·refine ae_ ?_
  refine ab_ ?_
  refine ah_ ?_
  refine ab_ ?_
  obtain ⟨c,hc⟩:=a0_ (l:=s) (k:=k) (by omega)
  have hcb:=km_ hc
  have hlt:=f4_ (l:=s.take k) (c:=4294967295 - m) (by omega)
  have hc8:=c.toNat_lt
  have ea:=qg_ hlt hc8
  have eb:=nX_ hlt hc8
  have e4:IntKind.u32.wrap (c.toNat:Int)=c.toNat:=dO_ _ (by omega)
  have hcv:crcG (4294967295 - m) (s.take (k + 1))=(crcG (4294967295 - m) (s.take k) / 256) ^^^ crcB ((crcG (4294967295 - m) (s.take k) % 256) ^^^ c.toNat):=by rw [bE_ hc,m7_]
  have R:=hcb
  refine r_ ?_
  iterate 3 refine s_ ?_
  refine aa_ ?_
  have R:=And.intro e4 (And.intro ea eb)
  refine r_ ?_
  iterate 7 refine s_ ?_
  refine x_ g_ va_ (wi_ (c:=(crcG (4294967295 - m) (s.take k) % 256) ^^^ c.toNat) (Nat.lt_of_lt_of_le (Nat.xor_lt_two_pow (n:=8) (by omega) hc8) (by decide))) ?_;rintro _ _ ⟨rfl,rfl⟩
  iterate 2 refine s_ ?_
  refine aa_ ?_
  have R:=And.intro dY_ (And.intro e2 (And.intro es e1))
  refine r_ ?_
  iterate 2 refine s_ ?_
  refine aa_ ?_
  refine bb_ (ι:=Nat) (i:=k) (k + 1) ?_ ?_ ?_ ?_
  ·omega
  ·exact (by omega)
  ·have R:=hcv;exact cv_
  ·exact sub_
 ·refine ay_ ?_
  refine af_ ?_
  refine af_ ?_
  refine aq_ ?_
  refine ab_ ?_
  obtain rfl:k=s.length:=by omega
  rw [List.take_length] at *
  have hlt:=f4_ (l:=s) (c:=4294967295 - m) (by omega)
  have e3:=it_ hlt
  have R:=And.intro es e3
  refine r_ ?_
  iterate 4 refine s_ ?_
  refine aa_ ?_
  refine ac_ ?_
  refine er_ σ ?_
  exact ⟨rfl,rfl⟩
theorem uE_ {s:List UInt8} {σ:Store} (hs:s.length≤1000000000):ACalls Tryz.prog 245 [vStr (B s)] σ fun v σ'=>v=vInt (crcS s:Int)∧σ=σ':=by
 refine en_ Tryz.func245 Tryz.ntmps245 Tryz.results245 ?_
 refine rr_ ?_
 refine s_ ?_
 refine aa_ ?_
 refine rr_ ?_
 refine s_ ?_
 refine x_ g_ va_ (nW_ (m:=0) (by decide) hs) ?_;rintro _ _ ⟨rfl,rfl⟩
 refine s_ ?_
 refine aa_ ?_
 refine ac_ ?_
 refine er_ σ ?_
 exact ⟨rfl,rfl⟩
theorem kj_ {o:Nat} {b:AVal} {σ:Store} (ho:σ.heap o=some (.cells [.nilp o 329 2,b])):ACalls Tryz.prog 501 [.ref o 0] σ fun v σ'=>v=.tup []∧σ'=σ.set o (.cells [.ref o 0,b]):=by
 refine en_ Tryz.func501 Tryz.ntmps501 Tryz.results501 ?_
 refine ab_ ?_
 have R:=ho
 refine r_ ?_
 iterate 5 refine s_ ?_
 refine aa_ ?_
 refine cd_ (fun hc0=>?_) (fun hc0=>?_)
 ·have R:=ho
  refine r_ ?_
  iterate 2 refine s_ ?_
  refine aL_X rfl rfl (AOp_toUnsafe (t:=329) rfl Tryz.underlying327 Tryz.underlying596 kr_ g_ ho (by decide) ?_)
  refine aL_X rfl rfl (AOp_extern rfl (e:=Extern.AbiNoEscape.same) kr_ g_ (fun κ ev _ h=>h7_ (h _ (by simp))) ?_)
  refine aL_X rfl rfl (AOp_fromUnsafe (u:=329) rfl Tryz.underlying596 Tryz.underlying327 kr_ g_ ho kr_ ?_)
  iterate 2 refine s_ ?_
  refine st_ ?_
  refine aa_ ?_
  refine aD_ v_ (Store.Wk.refl _) ?_
  exact ⟨rfl,rfl⟩
 ·cases hc0
theorem mO_ {o n:Nat} {σ:Store} (ho:σ.heap o=some (.cells [.ref o 0,.lit (.slice none 0 0)])) (hn:n≤1000000000000):ACalls Tryz.prog 502 [.ref o 0,vInt n] σ fun v σ'=>∃ k,v=.tup []∧σ.tok k=none∧σ'=(σ.newTok none k (5,1)).set o (.cells [.ref o 0,.own k 1 []]):=by
 have hz1:(2:Int) * 0=0:=rfl
 have hz2:∀ m:Int,0 + m=m:=Int.zero_add
 refine en_ Tryz.func502 Tryz.ntmps502 Tryz.results502 ?_
 refine ab_ ?_
 have R:=And.intro ho (And.intro hz1 hz2)
 refine aL_ (.op 0 0 (.op 1 0 (.op 2 0 (.op 3 0 (.op 6 0 (.op 9 0 (.op 10 0 (.op 11 0 (.op 12 0 (.op 13 0 (.op 4 1 (.op 5 0 (.op 7 0 (.op 8 1 (.op 14 2 (.op 15 2 .nil)))))))))))))))) Tryz.mixed kr_ ?_
 iterate 10 refine ds_ ?_
 refine dR_X o_ (by rfl) (by rfl) (ck_ (by rfl) g_ va_ ⟨sub_,?_⟩)
 iterate 2 refine ds_ ?_
 refine dR_X o_ (by rfl) (by rfl) (gO_ (n:=n) (ps:=#[3]) (t:=191) (e:=5) (by rfl) kr_ Tryz.underlying191 g_ va_ (by omega) fun o13 c13 ho13 hc13 hm13=>⟨sub_,?_⟩)
 refine dR_T o_ (by rfl) (by rfl) (lz_ (l:=0) (h:=0) (by rfl) g_ g_ va_ (by rfl) (by rfl) (Nat.le_refl _) (Nat.zero_le _) (.inl rfl) ?_)
 refine dR_T o_ (by rfl) (by rfl) (ao_ v_ ?_)
 refine aG_ ?_
 have n13:=an_ ho ho13
 refine ab_ ?_
 have R:=And.intro ho (And.intro hz1 hz2)
 refine r_ ?_
 iterate 5 refine s_ ?_
 refine aL_X rfl rfl (mt_ (by rfl) g_ g_ (.inr va_) va_ ?_)
 refine aa_ ?_
 have R:=And.intro ho (And.intro hz1 hz2)
 refine r_ ?_
 refine s_ ?_
 refine aL_X rfl rfl (pm_ (.inr rfl) va_ h_ hm13 fun k27 hk27=>?_)
 iterate 2 refine s_ ?_
 refine st_ ?_
 refine aa_ ?_
 refine aD_ v_ (Store.Wk.refl _) ?_
 exact ⟨k27,rfl,hk27,by rw [Store.set_del ho13]⟩
theorem r7_ {o n:Nat} {σ:Store} (ho:σ.heap o=some (.cells [.nilp o 329 2,.lit (.slice none 0 0)])) (hn:n≤1000000000000):ACalls Tryz.prog 386 [.ref o 0,vInt n] σ fun v σ'=>v=.tup []∧WR σ' o []∧WF o σ σ':=by
 have hw0:WF o σ (σ.set o (.cells [.ref o 0,.lit (.slice none 0 0)])):=⟨fun i x hi hx=>by rw [Store.set_ne _ _ hi];exact hx,fun t m ht hn=>⟨ht,fun ⟨a',sz2,l2,hh⟩=>by rw [Store.set_get] at hh;simp at hh⟩⟩
 refine en_ Tryz.func386 Tryz.ntmps386 Tryz.results386 ?_
 refine rr_ ?_
 refine s_ ?_
 refine x_ g_ va_ (kj_ ho) ?_;rintro _ _ ⟨rfl,rfl⟩
 refine aa_ ?_
 refine ab_ ?_
 refine rr_ ?_
 iterate 2 refine s_ ?_
 refine aa_ ?_
 refine cd_ (fun hc1=>?_) (fun hc1=>?_)
 ·omega
 ·refine ae_ ?_
  refine ab_ ?_
  refine aL_ (.op 0 0 (.op 1 0 (.op 2 0 (.op 3 0 (.op 5 0 (.op 6 0 (.op 7 0 (.op 8 0 (.op 9 0 (.op 11 0 (.op 4 1 (.op 10 0 (.op 12 0 .nil))))))))))))) Tryz.mixed kr_ ?_
  iterate 10 refine ds_ ?_
  refine dR_X o_ (by rfl) (by rfl) (ck_ (by rfl) g_ va_ ⟨sub_,?_⟩)
  iterate 2 refine ds_ ?_
  refine aG_ ?_
  refine cd_ (fun hc3=>?_) (fun hc3=>?_)
  ·refine r_ ?_
   iterate 2 refine s_ ?_
   refine x_ g_ va_ (mO_ (Store.set_get ..) hn) ?_;rintro _ _ ⟨k,rfl,hk,rfl⟩
   refine aa_ ?_
   refine aD_ v_ (Store.Wk.refl _) ?_
   refine ⟨rfl,⟨_,_,some k,Store.set_get ..,.inl rfl,.inl ⟨k,rfl,by rw [Store.set_tok];exact Store.newTok_get ..,rfl⟩⟩,hw0.trans (WF.put (e:=5) (sz:=1) (Store.set_get ..) (.inr ⟨rfl,rfl,rfl⟩) hk)⟩
  ·refine ae_ ?_
   refine aD_ v_ (Store.Wk.refl _) ?_
   exact ⟨rfl,⟨_,_,none,Store.set_get ..,.inl rfl,.inr ⟨rfl,rfl,rfl⟩⟩,hw0⟩
theorem hI_ {o:Nat} {s:ByteArray} {l:List UInt8} {σ:Store} (ho:WR σ o l) (hl:l.length≤1099511627776) (hs:s.size≤1099511627776) :
  ACalls Tryz.prog 387 [.ref o 0,vStr s] σ fun v σ'=>v=.tup [vInt s.size,.lit .nilIface]∧WR σ' o (l ++ Lb s)∧WF o σ σ':=by
 obtain ⟨a,b,old,h1,h2,h3⟩:=ho
 refine (e5_ h1 h2 h3 hl hs).mono fun v σ' ⟨k,hv,hk,hs'⟩=>⟨hv,?_,?_⟩
 ·rw [hs']
  exact ⟨_,_,some k,Store.set_get ..,.inl rfl,.inl ⟨k,rfl,by rw [Store.set_tok];exact Store.newTok_get ..,rfl⟩⟩
 ·rw [hs']
  exact WF.put h1 h3 hk
theorem is_ {o k:Nat} {s:ByteArray} {σ:Store} {a:AVal} (ho:σ.heap o=some (.cells [a,.own k 1 (aA_ s)])) (hk:σ.tok k=some (5,1)) (hs:s.size≤1099511627776):ACalls Tryz.prog 385 [.ref o 0] σ fun v σ'=>v=vStr s∧WF o σ σ':=by
 refine (ll_ ho hk hs).mono fun v σ' ⟨hv,hs'⟩=>⟨hv,?_⟩
 rw [hs']
 refine ⟨fun i x hi hx=>hx,fun t n ht hn=>?_⟩
 have hne:t≠k:=fun hh=>hn ⟨_,_,_,by rw [ho,hh]⟩
 exact ⟨by simp only [Store.delTok];rw [if_neg hne];exact ht,fun ⟨a',sz2,l2,hh⟩=>hn ⟨a',sz2,l2,hh⟩⟩
theorem mM_ {o:Nat} {l:List UInt8} {σ:Store} (ho:WR σ o l) (hl:l.length≤1000000000000):ACalls Tryz.prog 385 [.ref o 0] σ fun v σ'=>v=vStr (B l)∧WF o σ σ':=by
 obtain ⟨a,b,old,hw,ha,hb⟩:=ho
 rcases hb with ⟨k,rfl,hk,_⟩ | ⟨rfl,hl0,_⟩
 ·exact is_ hw hk (by rw [bI_];omega)
 ·have:l=[]:=by
   have:=congrArg List.length hl0
   rw [aF_,bI_] at this
   exact List.eq_nil_of_length_eq_zero this
  subst this
  exact (id_ hw).mono fun v σ' ⟨hv,hs'⟩=>⟨hv,by rw [← hs'];exact WF.refl⟩
theorem dV_ {L:List ByteArray} {k:Nat} {x:ByteArray} (h:L[k]?=some x):(L.take (k + 1)).flatMap Lb=(L.take k).flatMap Lb ++ Lb x:=aY_ h
set_option maxHeartbeats 2000000 in
theorem oJ_ {L:List ByteArray} {t:Bool} {σ:Store} (hL:L.length≤1000000000) (hT:(L.flatMap Lb).length≤1000000000):ACalls Tryz.prog 242 [.sl 1 (L.map vStr) t,vStr ⟨#[]⟩] σ fun v σ'=>v=vStr (B (L.flatMap Lb))∧σ=σ':=by
 have hz:(ByteArray.mk #[]).size=0:=rfl
 refine en_ Tryz.func242 Tryz.ntmps242 Tryz.results242 ?_
 refine rr_ ?_
 refine s_ ?_
 refine aa_ ?_
 refine ab_ ?_
 refine rr_ ?_
 iterate 2 refine s_ ?_
 refine aa_ ?_
 refine ah_ ?_
 refine rr_ ?_
 iterate 2 refine s_ ?_
 refine aa_ ?_
 refine cd_ (fun hc2=>?_) (fun hc2=>?_)
 ·refine rr_ ?_
  refine s_ ?_
  refine aa_ ?_
  refine ac_ ?_
  refine er_ σ ?_
  obtain rfl:L=[]:=List.eq_nil_of_length_eq_zero (by omega)
  exact ⟨rfl,rfl⟩
 ·refine rr_ ?_
  iterate 2 refine s_ ?_
  refine aa_ ?_
  refine cd_ (fun hc4=>?_) (fun hc4=>?_)
  ·refine ab_ ?_
   obtain ⟨x,rfl⟩:∃ x,L=[x]:=List.length_eq_one_iff.1 (by omega)
   refine r_ ?_
   iterate 4 refine s_ ?_
   refine aa_ ?_
   refine ac_ ?_
   refine er_ σ ?_
   exact ⟨by rw [List.flatMap_cons,List.flatMap_nil,List.append_nil,B_Lb],rfl⟩
  ·refine ae_ ?_
   refine rr_ ?_
   refine s_ ?_
   refine aa_ ?_
   refine ab_ ?_
   refine ab_ ?_
   have R:=hz
   refine r_ ?_
   iterate 3 refine s_ ?_
   refine aa_ ?_
   refine cd_ (fun hc7=>?_) (fun hc7=>?_)
   ·simp at hc7
   ·refine ae_ ?_
    refine ab_ ?_
    refine rr_ ?_
    iterate 3 refine s_ ?_
    refine aa_ ?_
    refine ah_ ?_
    refine ak_ (ι:=Nat) (fun k=>L.length - k) (fun k=>k≤L.length) (fun k=>[(0,.sl 1 (L.map vStr) t),(1,vStr ⟨#[]⟩),(5,vInt ((L.take k).flatMap Lb).length),(39,.sl 1 (L.map vStr) t),(40,vInt L.length),(41,vInt k)]) (fun k=>σ) 0 ?_ ?_ ?_ ?_
    ·exact Nat.zero_le _
    ·exact cv_
    ·exact sub_
    rintro k hk
    simp only [ar_,av_]
    refine rr_ ?_
    refine s_ ?_
    refine aa_ ?_
    refine ab_ ?_
    refine cd_ (fun hc12=>?_) (fun hc12=>?_)
    ·refine ae_ ?_
     refine ab_ ?_
     refine ah_ ?_
     refine ab_ ?_
     obtain ⟨x,hx⟩:=a0_ (l:=L) (k:=k) (by omega)
     have hle:=aS_ (f:=Lb) L k
     have hle1:=aS_ (f:=Lb) L (k + 1)
     have hcv:((((L.take (k + 1)).flatMap Lb).length:Nat):Int)=((L.take k).flatMap Lb).length + x.size:=by rw [dV_ hx,List.length_append,aX_];omega
     have hxs:x.size≤1000000000:=by rw [dV_ hx,List.length_append,aX_] at hle1;omega
     have R:=hx
     refine r_ ?_
     iterate 3 refine s_ ?_
     refine aa_ ?_
     refine ab_ ?_
     refine rr_ ?_
     iterate 5 refine s_ ?_
     refine aa_ ?_
     refine cd_ (fun hc14=>?_) (fun hc14=>?_)
     ·omega
     ·refine ae_ ?_
      refine r_ ?_
      iterate 5 refine s_ ?_
      refine aa_ ?_
      refine r_ ?_
      iterate 2 refine s_ ?_
      refine aa_ ?_
      refine bb_ (ι:=Nat) (i:=k) (k + 1) ?_ ?_ ?_ ?_
      ·omega
      ·exact (by omega)
      ·have R:=hcv;exact cv_
      ·exact sub_
    ·refine ay_ ?_
     refine af_ ?_
     refine af_ ?_
     refine aq_ ?_
     refine ab_ ?_
     obtain rfl:k=L.length:=by omega
     rw [List.take_length] at *
     obtain ⟨x0,L',rfl⟩:∃ x0 L',L=x0 :: L':=by
      cases L with
      |nil=>simp at hc2
      |cons a l=>exact ⟨a,l,rfl⟩
     have hL2:L'.length≤1000000000:=by rw [List.length_cons] at hL;omega
     have htk:(L'.map vStr).take L'.length=L'.map vStr:=List.take_of_length_le (by rw [List.length_map];omega)
     have hx0:(Lb x0).length≤1000000000:=by rw [List.flatMap_cons,List.length_append] at hT;omega
     have hx0':x0.size≤1000000000:=by rw [← aX_];exact hx0
     have hT':(L'.flatMap Lb).length + x0.size≤1000000000:=by rw [List.flatMap_cons,List.length_append,aX_] at hT;omega
     refine r_ ?_
     refine aL_X rfl rfl (AOp_allocP (t:=329) (z:=.agg #[.pointer none,.slice none 0 0]) (r:=[.slice none 0 0]) rfl kr_ (by rfl) fun o8 ho8=>?_)
     refine aa_ ?_
     refine rr_ ?_
     refine s_ ?_
     refine x_ g_ va_ (r7_ (Store.set_get ..) (by omega)) ?_;rintro _ τ1 ⟨rfl,a1,a2⟩
     refine aa_ ?_
     refine rr_ ?_
     iterate 3 refine s_ ?_
     refine x_ g_ va_ (hI_ a1 (by simp) (by omega)) ?_;rintro _ τ2 ⟨rfl,b1,b2⟩
     refine aa_ ?_
     refine ab_ ?_
     refine ab_ ?_
     have R:=htk
     refine r_ ?_
     iterate 4 refine s_ ?_
     refine aa_ ?_
     refine ah_ ?_
     refine ak_ (ι:=Store × Nat) (fun ⟨τ,k⟩=>L'.length - k) (fun ⟨τ,k⟩=>k≤L'.length∧WR τ o8 (Lb x0 ++ (L'.take k).flatMap Lb)∧WF o8 (σ.set o8 (.cells [.nilp o8 329 2,.lit (.slice none 0 0)])) τ) (fun ⟨τ,k⟩=>[(1,vStr ⟨#[]⟩),(8,.ref o8 0),(63,.sl 1 (L'.map vStr) false),(64,vInt L'.length),(65,vInt k)]) (fun ⟨τ,k⟩=>τ) (τ2,0) ?_ ?_ ?_ ?_
     ·exact ⟨Nat.zero_le _,by simpa using b1,a2.trans b2⟩
     ·exact cv_
     ·exact Store.Wk.refl _
     rintro ⟨τ,k⟩ ⟨hk,h1,h2⟩
     simp only [ar_,av_]
     refine rr_ ?_
     refine s_ ?_
     refine aa_ ?_
     refine ab_ ?_
     refine cd_ (fun hc22=>?_) (fun hc22=>?_)
     ·refine ae_ ?_
      refine ab_ ?_
      refine ah_ ?_
      refine ab_ ?_
      obtain ⟨x,hx⟩:=a0_ (l:=L') (k:=k) (by omega)
      have hle:=aS_ (f:=Lb) L' k
      have hle1:=aS_ (f:=Lb) L' (k + 1)
      have hxs:x.size≤1000000000:=by rw [dV_ hx,List.length_append,aX_] at hle1;omega
      have hlx:=aX_ x0
      have R:=hx
      refine r_ ?_
      iterate 3 refine s_ ?_
      refine aa_ ?_
      refine rr_ ?_
      refine s_ ?_
      refine x_ g_ va_ (hI_ h1 (by rw [List.length_append];omega) (by decide)) ?_;rintro _ τ3 ⟨rfl,c1,c2⟩
      refine aa_ ?_
      refine r_ ?_
      refine s_ ?_
      refine x_ g_ va_ (hI_ c1 (by rw [List.length_append,List.length_append,show (Lb ⟨#[]⟩).length=0 from rfl];omega) (by omega)) ?_;rintro _ τ4 ⟨rfl,d1,d2⟩
      refine aa_ ?_
      refine r_ ?_
      iterate 2 refine s_ ?_
      refine aa_ ?_
      refine bb_ (ι:=Store × Nat) (i:=⟨τ,k⟩) (τ4,k + 1) ?_ ?_ ?_ ?_
      ·show L'.length - (k + 1) < L'.length - k;omega
      ·exact ⟨by show k + 1≤L'.length;omega,by rw [dV_ hx];simpa [List.append_assoc,Lb] using d1,h2.trans (c2.trans d2)⟩
      ·exact cv_
      ·exact Store.Wk.refl _
     ·refine ay_ ?_
      refine af_ ?_
      refine af_ ?_
      refine aq_ ?_
      refine ab_ ?_
      obtain rfl:k=L'.length:=by omega
      rw [List.take_length] at h1
      have hlx:=aX_ x0
      refine r_ ?_
      refine x_ g_ va_ (mM_ h1 (by rw [List.length_append];omega)) ?_;rintro _ τ5 ⟨rfl,e2⟩
      refine s_ ?_
      refine aa_ ?_
      refine ac_ ?_
      have hW:=WF.sub (x:=.cells [.nilp o8 329 2,.lit (.slice none 0 0)]) ho8 (h2.trans e2) (fun a t sz l hh=>by simp at hh)
      exact aE_ (σ':=σ) va_ (Store.Sub.wk hW) ⟨by rw [List.flatMap_cons],rfl⟩
theorem hQ_ {n:Int} {σ:Store}:ACalls Tryz.prog 120 [vInt n] σ fun v σ'=>v=vStr (B (beI 4 n))∧σ=σ':=by
 refine en_ Tryz.func120 Tryz.ntmps120 Tryz.results120 ?_
 refine rr_ ?_
 refine s_ ?_
 refine aa_ ?_
 refine rr_ ?_
 refine s_ ?_
 refine aL_X rfl rfl (AOp_boxP rfl va_ fun o5 ho5=>?_)
 refine s_ ?_
 refine aa_ ?_
 have hw:WR (σ.set o5 (.cells [.nilp o5 331 2,.lit (.slice none 0 0)])) o5 []:=⟨_,_,none,Store.set_get ..,.inr rfl,.inr ⟨rfl,rfl,rfl⟩⟩
 refine rr_ ?_
 iterate 2 refine s_ ?_
 refine x_ g_ va_ (ch_ hw (by simp)) ?_;rintro _ τ1 ⟨rfl,a1,a2⟩
 refine aa_ ?_
 refine rr_ ?_
 refine s_ ?_
 refine x_ g_ va_ (gN_ a1 (by simp [am_])) ?_;rintro _ τ2 ⟨rfl,c2⟩
 refine s_ ?_
 refine aa_ ?_
 refine ac_ ?_
 have h1:=WF.sub (x:=.cells [.nilp o5 331 2,.lit (.slice none 0 0)]) ho5 (a2.trans c2) (fun a t sz l hh=>by simp at hh)
 exact aE_ (σ':=σ) va_ (Store.Sub.wk h1) ⟨rfl,rfl⟩
theorem wf_ (body:List UInt8):4294967295 - crcG (4294967295 - crcS (beI 4 (body.length:Int))) body=sumF body:=by
 have h:=f4_ (l:=beI 4 (body.length:Int)) (c:=4294967295) (by decide)
 unfold sumF crcS
 rw [show 4294967295 - (4294967295 - crcG 4294967295 (beI 4 (body.length:Int)))=crcG 4294967295 (beI 4 (body.length:Int)) from by omega,← kt_]
theorem uM_ {body:List UInt8} {σ:Store} (hs:body.length≤1000000000):ACalls Tryz.prog 121 [vStr (B body)] σ fun v σ'=>v=vInt (sumF body:Int)∧σ=σ':=by
 have hB:=bI_ body
 have hc:=sg_ (beI 4 (body.length:Int))
 refine en_ Tryz.func121 Tryz.ntmps121 Tryz.results121 ?_
 refine ab_ ?_
 have R:=hB
 refine r_ ?_
 refine s_ ?_
 refine aa_ ?_
 refine ab_ ?_
 have R:=hB
 refine r_ ?_
 iterate 2 refine s_ ?_
 refine x_ g_ va_ (hQ_ (n:=body.length)) ?_;rintro _ _ ⟨rfl,rfl⟩
 refine x_ g_ va_ (uE_ (s:=beI 4 (body.length:Int)) (by simp [am_])) ?_;rintro _ _ ⟨rfl,rfl⟩
 refine s_ ?_
 refine x_ g_ va_ (nW_ hc hs) ?_;rintro _ _ ⟨rfl,rfl⟩
 refine s_ ?_
 refine aa_ ?_
 refine ac_ ?_
 refine er_ σ ?_
 exact ⟨by rw [wf_],rfl⟩
theorem sw_ {L:List ByteArray} {t:Bool} {σ:Store} (hL:L.length≤1000000000) (hT:(L.flatMap Lb).length≤1000000000):ACalls Tryz.prog 119 [.sl 1 (L.map vStr) t] σ fun v σ'=>v=vStr (B (L.flatMap Lb))∧σ=σ':=by
 refine en_ Tryz.func119 Tryz.ntmps119 Tryz.results119 ?_
 refine rr_ ?_
 refine s_ ?_
 refine aa_ ?_
 refine rr_ ?_
 refine s_ ?_
 refine x_ g_ va_ (oJ_ hL hT) ?_;rintro _ _ ⟨rfl,rfl⟩
 refine s_ ?_
 refine aa_ ?_
 refine ac_ ?_
 refine er_ σ ?_
 exact ⟨rfl,rfl⟩
theorem uL_ {body:List UInt8} {σ:Store} (hs:body.length≤100000000):ACalls Tryz.prog 57 [vStr (B body)] σ fun v σ'=>v=vStr (B (putF body))∧σ=σ':=by
 have hB:=bI_ body
 have e:[B (beI 4 (body.length:Int)),B (beI 4 (sumF body:Int)),B body].flatMap Lb=putF body:=by simp [List.flatMap_cons,Lb_B,putF]
 refine en_ Tryz.func57 Tryz.ntmps57 Tryz.results57 ?_
 refine ab_ ?_
 have R:=hB
 refine r_ ?_
 refine s_ ?_
 refine aa_ ?_
 refine ab_ ?_
 have R:=hB
 refine r_ ?_
 iterate 2 refine s_ ?_
 refine x_ g_ va_ (hQ_ (n:=body.length)) ?_;rintro _ _ ⟨rfl,rfl⟩
 refine s_ ?_
 refine x_ g_ va_ (uM_ (body:=body) (by omega)) ?_;rintro _ _ ⟨rfl,rfl⟩
 refine x_ g_ va_ (hQ_ (n:=(sumF body:Int))) ?_;rintro _ _ ⟨rfl,rfl⟩
 refine s_ ?_
 refine aJ_ rfl rfl rfl g_ g_ rfl rfl h_ c2_ (by decide) ?_
 refine x_ g_ va_ (sw_ (L:=[B (beI 4 (body.length:Int)),B (beI 4 (sumF body:Int)),B body]) (t:=true) (by simp) (by rw [e,qs_];omega)) ?_;rintro _ _ ⟨rfl,rfl⟩
 refine s_ ?_
 refine aa_ ?_
 refine ac_ ?_
 refine er_ σ ?_
 exact ⟨by rw [e],rfl⟩
def ng_ (c:List Seen):Bool:=decide (c.length≤12) && c.all fun x=>decide (x.node.size≤100) && decide (x.more.length≤40)
theorem nh_ {c:List Seen}:ng_ c=true ↔ FewC c:=by simp [ng_,FewC]
theorem sp_ {c:List Seen} {t:Bool} {σ:Store}:ACalls Tryz.prog 62 [.sl 3 (c.map aM_) t] σ fun v σ'=>v=vB (ng_ c)∧σ=σ' :=
 so_.wkS fun v σ' ⟨⟨r,hv,hr⟩,hs⟩=>⟨v,σ',.refl _,.refl _,by rw [hv,show r=ng_ c from by rw [Bool.eq_iff_iff,hr,nh_]],hs⟩
def lS_ (l:List Ent) (n:Nat):Bool:=decide (l.length≤n) && l.all fun x=>decide (x.key.size≤200) && (decide (x.who.size≤100) && decide (x.value.size≤300))
theorem uN_ {α:Type} {l:List α} {n k:Nat} {x:α} {p:α→Bool} (h:l[k]?=some x) (hp:p x=false):(decide (l.length≤n) && l.all p)=false:=by
 rw [show l.all p=false from List.all_eq_false.2 ⟨x,List.mem_of_getElem? h,by simp [hp]⟩,Bool.and_false]
theorem su_ {α:Type} {l:List α} {n k:Nat} {p:α→Bool} (ha:(l.take k).all p=true) (hk:k≤l.length) (he:l.length≤k∨n≤k):decide ((l.length:Int)≤n)=(decide (l.length≤n) && l.all p):=by
 by_cases h:l.length≤n
 ·rw [decide_eq_true (by omega),decide_eq_true h]
  have:l.take k=l:=List.take_of_length_le (by omega)
  rw [this] at ha;rw [ha];rfl
 ·rw [decide_eq_false (by omega),decide_eq_false h];rfl
theorem ps_ {α:Type} {l:List α} {k:Nat} {x:α} {p:α→Bool} (h:l[k]?=some x) (hp:p x=true) (ha:(l.take k).all p=true):(l.take (k + 1)).all p=true:=by
 rw [bE_ h,List.all_append,ha];simp [hp]
theorem pP_ {n:Int} {w v:ByteArray} {σ:Store}:ACalls Tryz.prog 22 [.agg [vInt n,vStr w,vStr v]] σ fun u σ'=>u=vB (decide (w.size≤100) && decide (v.size≤300))∧σ=σ':=by
 refine en_ Tryz.func22 Tryz.ntmps22 Tryz.results22 ?_
 refine rr_ ?_
 refine bx_ fun o1 ho1=>?_
 repeat (rw [ad_] at ho1;obtain ⟨_,ho1⟩:=ho1)
 refine s_ ?_
 refine aa_ ?_
 refine rr_ ?_
 iterate 5 refine s_ ?_
 refine gt_ ?_
 refine gt_ ?_
 refine gt_ ?_
 refine gt_ ?_
 iterate 2 refine s_ ?_
 refine aa_ ?_
 refine ac_ ?_
 refine er_ σ ?_
 refine ⟨?_,rfl⟩
 by_cases h1:w.size≤100 <;> by_cases h2:v.size≤300 <;> simp [h1,h2] <;> omega
theorem ss_ {l:List Ent} {n:Nat} {t:Bool} {σ:Store} (hn:n≤1000000):ACalls Tryz.prog 5 [.sl 4 (l.map sEnt) t,vInt n] σ fun v σ'=>v=vB (lS_ l n)∧σ=σ':=by
 refine en_ Tryz.func5 Tryz.ntmps5 Tryz.results5 ?_
 refine rr_ ?_
 refine s_ ?_
 refine aa_ ?_
 refine ab_ ?_
 refine rr_ ?_
 refine s_ ?_
 refine aa_ ?_
 refine ah_ ?_
 refine ak_ (ι:=Nat) (fun k=>l.length - k) (fun k=>k≤l.length∧k≤n∧(l.take k).all (fun x=>decide (x.key.size≤200) && (decide (x.who.size≤100) && decide (x.value.size≤300)))=true) (fun k=>[(0,.sl 4 (l.map sEnt) t),(1,vInt n),(5,vInt k)]) (fun k=>σ) 0 ?_ ?_ ?_ ?_
 ·exact ⟨Nat.zero_le _,Nat.zero_le _,rfl⟩
 ·exact cv_
 ·exact sub_
 rintro k ⟨hk,hk2,ha⟩
 simp only [ar_,av_]
 refine ab_ ?_
 refine rr_ ?_
 iterate 5 refine s_ ?_
 refine gt_ ?_
 refine gt_ ?_
 refine gt_ ?_
 refine s_ ?_
 refine aa_ ?_
 refine cd_ (fun hc2=>?_) (fun hc2=>?_)
 ·refine ae_ ?_
  refine ab_ ?_
  refine ah_ ?_
  refine ab_ ?_
  obtain ⟨x,hx⟩:=a0_ (l:=l) (k:=k) (by omega)
  have R:=hx
  refine r_ ?_
  iterate 8 refine s_ ?_
  refine gf_ ?_
  refine gf_ ?_
  refine gf_ ?_
  refine gf_ ?_
  refine gf_ ?_
  refine bi_ rfl rfl v_ rfl (fun hb=>aw_ (by rfl) (by rfl) (.inr ⟨by rfl,by rfl,by rfl⟩) g_ cg_ (pP_)) ?_
  refine gf_ ?_
  refine s_ ?_
  refine aa_ ?_
  refine cd_ (fun hc4=>?_) (fun hc4=>?_)
  ·refine rr_ ?_
   refine s_ ?_
   refine aa_ ?_
   refine ac_ ?_
   refine er_ σ ?_
   exact ⟨by rw [lS_,uN_ hx (by rcases hc4 with h | h | h;rw [decide_eq_false (by omega)];rfl;simp [h];simp [h])],rfl⟩
  ·refine ae_ ?_
   refine r_ ?_
   iterate 3 refine s_ ?_
   refine aa_ ?_
   refine bb_ (ι:=Nat) (i:=k) (k + 1) ?_ ?_ ?_ ?_
   ·omega
   ·exact ⟨by omega,by omega,ps_ hx (by obtain ⟨q1,q2⟩:=hc4;simp only [Bool.and_eq_true,decide_eq_true_eq] at q2 ⊢;omega) ha⟩
   ·exact cv_
   ·exact sub_
 ·refine ay_ ?_
  refine af_ ?_
  refine af_ ?_
  refine aq_ ?_
  refine rr_ ?_
  iterate 5 refine s_ ?_
  refine aa_ ?_
  refine ac_ ?_
  refine er_ σ ?_
  exact ⟨by rw [lS_,← su_ ha hk (by omega)],rfl⟩
theorem szEn (l:List Ent):∀ y∈l.map sEnt,y.cells.length=4:=fun y hy=>by
 obtain ⟨x,_,rfl⟩:=List.mem_map.1 hy
 rfl
theorem mY_ {L:List Ent} {t:Bool} {σ:Store} (h0:L≠[]) (hl:L.length≤1000000):ACalls Tryz.prog 43 [.sl 4 (L.map sEnt) t] σ fun v σ'=>CBp σ σ' 4 (L.map sEnt) v:=by
 have hne:L.map sEnt≠[]:=by simpa using h0
 refine en_ Tryz.func43 Tryz.ntmps43 Tryz.results43 ?_
 refine rr_ ?_
 refine s_ ?_
 refine aa_ ?_
 refine ab_ ?_
 refine rr_ ?_
 refine s_ ?_
 refine aL_X rfl rfl (mu_ rfl g_ v_ (by exact hne) va_ ?_)
 refine aa_ ?_
 refine cd_ (fun hc1=>?_) (fun hc1=>?_)
 ·cases hc1
 ·refine ae_ ?_
  refine rr_ ?_
  refine aJ_ rfl rfl rfl g_ g_ rfl rfl h_ c2_ (by decide) ?_
  refine s_ ?_
  refine aL_X rfl rfl (AOp_copyM rfl g_ g_ va_ v_ (by exact hne) (by simp;omega) fun o7 ho7=>?_)
  refine s_ ?_
  refine aa_ ?_
  refine ac_ ?_
  refine aE_ v_ (Store.Wk.refl _) ?_
  exact .inr ⟨o7,ho7,by rw [List.length_map],rfl⟩
theorem kp_ {L:List Ent} {t:Bool} {σ:Store} (hl:L.length≤1000000):ACalls Tryz.prog 43 [.sl 4 (L.map sEnt) t] σ fun v σ'=>v=.sl 4 (L.map sEnt) false∧σ=σ':=by
 by_cases h:L=[]
 ·subst h;exact iy_
 ·exact ACalls.frozen (mY_ h hl) (szEn L)
theorem tB_ {L:List Ent} {t:Bool} {σ:Store} (hs:∀ x∈L,EntSm x) (hL:(L.flatMap entB).length≤100000000) (hb:L.length≤1000000):ACalls Tryz.prog 118 [.sl 4 (L.map sEnt) t] σ fun v σ'=>v=vStr (B (bq_ entB L))∧σ=σ':=by
 have hlen:(bq_ entB L).length≤100000004:=by simp only [bq_,List.length_append,am_];omega
 refine en_ Tryz.func118 Tryz.ntmps118 Tryz.results118 ?_
 refine rr_ ?_
 refine s_ ?_
 refine aa_ ?_
 refine rr_ ?_
 refine s_ ?_
 refine aL_X rfl rfl (AOp_boxP rfl va_ fun o5 ho5=>?_)
 refine s_ ?_
 refine aa_ ?_
 have hw:WR (σ.set o5 (.cells [.nilp o5 331 2,.lit (.slice none 0 0)])) o5 []:=⟨_,_,none,Store.set_get ..,.inr rfl,.inr ⟨rfl,rfl,rfl⟩⟩
 refine rr_ ?_
 iterate 2 refine s_ ?_
 refine x_ g_ va_ (lt_ hw hs (by rw [List.length_nil];omega) hb) ?_;rintro _ τ1 ⟨rfl,a1,a2⟩
 refine aa_ ?_
 refine rr_ ?_
 refine s_ ?_
 refine x_ g_ va_ (gN_ a1 (by rw [List.nil_append];omega)) ?_;rintro _ τ2 ⟨rfl,c2⟩
 refine s_ ?_
 refine aa_ ?_
 refine ac_ ?_
 have h1:=WF.sub (x:=.cells [.nilp o5 331 2,.lit (.slice none 0 0)]) ho5 (a2.trans c2) (fun a t sz l hh=>by simp at hh)
 exact aE_ (σ':=σ) va_ (Store.Sub.wk h1) ⟨rfl,rfl⟩
def rgB (L:List Ent):List UInt8:=if ct_ L then bq_ entB L else []
theorem tz_ {L:List Ent} {t:Bool} {σ:Store} (hs:∀ x∈L,EntSm x) (hb:L.length≤1000000) (he:ct_ L=false):ACalls Tryz.prog 55 [.sl 4 (L.map sEnt) t] σ fun v σ'=>v=.tup [vStr (B (rgB L)),vInt 1]∧σ=σ':=by
 refine en_ Tryz.func55 Tryz.ntmps55 Tryz.results55 ?_
 refine rr_ ?_
 iterate 2 refine s_ ?_
 refine aa_ ?_
 refine ab_ ?_
 refine rr_ ?_
 refine s_ ?_
 refine x_ g_ va_ (eg_ hs hb) ?_;rintro _ _ ⟨rfl,rfl⟩
 refine s_ ?_
 refine aa_ ?_
 rw [he]
 refine cd_ (fun hc1=>?_) (fun hc1=>?_)
 ·refine rr_ ?_
  iterate 2 refine s_ ?_
  refine aa_ ?_
  refine ac_ ?_
  refine er_ σ ?_
  exact ⟨by rw [rgB,he];rfl,rfl⟩
 ·simp at hc1
theorem tA_ {L:List Ent} {t:Bool} {σ:Store} (hs:∀ x∈L,EntSm x) (hL:(L.flatMap entB).length≤100000000) (hb:L.length≤1000000) (he:ct_ L=true):ACalls Tryz.prog 55 [.sl 4 (L.map sEnt) t] σ fun v σ'=>v=.tup [vStr (B (rgB L)),vInt 0]∧σ=σ':=by
 refine en_ Tryz.func55 Tryz.ntmps55 Tryz.results55 ?_
 refine rr_ ?_
 iterate 2 refine s_ ?_
 refine aa_ ?_
 refine ab_ ?_
 refine rr_ ?_
 refine s_ ?_
 refine x_ g_ va_ (eg_ hs hb) ?_;rintro _ _ ⟨rfl,rfl⟩
 refine s_ ?_
 refine aa_ ?_
 rw [he]
 refine cd_ (fun hc1=>?_) (fun hc1=>?_)
 ·simp at hc1
 ·refine ae_ ?_
  refine rr_ ?_
  refine s_ ?_
  refine x_ g_ va_ (tB_ hs hL hb) ?_;rintro _ _ ⟨rfl,rfl⟩
  iterate 2 refine s_ ?_
  refine aa_ ?_
  refine ac_ ?_
  refine er_ σ ?_
  exact ⟨by rw [rgB,he];rfl,rfl⟩
theorem v7_ {L:List Ent} {t:Bool} {σ:Store} (hs:∀ x∈L,EntSm x) (hL:(L.flatMap entB).length≤100000000) (hb:L.length≤1000000):ACalls Tryz.prog 55 [.sl 4 (L.map sEnt) t] σ fun v σ'=>v=.tup [vStr (B (rgB L)),vInt (if ct_ L then 0 else 1)]∧σ=σ':=by
 cases he:ct_ L
 ·exact tz_ hs hb he
 ·exact tA_ hs hL hb he
theorem pO_ {l:List Ent} {n:Nat} (h:lS_ l n=true):(∀ x∈l,EntSm x)∧(l.flatMap entB).length≤1000 * n∧l.length≤n:=by
 simp only [lS_,Bool.and_eq_true,decide_eq_true_eq,List.all_eq_true] at h
 refine ⟨fun x hx=>by obtain ⟨h1,h2,h3⟩:=h.2 x hx;exact ⟨by omega,by omega,by omega⟩,?_,h.1⟩
 have:∀ m:List Ent,(∀ x∈m,x.key.size≤200∧x.who.size≤100∧x.value.size≤300)→(m.flatMap entB).length≤1000 * m.length:=by
  intro m
  induction m with
  |nil=>intro _;simp
  |cons x m ih =>
   intro hm
   obtain ⟨h1,h2,h3⟩:=hm x (List.mem_cons_self ..)
   have:=ih fun y hy=>hm y (List.mem_cons_of_mem _ hy)
   simp only [List.flatMap_cons,List.length_append,entB,ap_,am_,List.length_cons]
   omega
 have:=this l h.2
 have:=h.1
 omega
theorem nb_ {σ:Store}:ACalls Tryz.prog 59 [] σ fun v σ'=>∃ d,σ.heap d=none∧v=.ref d 0∧σ'=σ.set d (.cells [vNil,vInt 0]):=by
 refine en_ Tryz.func59 Tryz.ntmps59 Tryz.results59 ?_
 refine rr_ ?_
 refine s_ ?_
 refine aa_ ?_
 refine rr_ ?_
 refine s_ ?_
 refine bx_ fun o2 ho2=>?_
 repeat (rw [ad_] at ho2;obtain ⟨_,ho2⟩:=ho2)
 refine s_ ?_
 refine aa_ ?_
 refine ac_ ?_
 refine aE_ v_ (Store.Wk.refl _) ?_
 exact ⟨o2,ho2,rfl,rfl⟩
theorem lM_ {o:Nat} {s:ByteArray} {σ:Store} {m:Int} (h:σ.heap o=some (.cells [.sl 1 (aA_ s) false,vInt m])):ACalls Tryz.prog 83 [.ref o 0] σ fun v σ'=>v=.tup []∧σ'=σ.set o (.cells [.sl 1 (aA_ s) false,vInt s.size]):=by
 refine en_ Tryz.func83 Tryz.ntmps83 Tryz.results83 ?_
 refine ab_ ?_
 have R:=h
 refine r_ ?_
 iterate 2 refine s_ ?_
 refine aa_ ?_
 refine cd_ (fun hc0=>?_) (fun hc0=>?_)
 ·have R:=h
  refine r_ ?_
  iterate 8 refine s_ ?_
  refine st_ ?_
  refine aa_ ?_
  refine aD_ (σ':=σ.set o (.cells [.sl 1 (aA_ s) false,vInt s.size])) v_ sub_ ?_
  exact ⟨rfl,rfl⟩
 ·cases hc0
theorem lL_ {o:Nat} {t:ByteArray} {σ:Store} {a:AVal} {m:Int} (h:σ.heap o=some (.cells [a,vInt m])):ACalls Tryz.prog 60 [.ref o 0,vStr t] σ fun v σ'=>v=.tup []∧σ'=σ.set o (.cells [.sl 1 (aA_ t) false,vInt t.size]):=by
 refine en_ Tryz.func60 Tryz.ntmps60 Tryz.results60 ?_
 refine ab_ ?_
 have R:=h
 refine r_ ?_
 iterate 2 refine s_ ?_
 refine aa_ ?_
 refine cd_ (fun hc0=>?_) (fun hc0=>?_)
 ·refine ab_ ?_
  have R:=h
  refine r_ ?_
  iterate 2 refine s_ ?_
  refine e7_ rfl rfl rfl g_ g_ g_ v_ ?_
  iterate 2 refine s_ ?_
  refine st_ ?_
  refine aa_ ?_
  have R:=h
  refine r_ ?_
  refine s_ ?_
  refine x_ g_ va_ (lM_ h_) ?_;rintro _ _ ⟨rfl,rfl⟩
  refine aa_ ?_
  refine aD_ (σ':=σ.set o (.cells [.sl 1 (aA_ t) false,vInt t.size])) v_ sub_ ?_
  exact ⟨rfl,rfl⟩
 ·cases hc0
@[reducible] def ndO (s:ByteArray) (L:List Ent) (d m:Nat):AObj:=.cells [vStr s,vB true,vInt 0,vInt 1,.ref d 0,.sl 4 (L.map sEnt) false,vNil,.map m,vNil,vNil]
theorem u6_ {s:ByteArray} {L:List Ent} {t:Bool} {σ:Store} (hn:s.size≤1000000000000) (hs:∀ x∈L,EntSm x) (hL:(L.flatMap entB).length≤10000000) (hb:L.length≤1000000):ACalls Tryz.prog 18 [vStr s,.sl 4 (L.map sEnt) t] σ fun v σ' =>
  ∃ V e,v=.tup [V,vInt e]∧((V=vNn∧e=1∧σ'=σ)∨ct_ L=true∧∃ g d m,V=.ref g 0∧e=0∧σ.Sub σ'∧σ'.heap g=some (ndO s L d m)):=by
 have hF:(rgB L).length≤100000000:=by unfold rgB;split <;> simp only [bq_,List.length_append,am_,List.length_nil] <;> omega
 refine en_ Tryz.func18 Tryz.ntmps18 Tryz.results18 ?_
 refine rr_ ?_
 iterate 2 refine s_ ?_
 refine aa_ ?_
 refine rr_ ?_
 refine s_ ?_
 refine x_ g_ va_ (v7_ hs (by omega) hb) ?_;rintro _ _ ⟨rfl,rfl⟩
 iterate 5 refine s_ ?_
 refine aa_ ?_
 refine ab_ ?_
 refine rr_ ?_
 refine s_ ?_
 refine x_ g_ va_ (cF_ hn) ?_;rintro _ _ ⟨rfl,rfl⟩
 iterate 2 refine s_ ?_
 refine gf_ ?_
 refine gf_ ?_
 refine s_ ?_
 refine aa_ ?_
 refine cd_ (fun hc2=>?_) (fun hc2=>?_)
 ·refine rr_ ?_
  iterate 2 refine s_ ?_
  refine aa_ ?_
  refine ac_ ?_
  refine er_ σ ?_
  exact ⟨_,_,rfl,.inl ⟨rfl,rfl,rfl⟩⟩
 ·have he:ct_ L=true:=by cases h:ct_ L <;> simp_all
  refine ae_ ?_
  refine rr_ ?_
  refine s_ ?_
  refine x_ g_ va_ (nb_) ?_;rintro _ _ ⟨d,hd,rfl,rfl⟩
  refine s_ ?_
  refine x_ g_ va_ (kp_ hb) ?_;rintro _ _ ⟨rfl,rfl⟩
  refine aL_X rfl rfl (AOp_makeMap rfl fun o25 ho25=>?_)
  repeat (rw [ad_] at ho25;obtain ⟨_,ho25⟩:=ho25)
  refine s_ ?_
  refine bx_ fun o27 ho27=>?_
  repeat (rw [ad_] at ho27;obtain ⟨_,ho27⟩:=ho27)
  refine s_ ?_
  refine aa_ ?_
  refine ab_ ?_
  refine aL_ (.op 0 0 (.op 1 0 (.op 2 0 (.op 3 0 (.op 4 0 (.op 5 1 (.op 6 2 .nil))))))) Tryz.mixed kr_ ?_
  iterate 5 refine ds_ ?_
  refine dx_ o_ g_ va_ (uL_ hF) ?_;rintro _ _ ⟨rfl,rfl⟩;refine ⟨sub_,?_⟩
  refine tx_ o_ g_ va_ (lL_ h_) ?_;rintro _ _ ⟨rfl,rfl⟩
  refine aG_ ?_
  refine rr_ ?_
  iterate 3 refine s_ ?_
  refine aa_ ?_
  refine ac_ ?_
  exact aE_ va_ (Store.Wk.refl _) ⟨_,_,rfl,.inr ⟨he,o27,d,o25,rfl,rfl,sub_,by simp (disch:=omega) only [Store.set_ne,Store.set_get]⟩⟩
end Go.Proofs.YtkjfpgjpeofndaaGreatDoor
end

section
set_option linter.all false
set_option maxRecDepth 100000
namespace Go.Proofs.YtkjfpgjpeofndaaGreatDoor
open Go.Ab
abbrev j8_:ByteArray:=⟨#[107,101,121]⟩
abbrev tkT:ByteArray:=⟨#[116]⟩
abbrev mq_:ByteArray:=⟨#[97,110,110]⟩
abbrev v8_:AVal:=.agg [vStr tkT,vStr j8_,vInt 0,vInt 1048576,vInt 1048576,vInt 64]
structure Ac0 where
 kind:Int
 n:Int
 cal:Cal
 bytes:List UInt8
@[reducible] def sAc0 (a:Ac0):AVal:=.agg [vInt a.kind,vInt a.n,vInt a.cal.kind,vStr a.cal.token,vStr a.cal.bucket,vStr a.cal.key,vStr a.cal.value,.sl 3 (a.cal.ctx.map aM_) false,vInt a.cal.time,vStr (B a.bytes)]
def rj_ (c:Cal):Bool:=decide (c.token.size≤300) && (decide (c.bucket.size≤100) && (decide (c.key.size≤100) && (decide (c.value.size≤300) && ng_ c.ctx)))
theorem sq_ {c:Cal} {σ:Store}:ACalls Tryz.prog 21 [sCal c] σ fun v σ'=>v=vB (rj_ c)∧σ=σ':=by
 refine en_ Tryz.func21 Tryz.ntmps21 Tryz.results21 ?_
 refine rr_ ?_
 refine bx_ fun o1 ho1=>?_
 repeat (rw [ad_] at ho1;obtain ⟨_,ho1⟩:=ho1)
 refine s_ ?_
 refine aa_ ?_
 refine rr_ ?_
 iterate 5 refine s_ ?_
 refine gt_ ?_
 refine gt_ ?_
 refine gt_ ?_
 refine gt_ ?_
 iterate 2 refine s_ ?_
 refine gt_ ?_
 refine gt_ ?_
 refine gt_ ?_
 refine gt_ ?_
 iterate 2 refine s_ ?_
 refine gt_ ?_
 refine gt_ ?_
 refine gt_ ?_
 refine gt_ ?_
 iterate 2 refine s_ ?_
 refine gt_ ?_
 refine gt_ ?_
 refine bQ_ rfl rfl v_ rfl (fun hb=>aw_ (by rfl) (by rfl) (.inr ⟨by rfl,by rfl,by rfl⟩) g_ cg_ (sp_)) ?_
 iterate 2 refine s_ ?_
 refine aa_ ?_
 refine ac_ ?_
 refine er_ σ ?_
 exact ⟨by simp only [rj_];rw [AVal.lit.injEq,Value.bool.injEq,Bool.eq_iff_iff];simp only [Bool.and_eq_true,decide_eq_true_eq,and_assoc];constructor <;> (rintro ⟨h1,h2,h3,h4,h5⟩;exact ⟨by omega,by omega,by omega,by omega,h5⟩),rfl⟩
theorem sr_ {a:Ac0} {t:Bool} {σ:Store}:ACalls Tryz.prog 4 [.sl 10 [sAc0 a] t,vInt 1] σ fun v σ'=>(∃ r,v=vB r∧(r=true→a.bytes.length≤1024))∧σ=σ':=by
 refine en_ Tryz.func4 Tryz.ntmps4 Tryz.results4 ?_
 refine rr_ ?_
 refine s_ ?_
 refine aa_ ?_
 refine ab_ ?_
 refine rr_ ?_
 refine s_ ?_
 refine aa_ ?_
 refine ah_ ?_
 refine ak_ (ι:=Nat) (fun k=>1 - k) (fun k=>k≤1∧(k=1→a.bytes.length≤1024)) (fun k=>[(0,.sl 10 [sAc0 a] t),(1,vInt 1),(5,vInt k)]) (fun k=>σ) 0 ?_ ?_ ?_ ?_
 ·exact ⟨Nat.zero_le _,fun h=>by cases h⟩
 ·exact cv_
 ·exact sub_
 rintro k ⟨hk,ha⟩
 simp only [ar_,av_]
 refine ab_ ?_
 refine rr_ ?_
 iterate 5 refine s_ ?_
 refine gt_ ?_
 refine gt_ ?_
 refine gt_ ?_
 refine s_ ?_
 refine aa_ ?_
 refine cd_ (fun hc2=>?_) (fun hc2=>?_)
 ·refine ae_ ?_
  refine ab_ ?_
  refine ah_ ?_
  refine ab_ ?_
  obtain rfl:k=0:=by omega
  refine r_ ?_
  iterate 5 refine s_ ?_
  refine x_ g_ va_ (sq_) ?_;rintro _ _ ⟨rfl,rfl⟩
  iterate 2 refine s_ ?_
  refine gf_ ?_
  refine gf_ ?_
  refine gf_ ?_
  refine gf_ ?_
  refine gf_ ?_
  refine gf_ ?_
  refine gf_ ?_
  refine s_ ?_
  refine aa_ ?_
  refine cd_ (fun hc4=>?_) (fun hc4=>?_)
  ·refine rr_ ?_
   refine s_ ?_
   refine aa_ ?_
   refine ac_ ?_
   refine er_ σ ?_
   exact ⟨⟨false,rfl,fun h=>by cases h⟩,rfl⟩
  ·refine ae_ ?_
   refine r_ ?_
   iterate 3 refine s_ ?_
   refine aa_ ?_
   refine bb_ (ι:=Nat) (i:=0) 1 ?_ ?_ ?_ ?_
   ·decide
   ·exact ⟨by omega,fun _=>by have h:=hc4.2;have e:=bI_ a.bytes;omega⟩
   ·exact cv_
   ·exact sub_
 ·refine ay_ ?_
  refine af_ ?_
  refine af_ ?_
  refine aq_ ?_
  refine rr_ ?_
  iterate 5 refine s_ ?_
  refine aa_ ?_
  refine ac_ ?_
  refine er_ σ ?_
  exact ⟨⟨_,rfl,fun _=>ha (by omega)⟩,rfl⟩
theorem od_ {σ:Store}:ACalls Tryz.prog 27 [vInt 0] σ fun v σ'=>v=v8_∧σ=σ':=by
 refine en_ Tryz.func27 Tryz.ntmps27 Tryz.results27 ?_
 refine rr_ ?_
 refine lc_ fun o2 ho2=>?_
 repeat (rw [ad_] at ho2;obtain ⟨_,ho2⟩:=ho2)
 refine aa_ ?_
 refine rr_ ?_
 iterate 4 refine s_ ?_
 refine st_ ?_
 refine aa_ ?_
 refine ac_ ?_
 refine er_ σ ?_
 exact ⟨rfl,rfl⟩
theorem lg_ {c:Cal} {tk:ByteArray} {σ:Store} (hT:∀ σ:Store,ACalls Tryz.prog 76 [vStr j8_,vStr tkT,vStr mq_,vInt 1099511627776] σ fun v σ'=>v=vStr tk∧σ=σ'):ACalls Tryz.prog 26 [v8_,sCal c] σ fun v σ'=>v=sCal { c with token:=tk }∧σ=σ':=by
 refine en_ Tryz.func26 Tryz.ntmps26 Tryz.results26 ?_
 refine rr_ ?_
 refine bx_ fun o2 ho2=>?_
 repeat (rw [ad_] at ho2;obtain ⟨_,ho2⟩:=ho2)
 refine bx_ fun o3 ho3=>?_
 repeat (rw [ad_] at ho3;obtain ⟨_,ho3⟩:=ho3)
 refine lc_ fun o4 ho4=>?_
 repeat (rw [ad_] at ho4;obtain ⟨_,ho4⟩:=ho4)
 refine aa_ ?_
 refine rr_ ?_
 iterate 4 refine s_ ?_
 refine x_ g_ va_ (hT _) ?_;rintro _ _ ⟨rfl,rfl⟩
 refine s_ ?_
 refine st_ ?_
 refine aa_ ?_
 refine rr_ ?_
 refine s_ ?_
 refine st_ ?_
 refine aa_ ?_
 refine ac_ ?_
 refine er_ σ ?_
 exact ⟨rfl,rfl⟩
theorem um_ {N:Nat} {s:ByteArray} {σ:Store} (hN:σ.heap N=some (.cells [vNil])):ACalls Tryz.prog 78 [.ref N 0,vStr s] σ fun v σ'=>v=vNil∧σ=σ':=by
 refine en_ Tryz.func78 Tryz.ntmps78 Tryz.results78 ?_
 refine ab_ ?_
 have R:=hN
 refine r_ ?_
 refine s_ ?_
 refine aa_ ?_
 refine ab_ ?_
 have R:=hN
 refine r_ ?_
 refine s_ ?_
 refine aa_ ?_
 refine ab_ ?_
 refine ab_ ?_
 have R:=hN
 refine r_ ?_
 refine s_ ?_
 refine aa_ ?_
 refine ah_ ?_
 refine ak_ (ι:=Unit) (fun _=>0) (fun _=>True) (fun _=>[(0,.ref N 0),(5,vNil),(6,vInt 0)]) (fun _=>σ) () ?_ ?_ ?_ ?_
 ·trivial
 ·exact cv_
 ·exact sub_
 rintro _ _
 simp only [ar_,av_]
 refine ab_ ?_
 refine ab_ ?_
 have R:=hN
 refine r_ ?_
 iterate 7 refine s_ ?_
 refine aa_ ?_
 refine cd_ (fun hc3=>?_) (fun hc3=>?_)
 ·simp at hc3
 ·refine ay_ ?_
  refine af_ ?_
  refine af_ ?_
  refine aq_ ?_
  refine ab_ ?_
  have R:=hN
  refine r_ ?_
  iterate 2 refine s_ ?_
  refine aa_ ?_
  refine ac_ ?_
  refine er_ σ ?_
  exact ⟨rfl,rfl⟩
theorem o5_ {N:Nat} {s:ByteArray} {k:Int} {σ:Store} (hN:σ.heap N=some (.cells [vNil])):ACalls Tryz.prog 30 [.ref N 0,vStr s,vInt k] σ fun v σ'=>v=.tup [vE0,vB false]∧σ=σ':=by
 refine en_ Tryz.func30 Tryz.ntmps30 Tryz.results30 ?_
 refine rr_ ?_
 iterate 2 refine s_ ?_
 refine aa_ ?_
 refine rr_ ?_
 iterate 2 refine s_ ?_
 refine x_ g_ va_ (um_ hN) ?_;rintro _ _ ⟨rfl,rfl⟩
 refine s_ ?_
 refine aa_ ?_
 refine ab_ ?_
 refine rr_ ?_
 iterate 3 refine s_ ?_
 refine aa_ ?_
 refine cd_ (fun hc2=>?_) (fun hc2=>?_)
 ·refine rr_ ?_
  iterate 2 refine s_ ?_
  refine aa_ ?_
  refine ac_ ?_
  refine er_ σ ?_
  exact ⟨rfl,rfl⟩
 ·simp at hc2
theorem w4_ {X N:Nat}  {a:Ac0} {tk:ByteArray} {σ:Store} (hX:σ.heap X=some (.cells [.lit (.pointer none),.ref N 0])) (hN:σ.heap N=some (.cells [vNil]))  (hT:∀ σ:Store,ACalls Tryz.prog 76 [vStr j8_,vStr tkT,vStr mq_,vInt 1099511627776] σ fun v σ'=>v=vStr tk∧σ=σ') (hb:a.bytes.length≤1024) :
  ACalls Tryz.prog 7 [.ref X 0,sAc0 a] σ fun v σ'=>v=.tup []∧σ=σ':=by
 refine en_ Tryz.func7 Tryz.ntmps7 Tryz.results7 ?_
 refine ab_ ?_
 have R:=And.intro hX hN
 refine r_ ?_
 refine bx_ fun o3 ho3=>?_
 repeat (rw [ad_] at ho3;obtain ⟨_,ho3⟩:=ho3)
 refine aa_ ?_
 have n1:=an_ hX ho3;have n2:=an_ hN ho3
 refine bw_ (ι:=Unit) (fun _=>True) (fun _=>[(0,.ref X 0)]) (fun _=>(σ.set o3 (.cells (sAc0 a).cells))) ?_ ?_
 ·refine ab_ ?_
  have R:=And.intro hX hN
  refine r_ ?_
  iterate 2 refine s_ ?_
  refine aa_ ?_
  refine ah_ ?_
  refine ab_ ?_
  have R:=And.intro hX hN
  refine r_ ?_
  iterate 2 refine s_ ?_
  refine aa_ ?_
  refine cd_ (fun hc2=>?_) (fun hc2=>?_)
  ·have R:=And.intro hX hN
   refine aL_ (.op 0 0 (.op 1 0 (.op 2 0 (.op 3 0 (.op 5 0 (.op 6 0 (.op 4 1 (.op 7 1 (.op 8 2 .nil))))))))) Tryz.mixed kr_ ?_
   iterate 6 refine ds_ ?_
   refine dx_ o_ g_ va_ (od_) ?_;rintro _ _ ⟨rfl,rfl⟩;refine ⟨sub_,?_⟩
   refine dx_ o_ g_ va_ (lg_ (c:=a.cal) hT) ?_;rintro _ _ ⟨rfl,rfl⟩;refine ⟨sub_,?_⟩
   refine tx_ o_ g_ va_ (sa_ (c:={ a.cal with token:=tk })) ?_;rintro _ _ ⟨rfl,rfl⟩
   refine aG_ ?_
   refine ⟨(),?_,?_,?_⟩
   ·trivial
   ·exact cv_
   ·exact Store.Wk.refl _
  ·refine ab_ ?_
   have R:=And.intro hX hN
   refine r_ ?_
   iterate 2 refine s_ ?_
   refine aa_ ?_
   refine cd_ (fun hc4=>?_) (fun hc4=>?_)
   ·refine ab_ ?_
    have R:=And.intro hX hN
    refine aL_ (.op 0 0 (.op 1 0 (.op 2 0 (.op 3 0 (.op 4 0 (.op 5 0 (.op 6 1 (.op 7 0 (.op 8 0 (.op 9 0 (.op 10 0 (.op 11 0 .nil)))))))))))) Tryz.mixed kr_ ?_
    iterate 6 refine ds_ ?_
    refine dx_ o_ g_ va_ (o5_ h_) ?_;rintro _ _ ⟨rfl,rfl⟩;refine ⟨sub_,?_⟩
    iterate 5 refine ds_ ?_
    refine aG_ ?_
    refine ab_ ?_
    have R:=And.intro hX hN
    refine r_ ?_
    refine s_ ?_
    refine aa_ ?_
    refine cd_ (fun hc6=>?_) (fun hc6=>?_)
    ·cases hc6
    ·refine ae_ ?_
     refine ⟨(),?_,?_,?_⟩
     ·trivial
     ·exact cv_
     ·exact Store.Wk.refl _
   ·refine ab_ ?_
    have R:=And.intro hX hN
    refine r_ ?_
    iterate 2 refine s_ ?_
    refine aa_ ?_
    refine cd_ (fun hc8=>?_) (fun hc8=>?_)
    ·have R:=And.intro hX hN
     refine r_ ?_
     iterate 4 refine s_ ?_
     refine x_ g_ va_ (ky_) ?_;rintro _ _ ⟨rfl,rfl⟩
     refine aa_ ?_
     refine ⟨(),?_,?_,?_⟩
     ·trivial
     ·exact cv_
     ·exact Store.Wk.refl _
    ·refine ab_ ?_
     have R:=And.intro hX hN
     refine r_ ?_
     iterate 2 refine s_ ?_
     refine aa_ ?_
     refine cd_ (fun hc10=>?_) (fun hc10=>?_)
     ·have R:=And.intro hX hN
      refine r_ ?_
      iterate 4 refine s_ ?_
      refine x_ g_ va_ (ky_) ?_;rintro _ _ ⟨rfl,rfl⟩
      refine aa_ ?_
      refine ⟨(),?_,?_,?_⟩
      ·trivial
      ·exact cv_
      ·exact Store.Wk.refl _
     ·refine ab_ ?_
      have R:=And.intro hX hN
      refine r_ ?_
      iterate 2 refine s_ ?_
      refine aa_ ?_
      refine cd_ (fun hc12=>?_) (fun hc12=>?_)
      ·have R:=And.intro hX hN
       refine r_ ?_
       iterate 4 refine s_ ?_
       refine x_ g_ va_ (tU_) ?_;rintro _ _ ⟨rfl,rfl⟩
       refine aa_ ?_
       refine ⟨(),?_,?_,?_⟩
       ·trivial
       ·exact cv_
       ·exact Store.Wk.refl _
      ·refine ab_ ?_
       have R:=And.intro hX hN
       refine r_ ?_
       iterate 2 refine s_ ?_
       refine aa_ ?_
       refine cd_ (fun hc14=>?_) (fun hc14=>?_)
       ·have R:=And.intro hX hN
        refine aL_ (.op 0 0 (.op 1 0 (.op 2 0 (.op 3 0 (.op 4 0 (.op 5 0 (.op 6 2 .nil))))))) Tryz.mixed kr_ ?_
        iterate 6 refine ds_ ?_
        refine tx_ o_ g_ va_ (pH_) ?_;rintro _ _ ⟨rfl,rfl⟩
        refine aG_ ?_
        refine ⟨(),?_,?_,?_⟩
        ·trivial
        ·exact cv_
        ·exact Store.Wk.refl _
       ·refine ab_ ?_
        have R:=And.intro hX hN
        refine r_ ?_
        iterate 2 refine s_ ?_
        refine aa_ ?_
        refine cd_ (fun hc16=>?_) (fun hc16=>?_)
        ·have R:=And.intro hX hN
         refine r_ ?_
         iterate 4 refine s_ ?_
         refine x_ g_ va_ (qS_) ?_;rintro _ _ ⟨rfl,rfl⟩
         refine aa_ ?_
         refine ⟨(),?_,?_,?_⟩
         ·trivial
         ·exact cv_
         ·exact Store.Wk.refl _
        ·refine ab_ ?_
         have R:=And.intro hX hN
         refine r_ ?_
         iterate 2 refine s_ ?_
         refine aa_ ?_
         refine cd_ (fun hc18=>?_) (fun hc18=>?_)
         ·have R:=And.intro hX hN
          refine aL_ (.op 0 0 (.op 1 0 (.op 2 0 (.op 3 0 (.op 4 0 (.op 5 0 (.op 6 2 .nil))))))) Tryz.mixed kr_ ?_
          iterate 6 refine ds_ ?_
          refine tx_ o_ g_ va_ (me_   (by omega)) ?_;rintro _ _ ⟨rfl,rfl⟩
          refine aG_ ?_
          refine ⟨(),?_,?_,?_⟩
          ·trivial
          ·exact cv_
          ·exact Store.Wk.refl _
         ·refine ab_ ?_
          have R:=And.intro hX hN
          refine r_ ?_
          iterate 2 refine s_ ?_
          refine aa_ ?_
          refine cd_ (fun hc20=>?_) (fun hc20=>?_)
          ·have R:=And.intro hX hN
           refine aL_ (.op 0 0 (.op 1 0 (.op 2 0 (.op 3 0 (.op 4 0 (.op 5 0 (.op 6 2 .nil))))))) Tryz.mixed kr_ ?_
           iterate 6 refine ds_ ?_
           refine tx_ o_ g_ va_ (tq_) ?_;rintro _ _ ⟨rfl,rfl⟩
           refine aG_ ?_
           refine ⟨(),?_,?_,?_⟩
           ·trivial
           ·exact cv_
           ·exact Store.Wk.refl _
          ·refine ab_ ?_
           have R:=And.intro hX hN
           refine r_ ?_
           iterate 2 refine s_ ?_
           refine aa_ ?_
           refine cd_ (fun hc22=>?_) (fun hc22=>?_)
           ·have R:=And.intro hX hN
            refine r_ ?_
            iterate 4 refine s_ ?_
            refine x_ g_ va_ (lH_) ?_;rintro _ _ ⟨rfl,rfl⟩
            refine aa_ ?_
            refine ⟨(),?_,?_,?_⟩
            ·trivial
            ·exact cv_
            ·exact Store.Wk.refl _
           ·refine ab_ ?_
            have R:=And.intro hX hN
            refine r_ ?_
            iterate 2 refine s_ ?_
            refine aa_ ?_
            refine cd_ (fun hc24=>?_) (fun hc24=>?_)
            ·have R:=And.intro hX hN
             refine r_ ?_
             iterate 4 refine s_ ?_
             refine x_ g_ va_ (jF_) ?_;rintro _ _ ⟨rfl,rfl⟩
             refine aa_ ?_
             refine ⟨(),?_,?_,?_⟩
             ·trivial
             ·exact cv_
             ·exact Store.Wk.refl _
            ·refine ab_ ?_
             have R:=And.intro hX hN
             refine r_ ?_
             iterate 2 refine s_ ?_
             refine aa_ ?_
             refine cd_ (fun hc26=>?_) (fun hc26=>?_)
             ·have R:=And.intro hX hN
              refine r_ ?_
              iterate 4 refine s_ ?_
              refine x_ g_ va_ (sz_) ?_;rintro _ _ ⟨rfl,rfl⟩
              refine aa_ ?_
              refine ⟨(),?_,?_,?_⟩
              ·trivial
              ·exact cv_
              ·exact Store.Wk.refl _
             ·refine ab_ ?_
              have R:=And.intro hX hN
              refine r_ ?_
              iterate 2 refine s_ ?_
              refine aa_ ?_
              refine cd_ (fun hc28=>?_) (fun hc28=>?_)
              ·have R:=And.intro hX hN
               refine r_ ?_
               iterate 4 refine s_ ?_
               refine x_ g_ va_ (no_) ?_;rintro _ _ ⟨rfl,rfl⟩
               refine aa_ ?_
               refine ⟨(),?_,?_,?_⟩
               ·trivial
               ·exact cv_
               ·exact Store.Wk.refl _
              ·refine ae_ ?_
               refine ⟨(),?_,?_,?_⟩
               ·trivial
               ·exact cv_
               ·exact Store.Wk.refl _
 ·rintro _ _
  simp only [ar_,av_]
  refine ab_ ?_
  have R:=And.intro hX hN
  refine r_ ?_
  iterate 4 refine s_ ?_
  refine x_ g_ va_ (nT_) ?_;rintro _ _ ⟨rfl,rfl⟩
  refine s_ ?_
  refine aa_ ?_
  refine ab_ ?_
  have R:=And.intro hX hN
  refine r_ ?_
  refine s_ ?_
  refine aa_ ?_
  refine ah_ ?_
  refine ak_ (ι:=Unit) (fun _=>0) (fun _=>True) (fun _=>[(0,.ref X 0),(6,vNil),(7,vInt 0)]) (fun _=>(σ.set o3 (.cells (sAc0 a).cells))) () ?_ ?_ ?_ ?_
  ·trivial
  ·exact cv_
  ·exact sub_
  rintro _ _
  simp only [ar_,av_]
  refine ab_ ?_
  refine ab_ ?_
  have R:=And.intro hX hN
  refine r_ ?_
  iterate 4 refine s_ ?_
  refine aa_ ?_
  refine cd_ (fun hc32=>?_) (fun hc32=>?_)
  ·simp at hc32
  ·refine ay_ ?_
   refine af_ ?_
   refine af_ ?_
   refine aq_ ?_
   refine aD_ (σ':=σ) v_ sub_ ?_
   exact ⟨rfl,rfl⟩
theorem w5_ {X N:Nat} {g:Nat} {a:Ac0} {tk:ByteArray} {σ:Store} (hX:σ.heap X=some (.cells [.ref g 0,.ref N 0])) (hN:σ.heap N=some (.cells [vNil])) (hg:σ.heap g=some (.cells zNd)) (hT:∀ σ:Store,ACalls Tryz.prog 76 [vStr j8_,vStr tkT,vStr mq_,vInt 1099511627776] σ fun v σ'=>v=vStr tk∧σ=σ') (hb:a.bytes.length≤1024) :
  ACalls Tryz.prog 7 [.ref X 0,sAc0 a] σ fun v σ'=>v=.tup []∧σ=σ':=by
 refine en_ Tryz.func7 Tryz.ntmps7 Tryz.results7 ?_
 refine ab_ ?_
 have R:=And.intro hX (And.intro hN hg)
 refine r_ ?_
 refine bx_ fun o3 ho3=>?_
 repeat (rw [ad_] at ho3;obtain ⟨_,ho3⟩:=ho3)
 refine aa_ ?_
 have n1:=an_ hX ho3;have n2:=an_ hN ho3;have n3:=an_ hg ho3
 refine bw_ (ι:=Unit) (fun _=>True) (fun _=>[(0,.ref X 0)]) (fun _=>(σ.set o3 (.cells (sAc0 a).cells))) ?_ ?_
 ·refine ab_ ?_
  have R:=And.intro hX (And.intro hN hg)
  refine r_ ?_
  iterate 2 refine s_ ?_
  refine aa_ ?_
  refine ah_ ?_
  refine ab_ ?_
  have R:=And.intro hX (And.intro hN hg)
  refine r_ ?_
  iterate 2 refine s_ ?_
  refine aa_ ?_
  refine cd_ (fun hc2=>?_) (fun hc2=>?_)
  ·have R:=And.intro hX (And.intro hN hg)
   refine aL_ (.op 0 0 (.op 1 0 (.op 2 0 (.op 3 0 (.op 5 0 (.op 6 0 (.op 4 1 (.op 7 1 (.op 8 2 .nil))))))))) Tryz.mixed kr_ ?_
   iterate 6 refine ds_ ?_
   refine dx_ o_ g_ va_ (od_) ?_;rintro _ _ ⟨rfl,rfl⟩;refine ⟨sub_,?_⟩
   refine dx_ o_ g_ va_ (lg_ (c:=a.cal) hT) ?_;rintro _ _ ⟨rfl,rfl⟩;refine ⟨sub_,?_⟩
   refine tx_ o_ g_ va_ (sb_ (c:={ a.cal with token:=tk })  h_) ?_;rintro _ _ ⟨rfl,rfl⟩
   refine aG_ ?_
   refine ⟨(),?_,?_,?_⟩
   ·trivial
   ·exact cv_
   ·exact Store.Wk.refl _
  ·refine ab_ ?_
   have R:=And.intro hX (And.intro hN hg)
   refine r_ ?_
   iterate 2 refine s_ ?_
   refine aa_ ?_
   refine cd_ (fun hc4=>?_) (fun hc4=>?_)
   ·refine ab_ ?_
    have R:=And.intro hX (And.intro hN hg)
    refine aL_ (.op 0 0 (.op 1 0 (.op 2 0 (.op 3 0 (.op 4 0 (.op 5 0 (.op 6 1 (.op 7 0 (.op 8 0 (.op 9 0 (.op 10 0 (.op 11 0 .nil)))))))))))) Tryz.mixed kr_ ?_
    iterate 6 refine ds_ ?_
    refine dx_ o_ g_ va_ (o5_ h_) ?_;rintro _ _ ⟨rfl,rfl⟩;refine ⟨sub_,?_⟩
    iterate 5 refine ds_ ?_
    refine aG_ ?_
    refine ab_ ?_
    have R:=And.intro hX (And.intro hN hg)
    refine r_ ?_
    refine s_ ?_
    refine aa_ ?_
    refine cd_ (fun hc6=>?_) (fun hc6=>?_)
    ·cases hc6
    ·refine ae_ ?_
     refine ⟨(),?_,?_,?_⟩
     ·trivial
     ·exact cv_
     ·exact Store.Wk.refl _
   ·refine ab_ ?_
    have R:=And.intro hX (And.intro hN hg)
    refine r_ ?_
    iterate 2 refine s_ ?_
    refine aa_ ?_
    refine cd_ (fun hc8=>?_) (fun hc8=>?_)
    ·have R:=And.intro hX (And.intro hN hg)
     refine r_ ?_
     iterate 4 refine s_ ?_
     refine x_ g_ va_ (kz_  h_) ?_;rintro _ _ ⟨rfl,rfl⟩
     refine aa_ ?_
     refine ⟨(),?_,?_,?_⟩
     ·trivial
     ·exact cv_
     ·exact Store.Wk.refl _
    ·refine ab_ ?_
     have R:=And.intro hX (And.intro hN hg)
     refine r_ ?_
     iterate 2 refine s_ ?_
     refine aa_ ?_
     refine cd_ (fun hc10=>?_) (fun hc10=>?_)
     ·have R:=And.intro hX (And.intro hN hg)
      refine r_ ?_
      iterate 4 refine s_ ?_
      refine x_ g_ va_ (kz_  h_) ?_;rintro _ _ ⟨rfl,rfl⟩
      refine aa_ ?_
      refine ⟨(),?_,?_,?_⟩
      ·trivial
      ·exact cv_
      ·exact Store.Wk.refl _
     ·refine ab_ ?_
      have R:=And.intro hX (And.intro hN hg)
      refine r_ ?_
      iterate 2 refine s_ ?_
      refine aa_ ?_
      refine cd_ (fun hc12=>?_) (fun hc12=>?_)
      ·have R:=And.intro hX (And.intro hN hg)
       refine r_ ?_
       iterate 4 refine s_ ?_
       refine x_ g_ va_ (tV_  h_) ?_;rintro _ _ ⟨rfl,rfl⟩
       refine aa_ ?_
       refine ⟨(),?_,?_,?_⟩
       ·trivial
       ·exact cv_
       ·exact Store.Wk.refl _
      ·refine ab_ ?_
       have R:=And.intro hX (And.intro hN hg)
       refine r_ ?_
       iterate 2 refine s_ ?_
       refine aa_ ?_
       refine cd_ (fun hc14=>?_) (fun hc14=>?_)
       ·have R:=And.intro hX (And.intro hN hg)
        refine aL_ (.op 0 0 (.op 1 0 (.op 2 0 (.op 3 0 (.op 4 0 (.op 5 0 (.op 6 2 .nil))))))) Tryz.mixed kr_ ?_
        iterate 6 refine ds_ ?_
        refine tx_ o_ g_ va_ (pI_  h_) ?_;rintro _ _ ⟨rfl,rfl⟩
        refine aG_ ?_
        refine ⟨(),?_,?_,?_⟩
        ·trivial
        ·exact cv_
        ·exact Store.Wk.refl _
       ·refine ab_ ?_
        have R:=And.intro hX (And.intro hN hg)
        refine r_ ?_
        iterate 2 refine s_ ?_
        refine aa_ ?_
        refine cd_ (fun hc16=>?_) (fun hc16=>?_)
        ·have R:=And.intro hX (And.intro hN hg)
         refine r_ ?_
         iterate 4 refine s_ ?_
         refine x_ g_ va_ (qT_  h_) ?_;rintro _ _ ⟨rfl,rfl⟩
         refine aa_ ?_
         refine ⟨(),?_,?_,?_⟩
         ·trivial
         ·exact cv_
         ·exact Store.Wk.refl _
        ·refine ab_ ?_
         have R:=And.intro hX (And.intro hN hg)
         refine r_ ?_
         iterate 2 refine s_ ?_
         refine aa_ ?_
         refine cd_ (fun hc18=>?_) (fun hc18=>?_)
         ·have R:=And.intro hX (And.intro hN hg)
          refine aL_ (.op 0 0 (.op 1 0 (.op 2 0 (.op 3 0 (.op 4 0 (.op 5 0 (.op 6 2 .nil))))))) Tryz.mixed kr_ ?_
          iterate 6 refine ds_ ?_
          refine tx_ o_ g_ va_ (mf_  h_ (by omega)) ?_;rintro _ _ ⟨rfl,rfl⟩
          refine aG_ ?_
          refine ⟨(),?_,?_,?_⟩
          ·trivial
          ·exact cv_
          ·exact Store.Wk.refl _
         ·refine ab_ ?_
          have R:=And.intro hX (And.intro hN hg)
          refine r_ ?_
          iterate 2 refine s_ ?_
          refine aa_ ?_
          refine cd_ (fun hc20=>?_) (fun hc20=>?_)
          ·have R:=And.intro hX (And.intro hN hg)
           refine aL_ (.op 0 0 (.op 1 0 (.op 2 0 (.op 3 0 (.op 4 0 (.op 5 0 (.op 6 2 .nil))))))) Tryz.mixed kr_ ?_
           iterate 6 refine ds_ ?_
           refine tx_ o_ g_ va_ (tr_  h_) ?_;rintro _ _ ⟨rfl,rfl⟩
           refine aG_ ?_
           refine ⟨(),?_,?_,?_⟩
           ·trivial
           ·exact cv_
           ·exact Store.Wk.refl _
          ·refine ab_ ?_
           have R:=And.intro hX (And.intro hN hg)
           refine r_ ?_
           iterate 2 refine s_ ?_
           refine aa_ ?_
           refine cd_ (fun hc22=>?_) (fun hc22=>?_)
           ·have R:=And.intro hX (And.intro hN hg)
            refine r_ ?_
            iterate 4 refine s_ ?_
            refine x_ g_ va_ (lI_  h_) ?_;rintro _ _ ⟨rfl,rfl⟩
            refine aa_ ?_
            refine ⟨(),?_,?_,?_⟩
            ·trivial
            ·exact cv_
            ·exact Store.Wk.refl _
           ·refine ab_ ?_
            have R:=And.intro hX (And.intro hN hg)
            refine r_ ?_
            iterate 2 refine s_ ?_
            refine aa_ ?_
            refine cd_ (fun hc24=>?_) (fun hc24=>?_)
            ·have R:=And.intro hX (And.intro hN hg)
             refine r_ ?_
             iterate 4 refine s_ ?_
             refine x_ g_ va_ (jG_  h_) ?_;rintro _ _ ⟨rfl,rfl⟩
             refine aa_ ?_
             refine ⟨(),?_,?_,?_⟩
             ·trivial
             ·exact cv_
             ·exact Store.Wk.refl _
            ·refine ab_ ?_
             have R:=And.intro hX (And.intro hN hg)
             refine r_ ?_
             iterate 2 refine s_ ?_
             refine aa_ ?_
             refine cd_ (fun hc26=>?_) (fun hc26=>?_)
             ·have R:=And.intro hX (And.intro hN hg)
              refine r_ ?_
              iterate 4 refine s_ ?_
              refine x_ g_ va_ (sA_  h_) ?_;rintro _ _ ⟨rfl,rfl⟩
              refine aa_ ?_
              refine ⟨(),?_,?_,?_⟩
              ·trivial
              ·exact cv_
              ·exact Store.Wk.refl _
             ·refine ab_ ?_
              have R:=And.intro hX (And.intro hN hg)
              refine r_ ?_
              iterate 2 refine s_ ?_
              refine aa_ ?_
              refine cd_ (fun hc28=>?_) (fun hc28=>?_)
              ·have R:=And.intro hX (And.intro hN hg)
               refine r_ ?_
               iterate 4 refine s_ ?_
               refine x_ g_ va_ (np_  h_) ?_;rintro _ _ ⟨rfl,rfl⟩
               refine aa_ ?_
               refine ⟨(),?_,?_,?_⟩
               ·trivial
               ·exact cv_
               ·exact Store.Wk.refl _
              ·refine ae_ ?_
               refine ⟨(),?_,?_,?_⟩
               ·trivial
               ·exact cv_
               ·exact Store.Wk.refl _
 ·rintro _ _
  simp only [ar_,av_]
  refine ab_ ?_
  have R:=And.intro hX (And.intro hN hg)
  refine r_ ?_
  iterate 4 refine s_ ?_
  refine x_ g_ va_ (nU_  h_) ?_;rintro _ _ ⟨rfl,rfl⟩
  refine s_ ?_
  refine aa_ ?_
  refine ab_ ?_
  have R:=And.intro hX (And.intro hN hg)
  refine r_ ?_
  refine s_ ?_
  refine aa_ ?_
  refine ah_ ?_
  refine ak_ (ι:=Unit) (fun _=>0) (fun _=>True) (fun _=>[(0,.ref X 0),(6,vNil),(7,vInt 0)]) (fun _=>(σ.set o3 (.cells (sAc0 a).cells))) () ?_ ?_ ?_ ?_
  ·trivial
  ·exact cv_
  ·exact sub_
  rintro _ _
  simp only [ar_,av_]
  refine ab_ ?_
  refine ab_ ?_
  have R:=And.intro hX (And.intro hN hg)
  refine r_ ?_
  iterate 4 refine s_ ?_
  refine aa_ ?_
  refine cd_ (fun hc32=>?_) (fun hc32=>?_)
  ·simp at hc32
  ·refine ay_ ?_
   refine af_ ?_
   refine af_ ?_
   refine aq_ ?_
   refine aD_ (σ':=σ) v_ sub_ ?_
   exact ⟨rfl,rfl⟩
def NB (σ:Store) (V:AVal):Prop:=V=vNn∨∃ g,V=.ref g 0∧σ.heap g=some (.cells zNd)
section
variable {V:AVal} {σ:Store} {s:ByteArray}
theorem up_n (h:NB σ V):ACalls Tryz.prog 8 [V] σ fun v σ'=>v=vB false∧σ=σ':=by rcases h with rfl | ⟨g,rfl,hg⟩ <;> first | exact jh_ | exact ji_ hg
theorem vd_ (h:NB σ V):ACalls Tryz.prog 9 [V] σ fun v σ'=>v=vInt 0∧σ=σ':=by rcases h with rfl | ⟨g,rfl,hg⟩ <;> first | exact u9_ | exact vc_ hg
theorem rv_ (h:NB σ V):ACalls Tryz.prog 10 [V,vStr s] σ fun v σ'=>v=vInt 0∧σ=σ':=by rcases h with rfl | ⟨g,rfl,hg⟩ <;> first | exact s8_ | exact s9_ hg
theorem iH_ (h:NB σ V):ACalls Tryz.prog 11 [V] σ fun v σ'=>v=.sl 4 [] false∧σ=σ':=by rcases h with rfl | ⟨g,rfl,hg⟩ <;> first | exact lQ_ | exact lR_ hg
theorem rh_ (h:NB σ V):ACalls Tryz.prog 12 [V,vStr s] σ fun v σ'=>v=.agg [vNil,vNil]∧σ=σ':=by rcases h with rfl | ⟨g,rfl,hg⟩ <;> first | exact r8_ | exact r9_ hg
theorem rL_ (h:NB σ V):ACalls Tryz.prog 13 [V,vStr s] σ fun v σ'=>v=.agg [vNil,vNil]∧σ=σ':=by rcases h with rfl | ⟨g,rfl,hg⟩ <;> first | exact tQ_ | exact tR_ hg
theorem rq_ (h:NB σ V):ACalls Tryz.prog 14 [V] σ fun v σ'=>v=vNil∧σ=σ':=by rcases h with rfl | ⟨g,rfl,hg⟩ <;> first | exact nT_ | exact nU_ hg
theorem rO_ (h:NB σ V):ACalls Tryz.prog 15 [V] σ fun v σ'=>v=vNil∧σ=σ':=by rcases h with rfl | ⟨g,rfl,hg⟩ <;> first | exact tW_ | exact tX_ hg
theorem ii_ (h:NB σ V):ACalls Tryz.prog 16 [V,vStr s] σ fun v σ'=>v=vB false∧σ=σ':=by rcases h with rfl | ⟨g,rfl,hg⟩ <;> first | exact qX_ | exact qY_ hg
theorem mz_ (h:NB σ V):ACalls Tryz.prog 17 [V,tC_ ()] σ fun v σ'=>v=vInt 14∧σ=σ':=by rcases h with rfl | ⟨g,rfl,hg⟩ <;> first | exact po_ | exact pp_ hg
theorem do_n {X N:Nat} {a:Ac0} {tk:ByteArray} (hX:σ.heap X=some (.cells [V,.ref N 0])) (hN:σ.heap N=some (.cells [vNil])) (hT:∀ σ:Store,ACalls Tryz.prog 76 [vStr j8_,vStr tkT,vStr mq_,vInt 1099511627776] σ fun v σ'=>v=vStr tk∧σ=σ') (hb:a.bytes.length≤1024) (h:NB σ V) :
  ACalls Tryz.prog 7 [.ref X 0,sAc0 a] σ fun v σ'=>v=.tup []∧σ=σ':=by rcases h with rfl | ⟨g,rfl,hg⟩ <;> first | exact w4_ hX hN hT hb | exact w5_ hX hN hg hT hb
end
instance:DecidableEq Ent:=fun a b=>decidable_of_iff (a.key=b.key∧a.n=b.n∧a.who=b.who∧a.value=b.value) (by cases a;cases b;simp)
theorem fp_ {g d m:Nat} {s:ByteArray} {L:List Ent} {σ:Store} (hg:σ.heap g=some (ndO s L d m)) (hb:L.length≤1000000):ACalls Tryz.prog 11 [.ref g 0] σ fun v σ'=>v=.sl 4 (L.map sEnt) false∧σ=σ':=by
 refine en_ Tryz.func11 Tryz.ntmps11 Tryz.results11 ?_
 refine ab_ ?_
 have R:=hg
 refine r_ ?_
 refine s_ ?_
 refine aa_ ?_
 refine ab_ ?_
 refine ab_ ?_
 have R:=hg
 refine r_ ?_
 iterate 2 refine s_ ?_
 refine aa_ ?_
 refine cd_ (fun hc1=>?_) (fun hc1=>?_)
 ·cases hc1
 ·refine ae_ ?_
  refine ab_ ?_
  have R:=hg
  refine r_ ?_
  iterate 4 refine s_ ?_
  refine x_ g_ va_ (kp_ hb) ?_;rintro _ _ ⟨rfl,rfl⟩
  refine s_ ?_
  refine aa_ ?_
  refine ac_ ?_
  refine er_ σ ?_
  exact ⟨rfl,rfl⟩
theorem qj_ {a:Ac0} {l:List Ent} {name:ByteArray} {tk:ByteArray} {σ:Store} (hw:∀ σ:Store,ACalls Tryz.prog 6 [] σ fun v σ'=>v=vB true∧σ=σ') (hT:∀ σ:Store,ACalls Tryz.prog 76 [vStr j8_,vStr tkT,vStr mq_,vInt 1099511627776] σ fun v σ'=>v=vStr tk∧σ=σ') :
  ACalls Tryz.prog 3 [sAc0 a,.sl 4 (l.map sEnt) false,vStr name] σ fun v σ'=>v=vB true∧σ=σ':=by
 refine en_ Tryz.func3 Tryz.ntmps3 Tryz.results3 ?_
 refine rr_ ?_
 refine bx_ fun o3 ho3=>?_
 repeat (rw [ad_] at ho3;obtain ⟨_,ho3⟩:=ho3)
 refine s_ ?_
 refine aa_ ?_
 refine ab_ ?_
 refine rr_ ?_
 refine s_ ?_
 refine aJ_ rfl rfl rfl g_ g_ rfl rfl h_ c2_ (by decide) ?_
 refine x_ g_ va_ (sr_) ?_;rintro _ _ ⟨⟨fa,rfl,hfa⟩,rfl⟩
 iterate 2 refine s_ ?_
 refine gf_ ?_
 refine bi_ rfl rfl v_ rfl (fun hb=>aw_ (by rfl) (by rfl) (.inr ⟨by rfl,by rfl,by rfl⟩) g_ cg_ (ss_ (n:=30) (by decide))) ?_
 refine gf_ ?_
 iterate 2 refine s_ ?_
 refine gf_ ?_
 refine gf_ ?_
 refine gf_ ?_
 refine s_ ?_
 refine aa_ ?_
 refine cd_ (fun hc1=>?_) (fun hc1=>?_)
 ·refine rr_ ?_
  refine x_ g_ va_ (hw _) ?_;rintro _ _ ⟨rfl,rfl⟩
  refine s_ ?_
  refine aa_ ?_
  refine ac_ ?_
  refine er_ σ ?_
  exact ⟨rfl,rfl⟩
 ·have hF:fa=true∧lS_ l 30=true∧name.size≤100:=⟨hc1.1.1,hc1.1.2,by have h:=hc1.2;omega⟩
  obtain ⟨hb,hf,hn⟩:=hF
  replace hb:=hfa hb
  obtain ⟨hs,hL,hl⟩:=pO_ hf
  refine ae_ ?_
  refine rr_ ?_
  refine s_ ?_
  refine bx_ fun o29 ho29=>?_
  repeat (rw [ad_] at ho29;obtain ⟨_,ho29⟩:=ho29)
  refine aJ_ rfl rfl rfl g_ g_ rfl rfl h_ c2_ (by decide) ?_
  refine s_ ?_
  refine aa_ ?_
  have g29:29=29:=rfl
  refine ab_ ?_
  refine rr_ ?_
  refine s_ ?_
  refine aa_ ?_
  refine ah_ ?_
  refine ak_ (ι:=Nat) (fun i=>2 - i) (fun i=>i≤2) (fun i=>[(1,.sl 4 (l.map sEnt) false),(2,vStr name),(3,.ref o3 0),(7,.sl 1 [vNn,.ref o29 0] true),(8,vInt i)]) (fun i=>((σ.set o3 (.cells (sAc0 a).cells)).set o29 (.cells zNd))) 0 ?_ ?_ ?_ ?_
  ·exact Nat.zero_le _
  ·exact cv_
  ·exact sub_
  rintro i hi
  simp only [ar_,av_]
  refine ab_ ?_
  refine rr_ ?_
  iterate 4 refine s_ ?_
  refine aa_ ?_
  refine cd_ (fun hc5=>?_) (fun hc5=>?_)
  ·refine ae_ ?_
   refine ab_ ?_
   refine ah_ ?_
   refine ab_ ?_
   rcases (by omega:i=0∨i=1) with rfl | rfl
   ·refine r_ ?_
    iterate 5 refine s_ ?_
    refine bx_ fun o42 ho42=>?_
    repeat (rw [ad_] at ho42;obtain ⟨_,ho42⟩:=ho42)
    refine s_ ?_
    refine bx_ fun o44 ho44=>?_
    repeat (rw [ad_] at ho44;obtain ⟨_,ho44⟩:=ho44)
    refine s_ ?_
    refine aa_ ?_
    refine rr_ ?_
    iterate 2 refine s_ ?_
    refine x_ g_ va_ (do_n (h_) (h_) hT hb (by first | exact .inl rfl | exact .inr ⟨_,rfl,by simp (disch:=omega) only [Store.set_ne,Store.set_get]⟩)) ?_;rintro _ _ ⟨rfl,rfl⟩
    refine aa_ ?_
    refine rr_ ?_
    iterate 5 refine s_ ?_
    refine aa_ ?_
    refine rr_ ?_
    refine s_ ?_
    refine x_ g_ va_ (up_n (by first | exact .inl rfl | exact .inr ⟨_,rfl,by simp (disch:=omega) only [Store.set_ne,Store.set_get]⟩)) ?_;rintro _ _ ⟨rfl,rfl⟩
    refine s_ ?_
    first | refine as_ wn_ rfl ?_ | refine gf_ ?_
    first | refine as_ wn_ rfl ?_ | refine bi_ rfl rfl v_ rfl (fun hb=>aw_ (by rfl) (by rfl) (.inr ⟨by rfl,by rfl,by rfl⟩) g_ cg_ (vd_ (by first | exact .inl rfl | exact .inr ⟨_,rfl,by simp (disch:=omega) only [Store.set_ne,Store.set_get]⟩))) ?_
    first | refine as_ wn_ rfl ?_ | refine gf_ ?_
    iterate 2 refine s_ ?_
    first | refine as_ wn_ rfl ?_ | refine gf_ ?_
    first | refine as_ wn_ rfl ?_ | refine bi_ rfl rfl v_ rfl (fun hb=>aw_ (by rfl) (by rfl) (.inr ⟨by rfl,by rfl,by rfl⟩) g_ cg_ (rv_ (by first | exact .inl rfl | exact .inr ⟨_,rfl,by simp (disch:=omega) only [Store.set_ne,Store.set_get]⟩))) ?_
    first | refine as_ wn_ rfl ?_ | refine gf_ ?_
    iterate 2 refine s_ ?_
    first | refine as_ wn_ rfl ?_ | refine gf_ ?_
    first | refine as_ wn_ rfl ?_ | refine bi_ rfl rfl v_ rfl (fun hb=>aw_ (by rfl) (by rfl) (.inr ⟨by rfl,by rfl,by rfl⟩) g_ cg_ (iH_ (by first | exact .inl rfl | exact .inr ⟨_,rfl,by simp (disch:=omega) only [Store.set_ne,Store.set_get]⟩))) ?_
    first | refine as_ wn_ rfl ?_ | refine gf_ ?_
    first | refine as_ wn_ rfl ?_ | refine gf_ ?_
    iterate 2 refine s_ ?_
    first | refine as_ wn_ rfl ?_ | refine gf_ ?_
    first | refine as_ wn_ rfl ?_ | refine bi_ rfl rfl v_ rfl (fun hb=>aw_ (by rfl) (by rfl) (.inr ⟨by rfl,by rfl,by rfl⟩) g_ cg_ (rh_ (by first | exact .inl rfl | exact .inr ⟨_,rfl,by simp (disch:=omega) only [Store.set_ne,Store.set_get]⟩))) ?_
    first | refine as_ wn_ rfl ?_ | refine gf_ ?_
    first | refine as_ wn_ rfl ?_ | refine gf_ ?_
    first | refine as_ wn_ rfl ?_ | refine gf_ ?_
    iterate 2 refine s_ ?_
    first | refine as_ wn_ rfl ?_ | refine gf_ ?_
    first | refine as_ wn_ rfl ?_ | refine bi_ rfl rfl v_ rfl (fun hb=>aw_ (by rfl) (by rfl) (.inr ⟨by rfl,by rfl,by rfl⟩) g_ cg_ (rL_ (by first | exact .inl rfl | exact .inr ⟨_,rfl,by simp (disch:=omega) only [Store.set_ne,Store.set_get]⟩))) ?_
    first | refine as_ wn_ rfl ?_ | refine gf_ ?_
    first | refine as_ wn_ rfl ?_ | refine gf_ ?_
    first | refine as_ wn_ rfl ?_ | refine gf_ ?_
    iterate 2 refine s_ ?_
    first | refine as_ wn_ rfl ?_ | refine gf_ ?_
    first | refine as_ wn_ rfl ?_ | refine bi_ rfl rfl v_ rfl (fun hb=>aw_ (by rfl) (by rfl) (.inr ⟨by rfl,by rfl,by rfl⟩) g_ cg_ (rq_ (by first | exact .inl rfl | exact .inr ⟨_,rfl,by simp (disch:=omega) only [Store.set_ne,Store.set_get]⟩))) ?_
    first | refine as_ wn_ rfl ?_ | refine gf_ ?_
    first | refine as_ wn_ rfl ?_ | refine gf_ ?_
    iterate 2 refine s_ ?_
    first | refine as_ wn_ rfl ?_ | refine gf_ ?_
    first | refine as_ wn_ rfl ?_ | refine bi_ rfl rfl v_ rfl (fun hb=>aw_ (by rfl) (by rfl) (.inr ⟨by rfl,by rfl,by rfl⟩) g_ cg_ (rO_ (by first | exact .inl rfl | exact .inr ⟨_,rfl,by simp (disch:=omega) only [Store.set_ne,Store.set_get]⟩))) ?_
    first | refine as_ wn_ rfl ?_ | refine gf_ ?_
    first | refine as_ wn_ rfl ?_ | refine gf_ ?_
    iterate 2 refine s_ ?_
    first | refine as_ wn_ rfl ?_ | refine gf_ ?_
    first | refine as_ wn_ rfl ?_ | refine bi_ rfl rfl v_ rfl (fun hb=>aw_ (by rfl) (by rfl) (.inr ⟨by rfl,by rfl,by rfl⟩) g_ cg_ (ii_ (by first | exact .inl rfl | exact .inr ⟨_,rfl,by simp (disch:=omega) only [Store.set_ne,Store.set_get]⟩))) ?_
    iterate 2 refine s_ ?_
    first | refine as_ wn_ rfl ?_ | refine gf_ ?_
    first | refine as_ wn_ rfl ?_ | refine bi_ rfl rfl v_ rfl (fun hb=>aw_ (by rfl) (by rfl) (.inr ⟨by rfl,by rfl,by rfl⟩) g_ cg_ (ii_ (by first | exact .inl rfl | exact .inr ⟨_,rfl,by simp (disch:=omega) only [Store.set_ne,Store.set_get]⟩))) ?_
    iterate 2 refine s_ ?_
    first | refine as_ wn_ rfl ?_ | refine gf_ ?_
    first | refine as_ wn_ rfl ?_ | refine gf_ ?_
    first | refine as_ wn_ rfl ?_ | refine bi_ rfl rfl v_ rfl (fun hb=>aw_ (by rfl) (by rfl) (.inr ⟨by rfl,by rfl,by rfl⟩) g_ cg_ (mz_ (by first | exact .inl rfl | exact .inr ⟨_,rfl,by simp (disch:=omega) only [Store.set_ne,Store.set_get]⟩))) ?_
    first | refine as_ wn_ rfl ?_ | refine gf_ ?_
    refine s_ ?_
    refine aa_ ?_
    refine cd_ (fun hc10=>?_) (fun hc10=>?_)
    ·simp at hc10
    ·refine ae_ ?_
     refine r_ ?_
     iterate 3 refine s_ ?_
     refine aa_ ?_
     refine bb_ (ι:=Nat) (i:=0) 1 ?_ ?_ ?_ ?_
     ·decide
     ·decide
     ·exact cv_
     ·exact sub_
   ·refine r_ ?_
    iterate 5 refine s_ ?_
    refine bx_ fun o42 ho42=>?_
    repeat (rw [ad_] at ho42;obtain ⟨_,ho42⟩:=ho42)
    refine s_ ?_
    refine bx_ fun o44 ho44=>?_
    repeat (rw [ad_] at ho44;obtain ⟨_,ho44⟩:=ho44)
    refine s_ ?_
    refine aa_ ?_
    refine rr_ ?_
    iterate 2 refine s_ ?_
    refine x_ g_ va_ (do_n (h_) (h_) hT hb (by first | exact .inl rfl | exact .inr ⟨_,rfl,by simp (disch:=omega) only [Store.set_ne,Store.set_get]⟩)) ?_;rintro _ _ ⟨rfl,rfl⟩
    refine aa_ ?_
    refine rr_ ?_
    iterate 5 refine s_ ?_
    refine aa_ ?_
    refine rr_ ?_
    refine s_ ?_
    refine x_ g_ va_ (up_n (by first | exact .inl rfl | exact .inr ⟨_,rfl,by simp (disch:=omega) only [Store.set_ne,Store.set_get]⟩)) ?_;rintro _ _ ⟨rfl,rfl⟩
    refine s_ ?_
    first | refine as_ wn_ rfl ?_ | refine gf_ ?_
    first | refine as_ wn_ rfl ?_ | refine bi_ rfl rfl v_ rfl (fun hb=>aw_ (by rfl) (by rfl) (.inr ⟨by rfl,by rfl,by rfl⟩) g_ cg_ (vd_ (by first | exact .inl rfl | exact .inr ⟨_,rfl,by simp (disch:=omega) only [Store.set_ne,Store.set_get]⟩))) ?_
    first | refine as_ wn_ rfl ?_ | refine gf_ ?_
    iterate 2 refine s_ ?_
    first | refine as_ wn_ rfl ?_ | refine gf_ ?_
    first | refine as_ wn_ rfl ?_ | refine bi_ rfl rfl v_ rfl (fun hb=>aw_ (by rfl) (by rfl) (.inr ⟨by rfl,by rfl,by rfl⟩) g_ cg_ (rv_ (by first | exact .inl rfl | exact .inr ⟨_,rfl,by simp (disch:=omega) only [Store.set_ne,Store.set_get]⟩))) ?_
    first | refine as_ wn_ rfl ?_ | refine gf_ ?_
    iterate 2 refine s_ ?_
    first | refine as_ wn_ rfl ?_ | refine gf_ ?_
    first | refine as_ wn_ rfl ?_ | refine bi_ rfl rfl v_ rfl (fun hb=>aw_ (by rfl) (by rfl) (.inr ⟨by rfl,by rfl,by rfl⟩) g_ cg_ (iH_ (by first | exact .inl rfl | exact .inr ⟨_,rfl,by simp (disch:=omega) only [Store.set_ne,Store.set_get]⟩))) ?_
    first | refine as_ wn_ rfl ?_ | refine gf_ ?_
    first | refine as_ wn_ rfl ?_ | refine gf_ ?_
    iterate 2 refine s_ ?_
    first | refine as_ wn_ rfl ?_ | refine gf_ ?_
    first | refine as_ wn_ rfl ?_ | refine bi_ rfl rfl v_ rfl (fun hb=>aw_ (by rfl) (by rfl) (.inr ⟨by rfl,by rfl,by rfl⟩) g_ cg_ (rh_ (by first | exact .inl rfl | exact .inr ⟨_,rfl,by simp (disch:=omega) only [Store.set_ne,Store.set_get]⟩))) ?_
    first | refine as_ wn_ rfl ?_ | refine gf_ ?_
    first | refine as_ wn_ rfl ?_ | refine gf_ ?_
    first | refine as_ wn_ rfl ?_ | refine gf_ ?_
    iterate 2 refine s_ ?_
    first | refine as_ wn_ rfl ?_ | refine gf_ ?_
    first | refine as_ wn_ rfl ?_ | refine bi_ rfl rfl v_ rfl (fun hb=>aw_ (by rfl) (by rfl) (.inr ⟨by rfl,by rfl,by rfl⟩) g_ cg_ (rL_ (by first | exact .inl rfl | exact .inr ⟨_,rfl,by simp (disch:=omega) only [Store.set_ne,Store.set_get]⟩))) ?_
    first | refine as_ wn_ rfl ?_ | refine gf_ ?_
    first | refine as_ wn_ rfl ?_ | refine gf_ ?_
    first | refine as_ wn_ rfl ?_ | refine gf_ ?_
    iterate 2 refine s_ ?_
    first | refine as_ wn_ rfl ?_ | refine gf_ ?_
    first | refine as_ wn_ rfl ?_ | refine bi_ rfl rfl v_ rfl (fun hb=>aw_ (by rfl) (by rfl) (.inr ⟨by rfl,by rfl,by rfl⟩) g_ cg_ (rq_ (by first | exact .inl rfl | exact .inr ⟨_,rfl,by simp (disch:=omega) only [Store.set_ne,Store.set_get]⟩))) ?_
    first | refine as_ wn_ rfl ?_ | refine gf_ ?_
    first | refine as_ wn_ rfl ?_ | refine gf_ ?_
    iterate 2 refine s_ ?_
    first | refine as_ wn_ rfl ?_ | refine gf_ ?_
    first | refine as_ wn_ rfl ?_ | refine bi_ rfl rfl v_ rfl (fun hb=>aw_ (by rfl) (by rfl) (.inr ⟨by rfl,by rfl,by rfl⟩) g_ cg_ (rO_ (by first | exact .inl rfl | exact .inr ⟨_,rfl,by simp (disch:=omega) only [Store.set_ne,Store.set_get]⟩))) ?_
    first | refine as_ wn_ rfl ?_ | refine gf_ ?_
    first | refine as_ wn_ rfl ?_ | refine gf_ ?_
    iterate 2 refine s_ ?_
    first | refine as_ wn_ rfl ?_ | refine gf_ ?_
    first | refine as_ wn_ rfl ?_ | refine bi_ rfl rfl v_ rfl (fun hb=>aw_ (by rfl) (by rfl) (.inr ⟨by rfl,by rfl,by rfl⟩) g_ cg_ (ii_ (by first | exact .inl rfl | exact .inr ⟨_,rfl,by simp (disch:=omega) only [Store.set_ne,Store.set_get]⟩))) ?_
    iterate 2 refine s_ ?_
    first | refine as_ wn_ rfl ?_ | refine gf_ ?_
    first | refine as_ wn_ rfl ?_ | refine bi_ rfl rfl v_ rfl (fun hb=>aw_ (by rfl) (by rfl) (.inr ⟨by rfl,by rfl,by rfl⟩) g_ cg_ (ii_ (by first | exact .inl rfl | exact .inr ⟨_,rfl,by simp (disch:=omega) only [Store.set_ne,Store.set_get]⟩))) ?_
    iterate 2 refine s_ ?_
    first | refine as_ wn_ rfl ?_ | refine gf_ ?_
    first | refine as_ wn_ rfl ?_ | refine gf_ ?_
    first | refine as_ wn_ rfl ?_ | refine bi_ rfl rfl v_ rfl (fun hb=>aw_ (by rfl) (by rfl) (.inr ⟨by rfl,by rfl,by rfl⟩) g_ cg_ (mz_ (by first | exact .inl rfl | exact .inr ⟨_,rfl,by simp (disch:=omega) only [Store.set_ne,Store.set_get]⟩))) ?_
    first | refine as_ wn_ rfl ?_ | refine gf_ ?_
    refine s_ ?_
    refine aa_ ?_
    refine cd_ (fun hc10=>?_) (fun hc10=>?_)
    ·simp at hc10
    ·refine ae_ ?_
     refine r_ ?_
     iterate 3 refine s_ ?_
     refine aa_ ?_
     refine bb_ (ι:=Nat) (i:=1) 2 ?_ ?_ ?_ ?_
     ·decide
     ·decide
     ·exact cv_
     ·exact sub_
  ·refine ay_ ?_
   refine af_ ?_
   refine af_ ?_
   refine aq_ ?_
   refine rr_ ?_
   iterate 2 refine s_ ?_
   refine x_ g_ va_ (u6_ (by omega) hs (by omega) (by omega)) ?_;rintro _ τ ⟨V,e,rfl,hN⟩
   iterate 5 refine s_ ?_
   refine aa_ ?_
   refine ab_ ?_
   refine ab_ ?_
   rcases hN with ⟨rfl,rfl,rfl⟩ | ⟨he,g,d,m,rfl,rfl,hsub,hg⟩
   ·refine r_ ?_
    iterate 2 refine s_ ?_
    refine aa_ ?_
    refine cd_ (fun hc13=>?_) (fun hc13=>?_)
    ·first
      |cases hc13
      |skip
       refine rr_ ?_
       iterate 3 refine s_ ?_
       first | refine as_ wn_ rfl ?_ | refine gt_ ?_
       first | refine as_ wn_ rfl ?_ | refine gt_ ?_
       iterate 2 refine s_ ?_
       first | refine as_ wn_ rfl ?_ | refine bQ_ rfl rfl v_ rfl (fun hb=>aw_ (by rfl) (by rfl) (.inr ⟨by rfl,by rfl,by rfl⟩) g_ cg_ (hw _)) ?_
       iterate 2 refine s_ ?_
       refine aa_ ?_
       refine ac_ ?_
       refine er_ σ ?_
       exact ⟨rfl,rfl⟩
    ·first
      |exact absurd hc13 (by decide)
      |skip
       refine ae_ ?_
       refine rr_ ?_
       iterate 3 refine s_ ?_
       first | refine as_ wn_ rfl ?_ | refine gt_ ?_
       first | refine as_ wn_ rfl ?_ | refine bQ_ rfl rfl v_ rfl (fun hb=>aw_ (by rfl) (by rfl) (.inr ⟨by rfl,by rfl,by rfl⟩) g_ cg_ ((he ▸ kV_ hs (by omega)))) ?_
       iterate 2 refine s_ ?_
       first | refine as_ wn_ rfl ?_ | refine gt_ ?_
       first | refine as_ wn_ rfl ?_ | refine bQ_ rfl rfl v_ rfl (fun hb=>aw_ (by rfl) (by rfl) (.inr ⟨by rfl,by rfl,by rfl⟩) g_ cg_ (fp_ hg (by omega))) ?_
       first | refine as_ wn_ rfl ?_ | refine gt_ ?_
       first | refine as_ wn_ rfl ?_ | refine bQ_ rfl rfl v_ rfl (fun hb=>aw_ (by rfl) (by rfl) (.inr ⟨by rfl,by rfl,by rfl⟩) g_ cg_ ((by have h:=la_ (a:=l) (b:=l) (ta:=false) (tb:=false) (σ:=τ) (by omega) (by omega);rw [decide_eq_true rfl] at h;exact h))) ?_
       iterate 2 refine s_ ?_
       first | refine as_ wn_ rfl ?_ | refine bQ_ rfl rfl v_ rfl (fun hb=>aw_ (by rfl) (by rfl) (.inr ⟨by rfl,by rfl,by rfl⟩) g_ cg_ (hw _)) ?_
       iterate 2 refine s_ ?_
       refine aa_ ?_
       refine ac_ ?_
       refine er_ σ ?_
       exact ⟨rfl,rfl⟩
   ·refine r_ ?_
    iterate 2 refine s_ ?_
    refine aa_ ?_
    refine cd_ (fun hc13=>?_) (fun hc13=>?_)
    ·first
      |cases hc13
      |skip
       refine rr_ ?_
       iterate 3 refine s_ ?_
       first | refine as_ wn_ rfl ?_ | refine gt_ ?_
       first | refine as_ wn_ rfl ?_ | refine gt_ ?_
       iterate 2 refine s_ ?_
       first | refine as_ wn_ rfl ?_ | refine bQ_ rfl rfl v_ rfl (fun hb=>aw_ (by rfl) (by rfl) (.inr ⟨by rfl,by rfl,by rfl⟩) g_ cg_ (hw _)) ?_
       iterate 2 refine s_ ?_
       refine aa_ ?_
       refine ac_ ?_
       refine er_ σ ?_
       exact ⟨rfl,rfl⟩
    ·first
      |exact absurd hc13 (by decide)
      |skip
       refine ae_ ?_
       refine rr_ ?_
       iterate 3 refine s_ ?_
       first | refine as_ wn_ rfl ?_ | refine gt_ ?_
       first | refine as_ wn_ rfl ?_ | refine bQ_ rfl rfl v_ rfl (fun hb=>aw_ (by rfl) (by rfl) (.inr ⟨by rfl,by rfl,by rfl⟩) g_ cg_ ((he ▸ kV_ hs (by omega)))) ?_
       iterate 2 refine s_ ?_
       first | refine as_ wn_ rfl ?_ | refine gt_ ?_
       first | refine as_ wn_ rfl ?_ | refine bQ_ rfl rfl v_ rfl (fun hb=>aw_ (by rfl) (by rfl) (.inr ⟨by rfl,by rfl,by rfl⟩) g_ cg_ (fp_ hg (by omega))) ?_
       first | refine as_ wn_ rfl ?_ | refine gt_ ?_
       first | refine as_ wn_ rfl ?_ | refine bQ_ rfl rfl v_ rfl (fun hb=>aw_ (by rfl) (by rfl) (.inr ⟨by rfl,by rfl,by rfl⟩) g_ cg_ ((by have h:=la_ (a:=l) (b:=l) (ta:=false) (tb:=false) (σ:=τ) (by omega) (by omega);rw [decide_eq_true rfl] at h;exact h))) ?_
       iterate 2 refine s_ ?_
       first | refine as_ wn_ rfl ?_ | refine bQ_ rfl rfl v_ rfl (fun hb=>aw_ (by rfl) (by rfl) (.inr ⟨by rfl,by rfl,by rfl⟩) g_ cg_ (hw _)) ?_
       iterate 2 refine s_ ?_
       refine aa_ ?_
       refine ac_ ?_
       exact aE_ (σ':=σ) va_ (Store.Sub.wk (Store.Sub.trans sub_ hsub)) ⟨rfl,rfl⟩
end Go.Proofs.YtkjfpgjpeofndaaGreatDoor
end

section
set_option linter.all false
set_option maxRecDepth 100000
namespace Go.Proofs.YtkjfpgjpeofndaaGreatDoor
open Go.Ab
abbrev x2_:Sh:=.pair (.int .i64) (.pair .str (.pair .str (.pair .str (.pair .str (.pair wa_ (.pair (.int .i64) .unit))))))
abbrev v9_:Sh:=.pair (.int .i64) (.pair (.int .i64) (.pair x2_ (.pair .str .unit)))
theorem vY_ {c:List AVal} (h:v9_.ok c):∃ x:Ac0,.agg c=sAc0 x:=by
 obtain ⟨_,_,rfl,⟨k,rfl,_⟩,_,_,rfl,⟨n,rfl,_⟩,_,_,rfl,⟨_,_,rfl,⟨ck,rfl,_⟩,_,_,rfl,⟨tk,rfl,_⟩,_,_,rfl,⟨bu,rfl,_⟩,_,_,rfl,⟨ke,rfl,_⟩,_,_,rfl,⟨va,rfl,_⟩,_,_,rfl,hc,_,_,rfl,⟨ti,rfl,_⟩,rfl⟩,_,_,rfl,⟨b,rfl,_⟩,rfl⟩:=h
 obtain ⟨ctx,rfl⟩:=vZ_ hc
 refine ⟨⟨k,n,⟨ck,tk,bu,ke,va,ctx,ti⟩,Lb b⟩,?_⟩
 show AVal.agg _=AVal.agg [vInt k,vInt n,vInt ck,vStr tk,vStr bu,vStr ke,vStr va,.sl 3 (ctx.map aM_) false,vInt ti,vStr (B (Lb b))]
 rw [B_Lb];rfl
theorem v6_ {a:AVal} (h:Sh.okv v9_ true a):∃ x:Ac0,a=sAc0 x:=by
 obtain ⟨c,hc,e⟩:=h
 obtain ⟨x,hx⟩:=vY_ hc
 simp only [if_true] at e
 exact ⟨x,by rw [e,hx]⟩
theorem x0_ {a:AVal} (h:Sh.okv (.sl true wb_) false a):∃ l:List Ent,a=.sl 4 (l.map sEnt) false:=by
 obtain ⟨c,hc,e⟩:=h
 obtain ⟨l,rfl⟩:=v1_ sEnt (fun c hc=>v0_ hc) hc
 simp only [Bool.false_eq_true,if_false,List.cons.injEq,and_true] at e
 exact ⟨l,e.symm⟩
theorem x1_ {a:AVal} (h:Sh.okv .str false a):∃ s:ByteArray,a=vStr s:=by
 obtain ⟨c,⟨s,rfl,_⟩,e⟩:=h
 simp only [Bool.false_eq_true,if_false,List.cons.injEq,and_true] at e
 exact ⟨s,e.symm⟩
end Go.Proofs.YtkjfpgjpeofndaaGreatDoor
end
