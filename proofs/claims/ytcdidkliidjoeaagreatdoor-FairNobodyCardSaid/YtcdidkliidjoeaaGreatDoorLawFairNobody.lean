/-
 WHATEVER THE INPUT,'pantlerlaw46.FairNobody' RETURNS TRUE,AND WHAT WAS HANDED IN READS AS IT DID. Conditions: none.
-/
import Derived.Test.YtcdidkliidjoeaaGreatDoorGF
import Derived.Test.YtcdidkliidjoeaaGreatDoorGR
import Derived.Test.YtcdidkliidjoeaaGreatDoorGD
import Derived.Test.YtcdidkliidjoeaaGreatDoorRows
import Derived.Test.YtcdidkliidjoeaaGreatDoorGTR
import Derived.Test.YtcdidkliidjoeaaGreatDoorGX
import Derived.Test.YtcdidkliidjoeaaGreatDoorGW
import Derived.Test.YtcdidkliidjoeaaGreatDoorCards
import Derived.SevenTiedAt
import Derived.LaidMore
import Derived.Lay
import Derived.LaidLaws
import Derived.LaidHandle
import Derived.MakeChecks
import Derived.Lib.LaidTab
import Derived.Stop.LaidErr
import Derived.Stop.Joined
import Derived.WalkKit
import Derived.ProofKit
import Derived.OpenShut
import Derived.ShutString
import Derived.ChangeOld
import Derived.Below
set_option linter.all false
set_option maxRecDepth 100000
namespace Go.Proofs.YtcdidkliidjoeaaGreatDoor.fairNobodyDone
open Go.ChangeShapes Go.WideShapes Go.ChangeAt Go.RowKit Go.Ab
theorem own:ownKnob Tryz.prog.godebug=none:=by kernel_rfl
def sh0:Go.Ab.Sh:=.int .i64
def sh1:Go.Ab.Sh:=.int .i64
def sh2:Go.Ab.Sh:=.str
abbrev laidL:List (String × DataW Unit):=[("internal/strconv.uint64pow10",Rows.laid_internal_strconv_uint64pow10),("math/bits.deBruijn32tab",Rows.laid_math_bits_deBruijn32tab),("math/bits.deBruijn64tab",Rows.laid_math_bits_deBruijn64tab),("strconv.ErrSyntax",Rows.laid_strconv_ErrSyntax),("strconv.ErrRange",Rows.laid_strconv_ErrRange),("unicode/utf8.first",Rows.laid_unicode_utf8_first),("unicode/utf8.acceptRanges",Rows.laid_unicode_utf8_acceptRanges)]
theorem door_met (os:Os) (args:Array Value):laidMetH Tryz.prog laidL ((World.laidAll Tryz.prog os laidL).forCall (fun _ _=>0) ⟨#[],args,[]⟩).memory:=by
 rw [MakeChecks.laidMetH_plain _ _ _ (by kernel_rfl)]
 exact laidMet_laidAll _ (by kernel_rfl) (by kernel_rfl)
theorem star : "*" ++ "errors.errorString" = "*errors.errorString":=by decide
theorem rowErr (u:TypeId) (h:Tryz.prog.typeName? 3 u=some "*errors.errorString"):u=689 :=
 typeName_ptr_named (nm := "errors.errorString") (by rw [star];kernel_rfl) (by kernel_rfl) (by decide) u (by rw [star];exact h)
theorem var_glob {W:World} {n:String} {g:Nat} {cs:Array Value} (hg:Tryz.prog.globalNamed n=some g) (h:W.var? Tryz.prog n=some cs):g < W.heap.size∧∃ e fr,W.heap[g]?=some (.cells cs e fr):=by
 unfold World.var? at h
 rw [hg] at h
 simp only [Option.bind_some] at h
 cases hw:W.heap[g]? with
 |none=>rw [hw] at h;cases h
 |some ob =>
  cases ob <;> rw [hw] at h <;> first | (cases h;done) | skip
  rename_i cs' e fr
  exact ⟨(Array.getElem?_eq_some_iff.1 hw).1,e,fr,by rw [Option.some.inj h]⟩
theorem glob_of {W:World} (hL:laidMetH Tryz.prog laidL W):Glob W W.heap.size:=by
 rw [MakeChecks.laidMetH_plain _ _ _ (by kernel_rfl)] at hL
 have h2:=Lib.tabIs_of_head (k:=.u64) (zs:=Lib.pow10Tab) (g:=3) (t:=686) (e:=226) (n:=20) q2 y2 Tryz.underlying686 Tryz.underlying226 c0 c1 (hL)
 obtain ⟨a0,s0,v0,_⟩:=laid_sentinel (g:=1) (hL.tail.tail.tail) q0 y0 Tryz.underlying451 rowErr Tryz.underlying689 Tryz.underlying691 rfl rfl Tryz.underlying9 c2 c3
 obtain ⟨a1,s1,v1,_⟩:=laid_sentinel (g:=2) (hL.tail.tail.tail.tail) q1 y1 Tryz.underlying451 rowErr Tryz.underlying689 Tryz.underlying691 rfl rfl Tryz.underlying9 c2 c3
 obtain ⟨l0,e0,f0,w0⟩:=var_glob (g:=1) q0 v0
 obtain ⟨l1,e1,f1,w1⟩:=var_glob (g:=2) q1 v1
 unfold Lib.TabIs at h2
 obtain ⟨l2,e2,f2,w2⟩:=var_glob (g:=3) q2 h2
 intro p hp
 rcases List.mem_cons.1 hp with rfl | hp
 ·exact ⟨l0,_,e0,f0,w0,_,_,rfl⟩
 ·rcases List.mem_cons.1 hp with rfl | hp
  ·exact ⟨l1,_,e1,f1,w1,_,_,rfl⟩
  ·obtain rfl:=List.mem_singleton.1 hp
   exact ⟨l2,_,e2,f2,w2,rfl⟩
theorem rvI {a:AVal} (h:Go.Ab.Sh.okv (.int .i64) false a):∃ n:Int,a=vInt n:=by
 obtain ⟨c,⟨n,rfl,_⟩,e⟩:=h
 simp only [Bool.false_eq_true,if_false,List.cons.injEq,and_true] at e
 exact ⟨n,e.symm⟩
theorem rvS {a:AVal} (h:Go.Ab.Sh.okv .str false a):∃ s:ByteArray,a=vStr s:=by
 obtain ⟨c,⟨s,rfl,_⟩,e⟩:=h
 simp only [Bool.false_eq_true,if_false,List.cons.injEq,and_true] at e
 exact ⟨s,e.symm⟩
theorem fairNobody_law {a0 a1 a2:AVal} (h0:Go.Ab.Sh.okv sh0 false a0) (h1:Go.Ab.Sh.okv sh1 false a1) (h2:Go.Ab.Sh.okv sh2 false a2):ACalls Tryz.prog 4 [a0,a1,a2] s0 fun v _=>v=rB_ true:=by
 obtain ⟨n,rfl⟩:=rvI h0
 obtain ⟨p,rfl⟩:=rvI h1
 obtain ⟨l,rfl⟩:=rvS h2
 exact (pa_ (fun σ=>Nb.root_c σ)).mono fun v σ' h=>h.1
theorem lifted (os:Os) (started:os.Started) (H:Type) (enc:TypeId × Value→H) :
  ReturnsInHanded {} Tryz.checked os 4 .any (fun w args=>(Rows.fairNobodySpec.pre enc Tryz.prog Tryz.f4 [] false w args∧laidMetH Tryz.prog laidL w)∧sizedMet enc Tryz.prog Tryz.f4 (OpenSpec.ofChange Rows.fairNobodySpec) false w args) (Rows.fairNobodySpec.post enc Tryz.prog Tryz.f4 false true false false):=by
 refine returnsInHanded_of_change_and (C:=Tryz.checked) (X:=fun w _=>laidMetH Tryz.prog laidL w) (fun _ _ _ hh h=>h.of_heap hh) own started (by kernel_rfl) Tryz.func4
  (ChangeSpec.witness_shaped (enc:=enc) (C:=Tryz.checked) (os:=os) (X:=fun w _=>laidMetH Tryz.prog laidL w) false (World.laidAll Tryz.prog os laidL) #[.int .i64 0,.int .i64 0,.string ⟨#[]⟩] 20 (World.laidAll_os _ _ _) (World.shaped_of_ZipB (by kernel_rfl) (by kernel_rfl)) (by kernel_rfl) (by kernel_rfl) (by kernel_rfl) (door_met os _)) ?_
 intro W base args ds gs before hval0 hW _ _ hL _
 have hval:∀ (j:Nat) t v,Tryz.f4.params[j]?=some t→args[j]?=some v→Value.okWide Tryz.prog W .any base t v:=hval0
 have hW':=hW
 obtain ⟨p,q,hA0,hV,rfl,hfz,hnd⟩:=hW
 have hA:DataW.TrodAll enc Tryz.prog W 0 (fun _=>true) true Tryz.f4.params.toList args.toList ds p:=hA0
 rw [Tryz.params4] at hA hval
 obtain ⟨v0,vs0,d0,ds0,p0,q0,hargs,rfl,rfl,h0,r0⟩:=trodAll_cons hA
 obtain ⟨v1,vs1,d1,ds1,p1,q1,rfl,rfl,rfl,h1,r1⟩:=trodAll_cons r0
 obtain ⟨v2,vs2,d2,ds2,p2,q2,rfl,rfl,rfl,h2,r2⟩:=trodAll_cons r1
 obtain ⟨rfl,rfl,rfl⟩:=trodAll_nil r2
 obtain rfl:args=#[v0,v1,v2]:=by cases args;simp_all
 obtain ⟨rfl,rfl⟩:=trodVars_none hV
 have lt0:∀ x∈p0,x.block < W.heap.size:=by obtain ⟨m,hm⟩:=h0;exact DataW.trod_lt m _ _ _ hm
 have lt1:∀ x∈p1,x.block < W.heap.size:=by obtain ⟨m,hm⟩:=h1;exact DataW.trod_lt m _ _ _ hm
 have lt2:∀ x∈p2,x.block < W.heap.size:=by obtain ⟨m,hm⟩:=h2;exact DataW.trod_lt m _ _ _ hm
 obtain ⟨a0,e0,s0⟩:=f8_ (κ:=kOf W) (hs_ W) (d:=20) (s:=sh0) (g:=false) (by kernel_rfl) (by kernel_rfl) (hval 0 _ v0 rfl rfl) h0
 obtain ⟨a1,e1,s1⟩:=f8_ (κ:=kOf W) (hs_ W) (d:=20) (s:=sh1) (g:=false) (by kernel_rfl) (by kernel_rfl) (hval 1 _ v1 rfl rfl) h1
 obtain ⟨a2,e2,s2⟩:=f8_ (κ:=kOf W) (hs_ W) (d:=20) (s:=sh2) (g:=false) (by kernel_rfl) (by kernel_rfl) (hval 2 _ v2 rfl rfl) h2
 clear hA0 hval0
 refine (gx_ (P:=Tryz.prog) (W:=W) (vs:=#[v0,v1,v2]) (fairNobody_law s0 s1 s2) rfl ?_ (glob_of hL)).mono fun e W' ⟨he,bel⟩=>?_
 ·intro i hi
  match i,hi with
  |0,_=>exact e0
  |1,_=>exact e1
  |2,_=>exact e2
 subst he
 exact ⟨_,rfl,_,_,_,[],_,[],hW',trodAll_mk1 (shut_bool Tryz.underlying4 _),(trodAll_cons_mk (Below.trod f3_ (by kernel_rfl) (of_decide_eq_true (by kernel_rfl)) h0 bel lt0) (trodAll_cons_mk (Below.trod f3_ (by kernel_rfl) (of_decide_eq_true (by kernel_rfl)) h1 bel lt1) (trodAll_cons_mk (Below.trod f3_ (by kernel_rfl) (of_decide_eq_true (by kernel_rfl)) h2 bel lt2) trodAll_mk0))),rfl,bel.frame _,fun h=>by cases h⟩
theorem over:Rows.fairNobodyRow.holds Tryz.pinned (OpenSpec.ofChange Rows.fairNobodySpec) :=
 OpenClaim.holds_of_wide 4 Tryz.f4 rfl rfl rfl rfl rfl rfl rfl ⟨rfl,rfl,rfl,rfl,rfl⟩ rfl rfl rfl rfl rfl o1 Tryz.func4 facts o2 o3
  (fun os started H enc _=>lifted os started H enc)
theorem proved:Rows.FairNobodyCardSaid :=
 Claim7.holds_tied_plain_at .later [] [.data,.data,.data,.sentinel,.sentinel,.pinned,.data] true (true, "65687202fa972023cd1026b9ef386600dc2b68efd3df5032bc321eaf48d293dd") true
  over (fun _ h=>by cases h) p1 (fun _ h=>by cases h) rn_ rfl ⟨rfl,rfl⟩ p2 rfl
  (fun f fn hf hfn=>by
   obtain rfl:f=4:=Option.some.inj ((show Tryz.prog.funcNamed "pantler/pantlerlaw46.FairNobody"=some 4 from o1).symm.trans hf) |>.symm
   obtain rfl:fn=Tryz.f4:=(Option.some.inj (Tryz.func4.symm.trans hfn)).symm
   exact ⟨p3,fun j t ht=>by
    have ht':(Tryz.f4.params)[j]?=some t:=ht
    have hm:=Array.mem_of_getElem? ht'
    exact (show Tryz.prog.wantsStandIn t=false by simpa using List.all_eq_true.1 p5 t (by simpa using hm))⟩)
  p4
#print axioms proved
end Go.Proofs.YtcdidkliidjoeaaGreatDoor.fairNobodyDone
