/-
  Whether a dot is known;dots and values held against each other; slices.Grow,slices.Concat; THE LIBRARY's SORTS by the kit's contracts: a slice that is written,sorted in place; The library's sorts at this program; Sorted,once each: rows that grew; Where a node stands in a context; What is known of a node by two;contexts joined; Contexts joined;a dot added; Whether an object may be; The reference's May,Same and Few; Places: a bucket and a key,with a slash between them; Books and registries: whether they may be,on both sides; WHAT IS KNOWN OF WRITES,plainly: rows that rise,each node's dots as a set,contexts joined; OBJECTS MERGED,plainly: per dot nothing is known,a value,or that it is replaced;merging is the greater of these; Objects held against one another,as functions; ITEMS MERGED,plainly: two rows that rise,gone through side by side;and the document's way,each put in its place; What was written is read again: plain; How much is read of few bytes: plain; BOOKS,plainly: rows with something in its place,records,what is behind a record; CRC-32: the program's and the document's; The library's Join of texts,with nothing between them; Paths and their parts,plainly; The library's Builder by itself;texts joined with a slash between each two; The library's cut at each slash (beside chapters that have a search of their own); Numbers and their digits,plainly: the number that has just these digits; Numbers and digits,by the kit's contracts of the library's Itoa and Atoi; Rows that grow while other objects come and go (no deeds); slices.Concat of entries. Own work (an AI agent).
-/
import Derived.Test.YtcdidkliidjoeaaGreatDoorGM
import Derived.Lib.Bytealg
import Derived.Test.YtcdidkliidjoeaaGreatDoorGD
import Derived.Shelf.Sort.Plain
import Derived.Shelf.Slices.In.SortNone
import Derived.Test.YtcdidkliidjoeaaGreatDoorGC
import Derived.Shelf.Slices.CompactI
import Derived.Shelf.Slices.CompactS
import Derived.Lib.SplitLaws
import Derived.Lib.IndexBytes
import Derived.Lib.IndexLaws
import Derived.Lib.ItoaLen
import Derived.Lib.ItoaMem
import Derived.Lib.AtoiAllCases
import Derived.Shelf.Strconv.Itoa3
import Derived.Shelf.Strconv.AtoiAll

section
set_option linter.all false
set_option maxRecDepth 100000
namespace Go.Proofs.YtcdidkliidjoeaaGreatDoor
open Go.Ab
abbrev vB (b:Bool):AVal:=.lit (.bool b)
@[reducible] def sDot (s:ByteArray) (n:Int):AVal:=.agg [.lit (.string s),vInt n]
def inS (l:List Int) (n:Int):Bool:=l.any fun m=>decide (m=n)
def hasX (x:Seen) (s:ByteArray) (n:Int):Bool:=decide (x.node=s) && (decide (0 < n) && decide (n≤x.base) || inS x.more n)
def hasS (c:List Seen) (s:ByteArray) (n:Int):Bool:=c.any fun x=>hasX x s n
theorem jB_:∀ (l m:List UInt8),Lib.compareBytes l m=if Op.bytesLess l m then -1 else if l=m then 0 else 1
 |[],[]=>rfl
 |[],_ :: _=>rfl
 |_ :: _,[]=>rfl
 |a :: l,b :: m=>by
  rw [Lib.compareBytes,Op.bytesLess,jB_ l m]
  by_cases h1:a < b
  ·simp [h1]
  ·by_cases h2:b < a
   ·have h3:a≠b:=fun h=>by rw [h] at h2;exact absurd h2 (UInt8.lt_irrefl _)
    simp [h1,h2,h3]
   ·have h3:a=b:=UInt8.le_antisymm (UInt8.not_lt.1 h2) (UInt8.not_lt.1 h1)
    subst h3
    simp [h1]
def cmpS (a b:ByteArray):Int:=if sLt a b then -1 else if a=b then 0 else 1
theorem nw_ (a b:ByteArray):Lib.compareBytes a.data.toList b.data.toList=cmpS a b:=by
 rw [jB_,cmpS,sLt,Lib.toList_data,Lib.toList_data]
 congr 1
 by_cases h:a=b
 ·subst h;simp
 ·have:¬ a.data.toList=b.data.toList:=fun hh=>h (by apply ByteArray.ext;exact Array.toList_inj.1 hh)
  rw [if_neg h,if_neg this]
theorem jC_ {κ:K} {α:Operand→AVal} {x y:Operand} {ev:Operand→Value} {a b:ByteArray} (hx:α x=vStr a) (hy:α y=vStr b) (h:∀ z∈#[x,y],Rv κ (α z) (ev z)):∃ cv,(Extern.BytealgCompare.compare (#[x,y].map ev)).run Tryz.prog κ.w=.ok cv κ.w∧Rv κ (vInt (cmpS a b)) cv:=by
 have h1:=h x (by simp);have h2:=h y (by simp)
 rw [hx] at h1
 rw [hy] at h2
 refine ⟨_,?_,.lit _⟩
 rw [show #[x,y].map ev=#[ev x,ev y] from by simp,h1.litInv,h2.litInv,← nw_]
 exact Lib.run_compareString a b κ.w
theorem eA_ {a b:ByteArray} {σ:Store}:ACalls Tryz.prog 171 [vStr a,vStr b] σ fun v σ'=>v=vInt (cmpS a b)∧σ=σ':=by
 refine en_ Tryz.func171 Tryz.ntmps171 Tryz.results171 ?_
 refine rr_ ?_
 refine s_ ?_
 refine aa_ ?_
 refine rr_ ?_
 iterate 2 refine s_ ?_
 refine aL_X rfl rfl (AOp_extern rfl (e:=Extern.BytealgCompare.compare) kr_ g_ (fun κ ev _ h=>jC_ (a:=a) (b:=b) va_ va_ h) ?_)
 refine s_ ?_
 refine aa_ ?_
 refine aq_ ?_
 refine er_ σ ?_
 exact ⟨rfl,rfl⟩
def pq_ (s:ByteArray) (n:Int) (s':ByteArray) (n':Int):Bool:=sLt s s' || (decide (s=s') && decide (n < n'))
abbrev vNil:AVal:=.lit (.slice none 0 0)
theorem ij_ {α:Type} (f:α→AVal) (h:∀ x,∀ c∈(f x).cells,c.one=true) (l:List α):∀ y∈l.map f,∀ c∈y.cells,c.one=true:=fun y hy=>by
 obtain ⟨x,_,rfl⟩:=List.mem_map.1 hy
 exact h x
theorem hx_ {α:Type} (f:α→AVal) {n:Nat} (h:∀ x,(f x).cells.length=n) (l:List α):∀ y∈l.map f,y.cells.length=n:=fun y hy=>by
 obtain ⟨x,_,rfl⟩:=List.mem_map.1 hy
 exact h x
def cbk {α:Type} (L1 L2:List α) (k:Nat):List α:=if k=0 then [] else if k=1 then L1 else L1 ++ L2
theorem kp_ (l:List Seen):∀ y∈l.map bX_,∀ c∈y.cells,c.one=true:=ij_ bX_ (fun x c hc=>by simp [AVal.cells] at hc;(try rcases hc with rfl | rfl | rfl | rfl | rfl);(try rcases hc with rfl | rfl | rfl);(try subst hc);all_goals rfl) l
theorem lc_ (l:List Seen):∀ y∈l.map bX_,y.cells.length=3:=hx_ bX_ (fun x=>rfl) l
theorem iU_ {n:Nat} {σ:Store} (hn:n≤1000000000):ACalls Tryz.prog 669 [vNil,vInt n] σ fun v σ'=>CBp σ σ' 3 [] v:=by
 refine en_ Tryz.func669 Tryz.ntmps669 Tryz.results669 ?_
 refine rr_ ?_
 refine s_ ?_
 refine aa_ ?_
 refine ac_ ?_
 refine rr_ ?_
 iterate 2 refine s_ ?_
 refine aa_ ?_
 refine cd_ (fun hc1=>?_) (fun hc1=>?_)
 ·omega
 ·refine ag_ ?_
  refine ac_ ?_
  refine rr_ ?_
  iterate 2 refine s_ ?_
  refine aL_X rfl rfl (bf_ rfl g_ va_ ?_)
  iterate 5 refine s_ ?_
  refine aa_ ?_
  refine rr_ ?_
  iterate 2 refine s_ ?_
  refine aa_ ?_
  refine cd_ (fun hc4=>?_) (fun hc4=>?_)
  ·refine r_ ?_
   iterate 2 refine s_ ?_
   refine aL_X rfl rfl (bf_ rfl g_ va_ ?_)
   iterate 2 refine s_ ?_
   refine aL_X rfl rfl (b4_ (n:=n) rfl g_ g_ g_ va_ va_ (by omega) (by omega) fun o22 ho22=>?_)
   iterate 4 refine s_ ?_
   refine aa_ ?_
   refine rr_ ?_
   iterate 2 refine s_ ?_
   refine aa_ ?_
   refine aq_ ?_
   refine aK_ v_ (Store.Wk.refl _) ?_
   exact .inr ⟨o22,ho22,rfl,rfl⟩
  ·refine ag_ ?_
   refine rr_ ?_
   iterate 2 refine s_ ?_
   refine aa_ ?_
   refine aq_ ?_
   refine aK_ v_ (Store.Wk.refl _) ?_
   exact .inl ⟨rfl,rfl,rfl⟩
theorem gz_ {L1 L2:List Seen} {t1 t2 tt:Bool} {σ:Store} (h1:L1.length≤10000000) (h2:L2.length≤10000000) :
  ACalls Tryz.prog 638 [.sl 1 [.sl 3 (L1.map bX_) t1,.sl 3 (L2.map bX_) t2] tt] σ fun v σ'=>CBp σ σ' 3 ((L1 ++ L2).map bX_) v:=by
 refine en_ Tryz.func638 Tryz.ntmps638 Tryz.results638 ?_
 refine rr_ ?_
 refine s_ ?_
 refine aa_ ?_
 refine rr_ ?_
 refine s_ ?_
 refine aa_ ?_
 refine ac_ ?_
 refine rr_ ?_
 iterate 3 refine s_ ?_
 refine aa_ ?_
 refine ah_ ?_
 refine au_ (ι:=Nat) (fun k=>2 - k) (fun k=>k≤2) (fun k=>[(0,.sl 1 [.sl 3 (L1.map bX_) t1,.sl 3 (L2.map bX_) t2] tt),(3,vInt ((if k=0 then 0 else if k=1 then L1.length else L1.length + L2.length:Nat):Int)),(9,.sl 1 [.sl 3 (L1.map bX_) t1,.sl 3 (L2.map bX_) t2] tt),(10,vInt 2),(11,vInt k)]) (fun k=>σ) 0 ?_ ?_ ?_ ?_
 ·exact Nat.zero_le _
 ·exact cv_
 ·exact sub_
 rintro k hk
 simp only [aJ_,aX_]
 refine rr_ ?_
 refine s_ ?_
 refine aa_ ?_
 refine ac_ ?_
 refine cd_ (fun hc3=>?_) (fun hc3=>?_)
 ·refine ag_ ?_
  refine ac_ ?_
  refine ah_ ?_
  refine ac_ ?_
  rcases (show k=0∨k=1 by omega) with rfl | rfl
  ·refine r_ ?_
   iterate 3 refine s_ ?_
   refine aa_ ?_
   refine rr_ ?_
   iterate 5 refine s_ ?_
   refine aa_ ?_
   refine rr_ ?_
   iterate 2 refine s_ ?_
   refine aa_ ?_
   refine cd_ (fun hc6=>?_) (fun hc6=>?_)
   ·omega
   ·refine ag_ ?_
    refine r_ ?_
    iterate 2 refine s_ ?_
    refine aa_ ?_
    refine ca_ (ι:=Nat) (i:=0) 1 ?_ ?_ ?_ ?_
    ·decide
    ·decide
    ·have R:=(show ((0:Nat):Int) + (L1.length:Int)=(L1.length:Int) from by omega);exact cv_
    ·exact sub_
  ·refine r_ ?_
   iterate 3 refine s_ ?_
   refine aa_ ?_
   refine rr_ ?_
   iterate 5 refine s_ ?_
   refine aa_ ?_
   refine rr_ ?_
   iterate 2 refine s_ ?_
   refine aa_ ?_
   refine cd_ (fun hc6=>?_) (fun hc6=>?_)
   ·omega
   ·refine ag_ ?_
    refine r_ ?_
    iterate 2 refine s_ ?_
    refine aa_ ?_
    refine ca_ (ι:=Nat) (i:=1) 2 ?_ ?_ ?_ ?_
    ·decide
    ·decide
    ·exact cv_
    ·exact sub_
 ·refine aM_ ?_
  refine ai_ ?_
  refine ai_ ?_
  refine aA_ ?_
  refine ac_ ?_
  obtain rfl:k=2:=by omega
  refine r_ ?_
  refine s_ ?_
  refine x_ g_ va_ (iU_ (n:=L1.length + L2.length) (by omega)) ?_;rintro _ τ0 hC0
  rename_i b0
  refine s_ ?_
  refine aa_ ?_
  refine ac_ ?_
  refine rr_ ?_
  iterate 3 refine s_ ?_
  refine aa_ ?_
  refine ah_ ?_
  refine au_ (ι:=Store × AVal × Nat) (fun ⟨τ,b,k⟩=>2 - k) (fun ⟨τ,b,k⟩=>k≤2∧CBp σ τ 3 ((cbk L1 L2 k).map bX_) b) (fun ⟨τ,b,k⟩=>[(6,b),(25,.sl 1 [.sl 3 (L1.map bX_) t1,.sl 3 (L2.map bX_) t2] tt),(26,vInt 2),(27,vInt k)]) (fun ⟨τ,b,k⟩=>τ) (τ0,b0,0) ?_ ?_ ?_ ?_
  ·exact ⟨Nat.zero_le _,hC0⟩
  ·exact cv_
  ·exact Store.Wk.refl _
  rintro ⟨τ,b,k⟩ ⟨hk,hC⟩
  simp only [aJ_,aX_]
  refine rr_ ?_
  refine s_ ?_
  refine aa_ ?_
  refine ac_ ?_
  refine cd_ (fun hc11=>?_) (fun hc11=>?_)
  ·refine ag_ ?_
   refine ac_ ?_
   refine ah_ ?_
   refine ac_ ?_
   rcases (show k=0∨k=1 by omega) with rfl | rfl
   ·refine r_ ?_
    iterate 3 refine s_ ?_
    refine aa_ ?_
    refine r_ ?_
    iterate 2 refine s_ ?_
    refine aL_X rfl rfl (bb_ rfl g_ g_ hC va_ (lc_ _) va_ (kp_ _) (by simp [cbk];omega) fun a' σ' hC'=>?_)
    refine s_ ?_
    refine aa_ ?_
    refine r_ ?_
    iterate 2 refine s_ ?_
    refine aa_ ?_
    refine ca_ (ι:=Store × AVal × Nat) (i:=(τ,b,0)) (σ',a',1) ?_ ?_ ?_ ?_
    ·show 2 - 1 < 2 - 0;decide
    ·exact ⟨by show 1≤2;decide,by simpa [cbk] using hC'⟩
    ·exact cv_
    ·exact Store.Wk.refl _
   ·refine r_ ?_
    iterate 3 refine s_ ?_
    refine aa_ ?_
    refine r_ ?_
    iterate 2 refine s_ ?_
    refine aL_X rfl rfl (bb_ rfl g_ g_ hC va_ (lc_ _) va_ (kp_ _) (by simp [cbk];omega) fun a' σ' hC'=>?_)
    refine s_ ?_
    refine aa_ ?_
    refine r_ ?_
    iterate 2 refine s_ ?_
    refine aa_ ?_
    refine ca_ (ι:=Store × AVal × Nat) (i:=(τ,b,1)) (σ',a',2) ?_ ?_ ?_ ?_
    ·show 2 - 2 < 2 - 1;decide
    ·exact ⟨by show 2≤2;decide,by simpa [cbk] using hC'⟩
    ·exact cv_
    ·exact Store.Wk.refl _
  ·refine aM_ ?_
   refine ai_ ?_
   refine ai_ ?_
   refine aA_ ?_
   refine ac_ ?_
   obtain rfl:k=2:=by omega
   refine r_ ?_
   iterate 2 refine s_ ?_
   refine aa_ ?_
   refine aq_ ?_
   refine aK_ v_ (Store.Wk.refl _) ?_
   exact hC
theorem mX_ (l:List Int):∀ y∈l.map vInt,∀ c∈y.cells,c.one=true:=ij_ vInt (fun x c hc=>by simp [AVal.cells] at hc;(try rcases hc with rfl | rfl | rfl | rfl | rfl);(try rcases hc with rfl | rfl | rfl);(try subst hc);all_goals rfl) l
theorem ox_ (l:List Int):∀ y∈l.map vInt,y.cells.length=1:=hx_ vInt (fun x=>rfl) l
theorem jR_ {n:Nat} {σ:Store} (hn:n≤1000000000):ACalls Tryz.prog 695 [vNil,vInt n] σ fun v σ'=>CBp σ σ' 1 [] v:=by
 refine en_ Tryz.func695 Tryz.ntmps695 Tryz.results695 ?_
 refine rr_ ?_
 refine s_ ?_
 refine aa_ ?_
 refine ac_ ?_
 refine rr_ ?_
 iterate 2 refine s_ ?_
 refine aa_ ?_
 refine cd_ (fun hc1=>?_) (fun hc1=>?_)
 ·omega
 ·refine ag_ ?_
  refine ac_ ?_
  refine rr_ ?_
  iterate 2 refine s_ ?_
  refine aL_X rfl rfl (bf_ rfl g_ va_ ?_)
  iterate 5 refine s_ ?_
  refine aa_ ?_
  refine rr_ ?_
  iterate 2 refine s_ ?_
  refine aa_ ?_
  refine cd_ (fun hc4=>?_) (fun hc4=>?_)
  ·refine r_ ?_
   iterate 2 refine s_ ?_
   refine aL_X rfl rfl (bf_ rfl g_ va_ ?_)
   iterate 2 refine s_ ?_
   refine aL_X rfl rfl (b4_ (n:=n) rfl g_ g_ g_ va_ va_ (by omega) (by omega) fun o22 ho22=>?_)
   iterate 4 refine s_ ?_
   refine aa_ ?_
   refine rr_ ?_
   iterate 2 refine s_ ?_
   refine aa_ ?_
   refine aq_ ?_
   refine aK_ v_ (Store.Wk.refl _) ?_
   exact .inr ⟨o22,ho22,rfl,rfl⟩
  ·refine ag_ ?_
   refine rr_ ?_
   iterate 2 refine s_ ?_
   refine aa_ ?_
   refine aq_ ?_
   refine aK_ v_ (Store.Wk.refl _) ?_
   exact .inl ⟨rfl,rfl,rfl⟩
theorem hj_ {L1 L2:List Int} {t1 t2 tt:Bool} {σ:Store} (h1:L1.length≤10000000) (h2:L2.length≤10000000) :
  ACalls Tryz.prog 670 [.sl 1 [.sl 1 (L1.map vInt) t1,.sl 1 (L2.map vInt) t2] tt] σ fun v σ'=>CBp σ σ' 1 ((L1 ++ L2).map vInt) v:=by
 refine en_ Tryz.func670 Tryz.ntmps670 Tryz.results670 ?_
 refine rr_ ?_
 refine s_ ?_
 refine aa_ ?_
 refine rr_ ?_
 refine s_ ?_
 refine aa_ ?_
 refine ac_ ?_
 refine rr_ ?_
 iterate 3 refine s_ ?_
 refine aa_ ?_
 refine ah_ ?_
 refine au_ (ι:=Nat) (fun k=>2 - k) (fun k=>k≤2) (fun k=>[(0,.sl 1 [.sl 1 (L1.map vInt) t1,.sl 1 (L2.map vInt) t2] tt),(3,vInt ((if k=0 then 0 else if k=1 then L1.length else L1.length + L2.length:Nat):Int)),(9,.sl 1 [.sl 1 (L1.map vInt) t1,.sl 1 (L2.map vInt) t2] tt),(10,vInt 2),(11,vInt k)]) (fun k=>σ) 0 ?_ ?_ ?_ ?_
 ·exact Nat.zero_le _
 ·exact cv_
 ·exact sub_
 rintro k hk
 simp only [aJ_,aX_]
 refine rr_ ?_
 refine s_ ?_
 refine aa_ ?_
 refine ac_ ?_
 refine cd_ (fun hc3=>?_) (fun hc3=>?_)
 ·refine ag_ ?_
  refine ac_ ?_
  refine ah_ ?_
  refine ac_ ?_
  rcases (show k=0∨k=1 by omega) with rfl | rfl
  ·refine r_ ?_
   iterate 3 refine s_ ?_
   refine aa_ ?_
   refine rr_ ?_
   iterate 5 refine s_ ?_
   refine aa_ ?_
   refine rr_ ?_
   iterate 2 refine s_ ?_
   refine aa_ ?_
   refine cd_ (fun hc6=>?_) (fun hc6=>?_)
   ·omega
   ·refine ag_ ?_
    refine r_ ?_
    iterate 2 refine s_ ?_
    refine aa_ ?_
    refine ca_ (ι:=Nat) (i:=0) 1 ?_ ?_ ?_ ?_
    ·decide
    ·decide
    ·have R:=(show ((0:Nat):Int) + (L1.length:Int)=(L1.length:Int) from by omega);exact cv_
    ·exact sub_
  ·refine r_ ?_
   iterate 3 refine s_ ?_
   refine aa_ ?_
   refine rr_ ?_
   iterate 5 refine s_ ?_
   refine aa_ ?_
   refine rr_ ?_
   iterate 2 refine s_ ?_
   refine aa_ ?_
   refine cd_ (fun hc6=>?_) (fun hc6=>?_)
   ·omega
   ·refine ag_ ?_
    refine r_ ?_
    iterate 2 refine s_ ?_
    refine aa_ ?_
    refine ca_ (ι:=Nat) (i:=1) 2 ?_ ?_ ?_ ?_
    ·decide
    ·decide
    ·exact cv_
    ·exact sub_
 ·refine aM_ ?_
  refine ai_ ?_
  refine ai_ ?_
  refine aA_ ?_
  refine ac_ ?_
  obtain rfl:k=2:=by omega
  refine r_ ?_
  refine s_ ?_
  refine x_ g_ va_ (jR_ (n:=L1.length + L2.length) (by omega)) ?_;rintro _ τ0 hC0
  rename_i b0
  refine s_ ?_
  refine aa_ ?_
  refine ac_ ?_
  refine rr_ ?_
  iterate 3 refine s_ ?_
  refine aa_ ?_
  refine ah_ ?_
  refine au_ (ι:=Store × AVal × Nat) (fun ⟨τ,b,k⟩=>2 - k) (fun ⟨τ,b,k⟩=>k≤2∧CBp σ τ 1 ((cbk L1 L2 k).map vInt) b) (fun ⟨τ,b,k⟩=>[(6,b),(25,.sl 1 [.sl 1 (L1.map vInt) t1,.sl 1 (L2.map vInt) t2] tt),(26,vInt 2),(27,vInt k)]) (fun ⟨τ,b,k⟩=>τ) (τ0,b0,0) ?_ ?_ ?_ ?_
  ·exact ⟨Nat.zero_le _,hC0⟩
  ·exact cv_
  ·exact Store.Wk.refl _
  rintro ⟨τ,b,k⟩ ⟨hk,hC⟩
  simp only [aJ_,aX_]
  refine rr_ ?_
  refine s_ ?_
  refine aa_ ?_
  refine ac_ ?_
  refine cd_ (fun hc11=>?_) (fun hc11=>?_)
  ·refine ag_ ?_
   refine ac_ ?_
   refine ah_ ?_
   refine ac_ ?_
   rcases (show k=0∨k=1 by omega) with rfl | rfl
   ·refine r_ ?_
    iterate 3 refine s_ ?_
    refine aa_ ?_
    refine r_ ?_
    iterate 2 refine s_ ?_
    refine aL_X rfl rfl (bb_ rfl g_ g_ hC va_ (ox_ _) va_ (mX_ _) (by simp [cbk];omega) fun a' σ' hC'=>?_)
    refine s_ ?_
    refine aa_ ?_
    refine r_ ?_
    iterate 2 refine s_ ?_
    refine aa_ ?_
    refine ca_ (ι:=Store × AVal × Nat) (i:=(τ,b,0)) (σ',a',1) ?_ ?_ ?_ ?_
    ·show 2 - 1 < 2 - 0;decide
    ·exact ⟨by show 1≤2;decide,by simpa [cbk] using hC'⟩
    ·exact cv_
    ·exact Store.Wk.refl _
   ·refine r_ ?_
    iterate 3 refine s_ ?_
    refine aa_ ?_
    refine r_ ?_
    iterate 2 refine s_ ?_
    refine aL_X rfl rfl (bb_ rfl g_ g_ hC va_ (ox_ _) va_ (mX_ _) (by simp [cbk];omega) fun a' σ' hC'=>?_)
    refine s_ ?_
    refine aa_ ?_
    refine r_ ?_
    iterate 2 refine s_ ?_
    refine aa_ ?_
    refine ca_ (ι:=Store × AVal × Nat) (i:=(τ,b,1)) (σ',a',2) ?_ ?_ ?_ ?_
    ·show 2 - 2 < 2 - 1;decide
    ·exact ⟨by show 2≤2;decide,by simpa [cbk] using hC'⟩
    ·exact cv_
    ·exact Store.Wk.refl _
  ·refine aM_ ?_
   refine ai_ ?_
   refine ai_ ?_
   refine aA_ ?_
   refine ac_ ?_
   obtain rfl:k=2:=by omega
   refine r_ ?_
   iterate 2 refine s_ ?_
   refine aa_ ?_
   refine aq_ ?_
   refine aK_ v_ (Store.Wk.refl _) ?_
   exact hC
end Go.Proofs.YtcdidkliidjoeaaGreatDoor
end

section
set_option linter.all false
namespace Go.Ab
open Go.RowKit (Below)
open Go.Shelf Go.Proofs
section
variable {P:Program} {σ:Store}
def rowed (w:World) (n b:Nat) (f:Array Value→Array Value) (os:Array Obj):World:=Sort.grow (Sort.mapBlock (Sort.ahead w n) b f) os
theorem bN_ (w:World) (n:Nat) {b b':Nat} (f:Array Value→Array Value) (os:Array Obj) (h:b'≠b) (hlt:b' < w.heap.size):(rowed w n b f os).heap[b']?=w.heap[b']?:=by
 unfold rowed Sort.grow Sort.mapBlock Sort.ahead
 dsimp only
 rw [Array.getElem?_append_left (by simpa using hlt),Array.getElem?_modify,if_neg (Ne.symm h)]
theorem i2_ {w:World} (n:Nat) {b:Nat} (f:Array Value→Array Value) (os:Array Obj) {c:Array Value} {e:TypeId} {fr:Nat × Nat} (h:w.heap[b]?=some (.cells c e fr)):(rowed w n b f os).heap[b]?=some (.cells (f c) e fr):=by
 have hlt:b < w.heap.size:=(Array.getElem?_eq_some_iff.1 h).1
 unfold rowed Sort.grow Sort.mapBlock Sort.ahead
 dsimp only
 rw [Array.getElem?_append_left (by simpa using hlt),Array.getElem?_modify,if_pos rfl,h]
 rfl
theorem Inv.rowed {κ:K} (h:Inv κ σ) {o:Nat} {cs cs':List AVal} (ho:σ.heap o=some (.cells cs)) {b:Nat} (hb:κ.ρ o=some b) (n:Nat) (f:Array Value→Array Value) (os:Array Obj) (hf:∀ c,(f c).size=c.size)
  (hv:∀ c:Array Value,cs.length≤c.size→(∀ i (hi:i < cs.length),Rv κ cs[i] (c.getD i undef))→cs'.length≤c.size∧∀ i (hi:i < cs'.length),Rv κ cs'[i] ((f c).getD i undef)) :
  κ.Le { κ with w:=Ab.rowed κ.w n b f os }∧Inv { κ with w:=Ab.rowed κ.w n b f os } (σ.set o (.cells cs')):=by
 obtain ⟨b',hb',hbase,hIb,c,e,hheap,hlen,hR⟩:=h.heap o _ ho
 rw [hb] at hb'
 obtain rfl:=Option.some.inj hb'
 have hlt:b < κ.w.heap.size:=(Array.getElem?_eq_some_iff.1 hheap).1
 have hnew:=i2_ n f os hheap
 have hle:κ.Le { κ with w:=Ab.rowed κ.w n b f os }:=by
  refine ⟨rfl,⟨rfl,rfl,rfl,by simp [Ab.rowed,Sort.grow,Sort.mapBlock,Sort.ahead],fun k hk=>?_⟩,fun b' s e'=>?_,fun _ _ e'=>e',fun _ _ e'=>e',fun _=>Nat.le_refl _,fun b' off' u hi e'=>?_,by simp [Ab.rowed,Sort.grow,Sort.mapBlock,Sort.ahead],fun _ _=>rfl⟩
  ·exact bN_ _ _ _ _ (by omega) (by omega)
  ·by_cases hbb:b'=b
   ·subst hbb
    unfold World.shape? at e' ⊢
    rw [hheap] at e'
    dsimp only
    rw [hnew]
    simpa [hf] using e'
   ·have hlt':b' < κ.w.heap.size:=by
     unfold World.shape? at e'
     cases hq:κ.w.heap[b']? with
     |none=>rw [hq] at e';cases e'
     |some q=>exact (Array.getElem?_eq_some_iff.1 hq).1
    unfold World.shape? at e' ⊢
    dsimp only
    rw [bN_ _ _ _ _ hbb hlt'];exact e'
  ·have hne:b'≠b:=fun hh'=>by rw [hh',hIb] at hi;omega
   have hlt':b' < κ.w.heap.size:=by
    unfold World.cell? at e'
    cases hq:κ.w.heap[b']? with
    |none=>rw [hq] at e';cases e'
    |some q=>exact (Array.getElem?_eq_some_iff.1 hq).1
   simp only [World.cell?] at e' ⊢
   rw [bN_ _ _ _ _ hne hlt'];exact e'
 obtain ⟨h1,h2⟩:=hv c hlen hR
 have big:κ.w.heap.size≤(Ab.rowed κ.w n b f os).heap.size:=hle.below.size
 refine ⟨hle,?_⟩
 refine h.step hle rfl rfl h.frO b hbase hIb (fun b' hne hl'=>bN_ _ _ _ _ hne hl') o _ (fun _ _=>rfl) hb ⟨f c,e,hnew,by rw [hf];exact h1,fun i hi=>(h2 i hi).mono hle⟩ ?_ ?_
 ·intro j z hz hne hh'
  exact hne (h.inj j o _ _ b hz ho hh' hb)
 ·intro t sz u ht hu hh'
  exact h.tokobj t sz u b o _ ht hu hh' ho hb
theorem ic_ {α:Type} [Inhabited α] {κ:K} (enc:α→Value) (d:Array α) {b:Nat} {c:Array Value} {e:TypeId} (hh:κ.w.heap[b]?=some (.cells c e (0,0))) (hl:d.size≤c.size) (h:∀ j,j < d.size→c.getD j undef=enc d[j]!):Sort.Holds enc κ.w b 0 d:=by
 intro j hj
 refine ⟨?_,by simp [World.frozen?,hh]⟩
 have h1:=h j hj
 simp only [World.cell?,hh,Nat.zero_add]
 rw [← h1]
 simp [show j < c.size by omega]
theorem dt_ {α:Type} [Inhabited α] (enc:α→Value) (off:Nat) (d:Array α) (c:Array Value):(Sort.putCells enc off d c).size=c.size:=by simp [Sort.putCells]
theorem eV_ {α:Type} [Inhabited α] (enc:α→Value) (d:Array α) (c:Array Value) (j:Nat) (hj:j < d.size) (hc:d.size≤c.size):(Sort.putCells enc 0 d c).getD j undef=enc d[j]!:=by
 simp [Sort.putCells,show j < c.size by omega,hj]
theorem Rv.mslInv {κ:K} {o sz off len:Nat} {v:Value} (h:Rv κ (.msl o sz off len) v):∃ b cap,v=.slice (some ⟨b,off,none⟩) len cap∧κ.ρ o=some b:=by
 cases h with
 |msl _ _ _ _ b cap n e hb hlen hs hn=>exact ⟨b,cap,rfl,hb⟩
theorem kv_ {κ κ':K} {σ:Store} (hle:κ.Le κ') (hI:Inv κ' σ) {Kk:AVal→Store→Prop} (hk:Kk (.tup []) σ):Post κ Kk (.tuple #[]) κ'.w :=
 ⟨κ',.tup [],σ,rfl,hle,hI,.tup [] #[] rfl (fun i hi=>by simp at hi),hk⟩
theorem mu_ {α:Type} [Inhabited α] (enc:α→Value) {f:FuncId} {o:Nat} (zs zs':List α) (hlen:zs'.length=zs.length) (ho:σ.heap o=some (.cells (zs.map fun z=>.lit (enc z)))) (extra:List AVal) (ev:List Value)
  (h:∀ (b cap:Nat) (w:World),Sort.Holds enc w b 0 zs.toArray→b < w.heap.size→Calls P f (#[.slice (some ⟨b,0,none⟩) zs.length cap] ++ ev.toArray) w fun e w'=>e=.returned (.tuple #[])∧∃ n os,w'=Sort.grow (Sort.putRow enc (Sort.ahead w n) b 0 zs'.toArray) os)
  (he:extra=ev.map .lit):ACalls P f (.msl o 1 0 zs.length :: extra) σ fun v σ'=>v=.tup []∧σ'=σ.set o (.cells (zs'.map fun z=>.lit (enc z))):=by
 intro κ vs hI hn hv
 subst he
 obtain ⟨b,cap,e0,hb⟩:=(hv 0 (by simp)).mslInv
 have hvs:vs=#[.slice (some ⟨b,0,none⟩) zs.length cap] ++ ev.toArray:=by
  apply Array.ext (by simpa [Nat.add_comm] using hn)
  intro i h1 h2
  have hi:i < (AVal.msl o 1 0 zs.length :: ev.map .lit).length:=by rw [← hn];exact h1
  have hr:=hv i hi
  have eg:vs.getD i undef=vs[i]:=by simp [h1]
  rw [eg] at hr
  cases i with
  |zero=>rw [← eg,e0];simp
  |succ i =>
   simp only [List.getElem_cons_succ,List.getElem_map] at hr
   rw [hr.litInv]
   simp [Array.getElem_append]
 obtain ⟨b',hb',hbase,hIb,c,e,hheap,hlen',hR⟩:=hI.heap o _ ho
 rw [hb] at hb'
 obtain rfl:=Option.some.inj hb'
 have hlt:b < κ.w.heap.size:=(Array.getElem?_eq_some_iff.1 hheap).1
 have hH:Sort.Holds enc κ.w b 0 zs.toArray:=ic_ enc zs.toArray hheap (by simpa using hlen') fun j hj=>by
  have hj':j < zs.length:=by simpa using hj
  have h1:=hR j (by simpa using hj')
  simp only [List.getElem_map] at h1
  rw [h1.litInv]
  simp [hj']
 rw [hvs]
 refine (h b cap κ.w hH hlt).mono fun ex w' ⟨he,n,os,hw⟩=>⟨_,he,?_⟩
 have key:=hI.rowed ho hb n (Sort.putCells enc 0 zs'.toArray) os (fun c=>dt_ enc 0 _ c) (cs':=zs'.map fun z=>.lit (enc z)) (fun c hc _=>⟨by simpa [hlen] using hc,fun i hi=>by
  have hi':i < zs'.length:=by simpa using hi
  rw [eV_ enc zs'.toArray c i (by simpa using hi') (by simp at hc ⊢;omega)]
  simp [hi']
  exact .lit _⟩)
 rw [hw]
 exact kv_ (κ':={ κ with w:=Ab.rowed κ.w n b (Sort.putCells enc 0 zs'.toArray) os }) key.1 key.2 ⟨rfl,rfl⟩
end
end Go.Ab
end

section
set_option linter.all false
set_option maxRecDepth 100000
namespace Go.Proofs
open Go.Shelf
def kZ_:Go.Shelf.Ren:=⟨(fun n=>match n with | 125=>68 | 128=>142 | 129=>143 | 190=>37 | 258=>67 | 302=>133 | 303=>134 | 304=>135 | 305=>136 | 306=>137 | 307=>138 | 308=>139 | 309=>140 | 310=>141 | 329=>236 | 330=>237 | 333=>235 | 334=>238 | 335=>239 | 336=>240 | 344=>387 | _=>0),(fun n=>match n with | 0=>0 | 3=>3 | 4=>4 | 5=>5 | 9=>9 | 31=>47 | 46=>127 | 51=>224 | 53=>226 | 131=>221 | 182=>215 | 183=>216 | 218=>311 | 222=>315 | 228=>439 | 229=>440 | _=>0),(fun n=>match n with  | _=>0)⟩
theorem rt_:Lays.n190 Tryz.prog kZ_:={
 mixed:=Tryz.mixed
 f125:=by kernel_rfl
 f128:=by kernel_rfl
 f129:=by kernel_rfl
 f190:=by kernel_rfl
 f258:=by kernel_rfl
 f302:=by kernel_rfl
 f303:=by kernel_rfl
 f304:=by kernel_rfl
 f305:=by kernel_rfl
 f306:=by kernel_rfl
 f307:=by kernel_rfl
 f308:=by kernel_rfl
 f309:=by kernel_rfl
 f310:=by kernel_rfl
 f329:=by kernel_rfl
 f330:=by kernel_rfl
 f333:=by kernel_rfl
 f334:=by kernel_rfl
 f335:=by kernel_rfl
 f336:=by kernel_rfl
 f344:=by kernel_rfl
 t0:=Tryz.underlying0
 a0:=Tryz.isAgg0
 z0:=Tryz.sizeOf0
 v0:=Tryz.zeroValue0
 t3:=Tryz.underlying3
 a3:=Tryz.isAgg3
 z3:=Tryz.sizeOf3
 v3:=Tryz.zeroValue3
 t4:=Tryz.underlying4
 a4:=Tryz.isAgg4
 z4:=Tryz.sizeOf4
 v4:=Tryz.zeroValue4
 t5:=Tryz.underlying5
 a5:=Tryz.isAgg5
 z5:=Tryz.sizeOf5
 v5:=Tryz.zeroValue5
 t9:=Tryz.underlying9
 a9:=Tryz.isAgg9
 z9:=Tryz.sizeOf9
 v9:=Tryz.zeroValue9
 t31:=Tryz.underlying47
 a31:=Tryz.isAgg47
 z31:=Tryz.sizeOf47
 v31:=Tryz.zeroValue47
 t46:=Tryz.underlying127
 a46:=Tryz.isAgg127
 z46:=Tryz.sizeOf127
 v46:=Tryz.zeroValue127
 t51:=Tryz.underlying224
 a51:=Tryz.isAgg224
 z51:=Tryz.sizeOf224
 v51:=Tryz.zeroValue224
 t53:=Tryz.underlying226
 a53:=Tryz.isAgg226
 z53:=Tryz.sizeOf226
 v53:=Tryz.zeroValue226
 t131:=Tryz.underlying221
 a131:=Tryz.isAgg221
 z131:=Tryz.sizeOf221
 v131:=Tryz.zeroValue221
 t182:=Tryz.underlying215
 a182:=Tryz.isAgg215
 z182:=Tryz.sizeOf215
 v182:=Tryz.zeroValue215
 t183:=Tryz.underlying216
 a183:=Tryz.isAgg216
 z183:=Tryz.sizeOf216
 v183:=Tryz.zeroValue216
 t218:=Tryz.underlying311
 a218:=Tryz.isAgg311
 z218:=Tryz.sizeOf311
 v218:=Tryz.zeroValue311
 t222:=Tryz.underlying315
 a222:=Tryz.isAgg315
 z222:=Tryz.sizeOf315
 v222:=Tryz.zeroValue315
 t228:=Tryz.underlying439
 a228:=Tryz.isAgg439
 z228:=Tryz.sizeOf439
 v228:=Tryz.zeroValue439
 t229:=Tryz.underlying440
 a229:=Tryz.isAgg440
 z229:=Tryz.sizeOf440
 v229:=Tryz.zeroValue440 }
end Go.Proofs
namespace Go.Proofs.YtcdidkliidjoeaaGreatDoor
open Go.Ab Go.Shelf
def bk_ (ss:List ByteArray):List ByteArray:=((ss.map Lb).mergeSort fun x y=>decide (x≤y)).map B
theorem k5_ {o : Nat} {ss : List ByteArray} {σ : Store} (ho : σ.heap o = some (.cells (ss.map vStr))) (hl : ss.length ≤ 1000000000) :
    ACalls Tryz.prog 37 [.msl o 1 0 ss.length] σ fun v σ' => v = .tup [] ∧ σ' = σ.set o (.cells ((bk_ ss).map vStr)) := by
  have e1 : ∀ z : List (List UInt8), (z.map fun l => AVal.lit (Go.Proofs.encStr l)) = (z.map B).map vStr := fun z => by rw [List.map_map]; rfl
  have e2 : (ss.map Lb).map B = ss := by rw [List.map_map]; conv => rhs; rw [← List.map_id ss]
                                         apply List.map_congr_left; intro x _; exact B_Lb x
  have h := mu_ (P := Tryz.prog) (σ := σ) (f := 37) (o := o) Go.Proofs.encStr (ss.map Lb) ((ss.map Lb).mergeSort fun x y => decide (x ≤ y)) (by simp) (by rw [e1, e2]; exact ho) [] [] (fun b cap w hH hb => by
    have h : Calls Tryz.prog 37 #[.slice (some ⟨b, 0, none⟩) (ss.map Lb).length cap] w _ := Any.slices_Sort_string rt_ b 0 cap (ss.map Lb) w hH hb (by simp; omega)
    simpa using h) rfl
  rw [e1] at h
  simpa only [List.length_map, bk_] using h
theorem kY_ {f:FuncId} {σ:Store} (h:∀ w,Calls Tryz.prog f #[.slice none 0 0] w fun e w'=>e=.returned (.tuple #[])∧w'=w) :
  ACalls Tryz.prog f [.lit (.slice none 0 0)] σ fun v σ'=>v=.tup []∧σ'=σ:=by
 intro κ vs hI hn hv
 have e0:=(hv 0 (by simp)).litInv
 have hvs:vs=#[.slice none 0 0]:=by
  apply Array.ext (by simpa using hn)
  intro i h1 h2
  simp at h2
  subst h2
  have eg:vs.getD 0 undef=vs[0]:=by simp [h1]
  rw [← eg,e0];rfl
 rw [hvs]
 exact (h κ.w).mono fun ex w' ⟨he,hw⟩=>⟨_,he,by rw [hw];exact kv_ (K.Le.refl κ) hI ⟨rfl,rfl⟩⟩
end Go.Proofs.YtcdidkliidjoeaaGreatDoor
end

section
set_option linter.all false
set_option maxRecDepth 100000
namespace Go.Proofs
open Go.Shelf
end Go.Proofs
namespace Go.Ab
open Go.RowKit (Below)
open Go.Shelf Go.Proofs
section
variable {P:Program} {σ:Store}
theorem ACalls.after {f:FuncId} {args:List AVal} {Q1 Q2:AVal→Store→Prop} (h:ACalls P f args σ Q1)
  (hk:∀ (κ:K) a σ' cv,Inv κ σ'→Rv κ a cv→Q1 a σ'→∃ κ' a' σ'',κ'.w=κ.w∧κ.Le κ'∧Inv κ' σ''∧Rv κ' a' cv∧Q2 a' σ''):ACalls P f args σ Q2 :=
 fun κ vs hI hn hv=>(h κ vs hI hn hv).mono fun e w' ⟨cv,he,κ1,a,σ',h1,h2,h3,h4,h5⟩=>by
  obtain ⟨κ2,a',σ'',g1,g2,g3,g4,g5⟩:=hk κ1 a σ' cv h3 h4 h5
  exact ⟨cv,he,κ2,a',σ'',g1.trans h1,h2.trans g2,g3,g4,g5⟩
end
end Go.Ab
namespace Go.Proofs.YtcdidkliidjoeaaGreatDoor
open Go.Ab Go.Shelf
theorem gI_ (ss:List ByteArray):flat (ss.map vStr)=ss.map vStr:=fZ_ fun x hx=>by
 obtain ⟨s,_,rfl⟩:=List.mem_map.1 hx
 rfl
theorem ge_ {σ0 σ:Store} {ss:List ByteArray} {a:AVal} (h:CBp σ0 σ 1 (ss.map vStr) a) (hl:ss.length≤1000000000) :
  ACalls Tryz.prog 37 [a] σ fun v σ'=>v=.tup []∧CBp σ0 σ' 1 ((bk_ ss).map vStr) a:=by
 rcases h with ⟨rfl,h0,rfl⟩ | ⟨o,ho,rfl,rfl⟩
 ·obtain rfl:ss=[]:=by simpa using h0
  exact (kY_ fun w=>Any.slices_Sort_string_none rt_ none 0 w).wkS fun v σ' ⟨hv,hs⟩=>⟨v,σ',.refl _,.refl _,hv,.inl ⟨rfl,by simp [bk_],hs⟩⟩
 ·rw [gI_,List.length_map]
  exact (k5_ (Store.set_get ..) hl).wkS fun v σ' ⟨hv,hs⟩=>⟨v,σ',.refl _,.refl _,hv,.inr ⟨o,ho,by simp [bk_],by rw [hs,Store.set_set,gI_]⟩⟩
end Go.Proofs.YtcdidkliidjoeaaGreatDoor
end

section
set_option linter.all false
set_option maxRecDepth 100000
namespace Go.Proofs.YtcdidkliidjoeaaGreatDoor
open Go.Ab
theorem hK_ (a b:ByteArray):sLt a b=decide (Lb a < Lb b):=by rw [sLt,bytesLess_eq,Lib.toList_data,Lib.toList_data];rfl
theorem g4_ {a b c:ByteArray} (h:sLt a b=true) (k:sLt b c=true):sLt a c=true:=by
 rw [hK_,decide_eq_true_eq] at *
 exact List.lt_trans h k
theorem op_ {a b:ByteArray} (h:sLt a b=false) (hn:a≠b):sLt b a=true:=by
 rw [hK_,decide_eq_false_iff_not] at h
 rw [hK_,decide_eq_true_eq]
 by_cases k:Lb b < Lb a
 ·exact k
 ·exact absurd (ep_ (List.le_antisymm (List.not_lt.1 k) (List.not_lt.1 h))) hn
def tW_ (s:ByteArray):Seen:=⟨s,0,[]⟩
def ofS (c:List Seen) (s:ByteArray):Seen:=match c.find? (fun x=>decide (x.node=s)) with | some x=>x | none=>tW_ s
@[go_sem] theorem mJ_ (k':IntKind) (a b:Int) (h0:0≤b) (h1:b≤64):aint .shr .u64 a k' b=some (.int .u64 (a / 2 ^ b.toNat)):=dJ_ .u64 k' a b h0 h1
theorem cN_ {σ:Store} {i j:Nat} {x y:AObj} (h:i≠j):(σ.set i x).set j y=(σ.set j y).set i x:=by
 unfold Store.set
 congr 1
 funext k
 by_cases h1:k=j
 ·subst h1;simp [Ne.symm h]
 ·by_cases h2:k=i
  ·subst h2;simp [h]
  ·simp [h1,h2]
structure SeenBd (x:Seen):Prop where
 lo:0≤x.base
 hi:x.base≤9007199254740992
 more:∀ n∈x.more,n≤9007199254740992
 len:x.more.length≤1000000
end Go.Proofs.YtcdidkliidjoeaaGreatDoor
end

section
set_option linter.all false
set_option maxRecDepth 100000
namespace Go.Ab
theorem ACalls.frozen {P:Program} {f:FuncId} {args:List AVal} {σ:Store} {sz:Nat} {l:List AVal} (h:ACalls P f args σ fun v σ'=>CBp σ σ' sz l v) (hs:∀ x∈l,x.cells.length=sz):ACalls P f args σ fun v σ'=>v=.sl sz l false∧σ=σ':=by
 refine h.after ?_
 rintro κ a σ' cv hI hr hC
 rcases hC with ⟨rfl,rfl,rfl⟩ | ⟨o,ho,rfl,rfl⟩
 ·exact ⟨κ,_,_,rfl,.refl κ,hI,hr.wk (.nil sz false),rfl,rfl⟩
 ·obtain ⟨κ',h1,h2,h3,h4⟩:=Ab.freeze hI hr (Store.set_get ..) (l:=l) (by rw [List.take_of_length_le (by rw [av_ hs];exact Nat.le_refl _)]) rfl hs
  rw [Store.set_del ho] at h3
  exact ⟨κ',_,_,h1,h2,h3,h4,rfl,rfl⟩
end Go.Ab
namespace Go.Proofs.YtcdidkliidjoeaaGreatDoor
open Go.Ab
structure SeenGd (x:Seen):Prop where
 name:ik_ x.node=true
 size:x.node.size≤16
 bd:SeenBd x
 len:x.more.length≤4096
theorem hk_ {L1 L2:List Seen} {t1 t2 tt:Bool} {σ:Store} (h1:L1.length≤10000000) (h2:L2.length≤10000000) :
  ACalls Tryz.prog 638 [.sl 1 [.sl 3 (L1.map bX_) t1,.sl 3 (L2.map bX_) t2] tt] σ fun v σ'=>v=.sl 3 ((L1 ++ L2).map bX_) false∧σ=σ' :=
 (gz_ h1 h2).frozen (lc_ _)
end Go.Proofs.YtcdidkliidjoeaaGreatDoor
end

section
set_option linter.all false
set_option maxRecDepth 100000
namespace Go.Proofs.YtcdidkliidjoeaaGreatDoor
open Go.Ab
def sl_ (s:ByteArray) (n:Int):Bool:=ik_ s && decide (1≤n) && decide (n≤9007199254740992)
def rs_ (x:Sib):Bool:=sl_ x.node x.n && decide (x.value.size≤256) && (!x.gone || decide (x.value=⟨#[]⟩)) && decide (0≤x.time) && decide (x.time≤9007199254740992)
def oQ_ (pv:Option Sib) (x:Sib):Bool:=match pv with | none=>true | some p=>pq_ p.node p.n x.node x.n
def nd_ (c:List Seen):Option Sib→List Sib→Bool
 |_,[]=>true
 |pv,x :: l=>rs_ x && hasS c x.node x.n && oQ_ pv x && nd_ c (some x) l
def n9_ (o:Obj'):Bool:=si_ o.ctx && nd_ o.ctx none o.sibs
def ss_ (s:ByteArray):Bool:=decide (1≤s.size) && decide (s.size≤64)
def idx47 (l:List UInt8):Int:=Lib.indexByte l 47
def cutS (s:ByteArray):ByteArray × ByteArray × Bool:=if 0≤idx47 (Lb s) then (s.extract 0 (idx47 (Lb s)).toNat,s.extract ((idx47 (Lb s)).toNat + 1) s.size,true) else (s,⟨#[]⟩,false)
def rw_ (s:ByteArray):ByteArray × ByteArray × Bool:=if (cutS s).2.2=true∧ik_ (cutS s).1=true∧ss_ (cutS s).2.1=true then ((cutS s).1,(cutS s).2.1,true) else (⟨#[]⟩,⟨#[]⟩,false)
def eT_ (s:ByteArray):Bool:=(rw_ s).2.2
theorem nG_ {κ:K} {α:Operand→AVal} {x y:Operand} {ev:Operand→Value} {s:ByteArray} (hx:α x=vStr s) (hy:α y=.lit (.int .u8 47)) (h:∀ z∈#[x,y],Rv κ (α z) (ev z)):∃ cv,(Extern.BytealgIndexByte.indexByte (#[x,y].map ev)).run Tryz.prog κ.w=.ok cv κ.w∧Rv κ (vInt (idx47 (Lb s))) cv:=by
 have h1:=h x (by simp);have h2:=h y (by simp)
 rw [hx] at h1
 rw [hy] at h2
 refine ⟨_,?_,.lit _⟩
 rw [show #[x,y].map ev=#[ev x,ev y] from by simp,h1.litInv,h2.litInv]
 exact Lib.run_indexByteString s 47 κ.w
theorem indexByte_c {s:ByteArray} {σ:Store}:ACalls Tryz.prog 512 [vStr s,.lit (.int .u8 47)] σ fun v σ'=>v=vInt (idx47 (Lb s))∧σ=σ':=by
 refine en_ Tryz.func512 Tryz.ntmps512 Tryz.results512 ?_
 refine rr_ ?_
 refine s_ ?_
 refine aa_ ?_
 refine rr_ ?_
 iterate 2 refine s_ ?_
 refine aL_X rfl rfl (AOp_extern rfl (e:=Extern.BytealgIndexByte.indexByte) kr_ g_ (fun κ ev _ h=>nG_ (s:=s) va_ va_ h) ?_)
 refine s_ ?_
 refine aa_ ?_
 refine aq_ ?_
 refine er_ σ ?_
 exact ⟨rfl,rfl⟩
theorem g7_ {s:ByteArray} {σ:Store}:ACalls Tryz.prog 388 [vStr s,vStr ⟨#[47]⟩] σ fun v σ'=>v=vInt (idx47 (Lb s))∧σ=σ':=by
 have hz:(ByteArray.mk #[47]).size=1:=rfl
 have hb:(ByteArray.mk #[47])[0]?=some 47:=rfl
 refine en_ Tryz.func388 Tryz.ntmps388 Tryz.results388 ?_
 refine rr_ ?_
 refine s_ ?_
 refine aa_ ?_
 refine ac_ ?_
 have R:=hz
 refine r_ ?_
 iterate 3 refine s_ ?_
 refine aa_ ?_
 refine ac_ ?_
 refine ah_ ?_
 refine rr_ ?_
 iterate 3 refine s_ ?_
 refine gf_ ?_
 refine gf_ ?_
 refine gf_ ?_
 iterate 2 refine s_ ?_
 refine aa_ ?_
 refine cd_ (fun hc2=>?_) (fun hc2=>?_)
 ·refine rr_ ?_
  refine s_ ?_
  refine aa_ ?_
  refine aq_ ?_
  refine er_ σ ?_
  refine ⟨?_,rfl⟩
  have h1:(ByteArray.mk #[47])=s:=by simpa using hc2
  rw [← h1];rfl
 ·refine rr_ ?_
  iterate 3 refine s_ ?_
  refine aa_ ?_
  refine cd_ (fun hc4=>?_) (fun hc4=>?_)
  ·refine ac_ ?_
   have R:=And.intro hb hz
   refine r_ ?_
   iterate 3 refine s_ ?_
   refine x_ g_ va_ (indexByte_c) ?_;rintro _ _ ⟨rfl,rfl⟩
   refine s_ ?_
   refine aa_ ?_
   refine aq_ ?_
   refine er_ σ ?_
   exact ⟨rfl,rfl⟩
  ·simp at hc4
def upGo {α:Type} (ok:α→Bool) (key:α→ByteArray):Option ByteArray→List α→Bool
 |_,[]=>true
 |pv,x :: l=>ok x && he_ pv (key x) && upGo ok key (some (key x)) l
def nH_ (l:List Itm):Bool:=upGo (fun x=>eT_ x.place && n9_ x.obj) Itm.place none l
def Kn (x:Seen) (n:Int):Prop:=(0 < n∧n≤x.base)∨n∈x.more
structure SeenCn (x:Seen):Prop where
 lo:0≤x.base
 hi:x.base≤9007199254740992
 rise:x.more.Pairwise (·< ·)
 ab:∀ n∈x.more,x.base + 1 < n∧n≤9007199254740992
def r3_ (c:List Seen):Prop:=c.Pairwise fun x y=>sLt x.node y.node=true
def room (c:List Seen):Nat:=(c.map fun x=>x.more.length).sum
structure CtxG (c:List Seen):Prop where
 rise:r3_ c
 ok:∀ x∈c,nc_ x=true
def sv_ (x y:Sib):Bool:=pq_ x.node x.n y.node y.n
def Dot (x y:Sib):Prop:=x.node=y.node∧x.n=y.n
theorem Dot.symm {x y:Sib} (h:Dot x y):Dot y x:=⟨h.1.symm,h.2.symm⟩
def r2_ (l:List Sib):Prop:=l.Pairwise fun x y=>sv_ x y=true
def sp_ (s:ByteArray) (n:Int) (x:Sib):Bool:=decide (x.node=s) && decide (x.n=n)
def fnd (l:List Sib) (s:ByteArray) (n:Int):Option Sib:=l.find? (sp_ s n)
def sr_ (a:Obj') (x:Sib):Option Sib:=if (fnd a.sibs x.node x.n).isNone && !hasS a.ctx x.node x.n then some x else none
def ht_ (a b:Obj'):List Sib:=b.sibs.filterMap (sr_ a)
structure ObjG (o:Obj'):Prop where
 ctx:CtxG o.ctx
 rise:r2_ o.sibs
 ok:∀ x∈o.sibs,rs_ x=true∧hasS o.ctx x.node x.n=true
inductive St where
 |un
 |rep
 |val (x:Sib)
def look (o:Obj') (s:ByteArray) (n:Int):St:=match fnd o.sibs s n with
 |some x=>.val x
 |none=>if hasS o.ctx s n then .rep else .un
instance:DecidableEq Seen:=fun a b=>decidable_of_iff (a.node=b.node∧a.base=b.base∧a.more=b.more) (by cases a;cases b;simp)
instance:DecidableEq Sib:=fun a b=>decidable_of_iff (a.node=b.node∧a.n=b.n∧a.value=b.value∧a.gone=b.gone∧a.time=b.time) (by cases a;cases b;simp)
instance:DecidableEq Obj':=fun a b=>decidable_of_iff (a.ctx=b.ctx∧a.sibs=b.sibs) (by cases a;cases b;simp)
theorem fd_ {α:Type} {ok:α→Bool} {key:α→ByteArray}:∀ {l:List α} {pv:Option ByteArray},upGo ok key pv l=true→(∀ p,pv=some p→∀ x∈l,sLt p (key x)=true)∧(l.Pairwise fun a b=>sLt (key a) (key b)=true)∧∀ x∈l,ok x=true
 |[],_,_=>⟨fun _ _ x hx=>(List.not_mem_nil hx).elim,List.Pairwise.nil,fun x hx=>(List.not_mem_nil hx).elim⟩
 |x :: l,pv,h=>by
  simp only [upGo,Bool.and_eq_true] at h
  obtain ⟨⟨h1,h2⟩,h3⟩:=h
  obtain ⟨g1,g2,g3⟩:=fd_ h3
  refine ⟨fun p hp y hy=>?_,List.pairwise_cons.2 ⟨fun y hy=>g1 _ rfl y hy,g2⟩,fun y hy=>?_⟩
  ·subst hp
   have h4:sLt p (key x)=true:=h2
   rcases List.mem_cons.1 hy with rfl | hy
   ·exact h4
   ·exact g4_ h4 (g1 _ rfl y hy)
  ·rcases List.mem_cons.1 hy with rfl | hy
   ·exact h1
   ·exact g3 y hy
def I64 (n:Int):Prop:=-9223372036854775808≤n∧n≤9223372036854775807
structure SeenRt (x:Seen):Prop where
 node:x.node.size≤1048576
 base:I64 x.base
 len:x.more.length≤65536
 more:∀ n∈x.more,I64 n
structure SibRt (x:Sib):Prop where
 node:x.node.size≤1048576
 n:I64 x.n
 value:x.value.size≤1048576
 time:I64 x.time
structure ObjRt (o:Obj'):Prop where
 ctx:∀ x∈o.ctx,SeenRt x
 sibs:∀ x∈o.sibs,SibRt x
 nc:o.ctx.length≤65536
 ns:o.sibs.length≤65536
end Go.Proofs.YtcdidkliidjoeaaGreatDoor
end

section
set_option linter.all false
set_option maxRecDepth 100000
namespace Go.Ab
structure Mnt where
 place:ByteArray
 n:Int
structure Bk where
 items:List Itm
 mints:List Mnt
@[reducible] def sMnt (x:Mnt):AVal:=.agg [.lit (.string x.place),vInt x.n]
@[reducible] def sBk (b:Bk):AVal:=.agg [.sl 3 (b.items.map ro_) false,.sl 2 (b.mints.map sMnt) false]
end Go.Ab
namespace Go.Proofs.YtcdidkliidjoeaaGreatDoor
open Go.Ab
instance:DecidableEq Mnt:=fun a b=>decidable_of_iff (a.place=b.place∧a.n=b.n) (by cases a;cases b;simp)
def jd_ {α:Type} (key:α→ByteArray) (l:List α):Prop:=l.Pairwise fun a b=>sLt (key a) (key b)=true
def insK {α:Type} (key:α→ByteArray) (x:α):List α→List α
 |[]=>[x]
 |y :: l=>if sLt (key y) (key x)=true then y :: insK key x l else if key y=key x then x :: l else x :: y :: l
theorem eb_ {α:Type} {key:α→ByteArray} {x z:α}:∀ {l:List α},z∈insK key x l→z=x∨z∈l
 |[],h=>.inl (by simpa [insK] using h)
 |y :: l,h=>by
  rw [insK] at h
  split at h
  ·rcases List.mem_cons.1 h with rfl | h
   ·exact .inr (.head _)
   ·rcases eb_ h with h | h
    ·exact .inl h
    ·exact .inr (.tail _ h)
  ·split at h
   ·rcases List.mem_cons.1 h with rfl | h
    ·exact .inl rfl
    ·exact .inr (.tail _ h)
   ·rcases List.mem_cons.1 h with rfl | h
    ·exact .inl rfl
    ·exact .inr h
theorem eF_ {α:Type} {key:α→ByteArray} {x:α}:∀ {l:List α},jd_ key l→jd_ key (insK key x l)
 |[],_=>List.pairwise_singleton ..
 |y :: l,h=>by
  obtain ⟨h1,h2⟩:=List.pairwise_cons.1 h
  rw [insK]
  split
  ·rename_i hlt
   refine List.pairwise_cons.2 ⟨fun z hz=>?_,eF_ h2⟩
   rcases eb_ hz with rfl | hz
   ·exact hlt
   ·exact h1 z hz
  ·split
   ·rename_i _ he
    exact List.pairwise_cons.2 ⟨fun z hz=>by rw [← he];exact h1 z hz,h2⟩
   ·rename_i hlt he
    have hxy:sLt (key x) (key y)=true:=op_ (by simpa using hlt) he
    refine List.pairwise_cons.2 ⟨fun z hz=>?_,h⟩
    rcases List.mem_cons.1 hz with rfl | hz
    ·exact hxy
    ·exact g4_ hxy (h1 z hz)
theorem hV_ {α:Type} {ok:α→Bool} {key:α→ByteArray}:∀ {l:List α} {pv:Option ByteArray},(∀ p,pv=some p→∀ x∈l,sLt p (key x)=true)→jd_ key l→(∀ x∈l,ok x=true)→upGo ok key pv l=true
 |[],_,_,_,_=>rfl
 |x :: l,pv,h1,h2,h3=>by
  obtain ⟨g1,g2⟩:=List.pairwise_cons.1 h2
  rw [upGo,h3 x (.head _),hV_ (l:=l) (fun p hp y hy=>by cases hp;exact g1 y hy) g2 fun y hy=>h3 y (.tail _ hy)]
  cases pv with
  |none=>rfl
  |some p=>rw [show he_ (some p) (key x)=true from h1 p rfl x (.head _)];rfl
def jD_ (n:Int):Bool:=decide (1≤n) && decide (n≤9007199254740992)
def n3_ (l:List Mnt):Bool:=upGo (fun x=>eT_ x.place && jD_ x.n) Mnt.place none l
def bkOk (b:Bk):Bool:=nH_ b.items && n3_ b.mints
def putR (p:ByteArray) (o:Obj'):List UInt8:=1 :: (fb_ p ++ objB o)
def l6_ (l:List Mnt) (p:ByteArray):Int:=match l.find? (fun x=>decide (x.place=p)) with
 |some x=>x.n + 1
 |none=>1
def hdK (r:List UInt8):Int:=(eZ_ (r,true) 1).1
def hdP (r:List UInt8):ByteArray:=B (g1_ (eZ_ (r,true) 1).2).1
def hdX (r:List UInt8):Rd:=(g1_ (eZ_ (r,true) 1).2).2
def nA_ (x:Rd):Bool:=x.2 && decide (x.1=[])
def apl (b:Bk) (r:List UInt8):Bk × Bool :=
 if eT_ (hdP r) then
  if hdK r=1 then (⟨insK Itm.place ⟨hdP r,(mk_ (hdX r)).1⟩ b.items,b.mints⟩,nA_ (mk_ (hdX r)).2 && n9_ (mk_ (hdX r)).1 && decide (putR (hdP r) (mk_ (hdX r)).1=r))
  else if hdK r=2 then (⟨b.items.filter fun x=>!decide (x.place=hdP r),b.mints⟩,nA_ (hdX r))
  else if hdK r=3 then (⟨b.items,insK Mnt.place ⟨hdP r,max (eZ_ (hdX r) 8).1 (l6_ b.mints (hdP r) - 1)⟩ b.mints⟩,nA_ (eZ_ (hdX r) 8).2 && jD_ (eZ_ (hdX r) 8).1)
  else (b,false)
 else (b,false)
theorem dh_ {b:Bk}:bkOk b=true ↔ (jd_ Itm.place b.items∧∀ x∈b.items,eT_ x.place=true∧n9_ x.obj=true)∧(jd_ Mnt.place b.mints∧∀ x∈b.mints,eT_ x.place=true∧jD_ x.n=true):=by
 rw [bkOk,Bool.and_eq_true]
 refine ⟨fun ⟨h1,h2⟩=>?_,fun ⟨⟨h1,h2⟩,h3,h4⟩=>?_⟩
 ·obtain ⟨_,a1,a2⟩:=fd_ h1
  obtain ⟨_,b1,b2⟩:=fd_ h2
  exact ⟨⟨a1,fun x hx=>by simpa using a2 x hx⟩,b1,fun x hx=>by simpa using b2 x hx⟩
 ·exact ⟨hV_ (fun p hp=>by cases hp) h1 fun x hx=>by simp [h2 x hx],hV_ (fun p hp=>by cases hp) h3 fun x hx=>by simp [h4 x hx]⟩
theorem ez_ {n:Int}:jD_ n=true ↔ 1≤n∧n≤9007199254740992:=by simp [jD_]
theorem n5_ {b:Bk} (h:bkOk b=true) (p:ByteArray):1≤l6_ b.mints p∧l6_ b.mints p≤9007199254740993:=by
 unfold l6_
 split
 ·rename_i x hx
  have:=ez_.1 ((dh_.1 h).2.2 x (List.mem_of_find?_eq_some hx)).2
  omega
 ·omega
theorem oV_ {b:Bk} {r:List UInt8} (h:bkOk b=true) (h2:(apl b r).2=true):bkOk (apl b r).1=true:=by
 have nx:=n5_ h (hdP r)
 obtain ⟨⟨i1,i2⟩,m1,m2⟩:=dh_.1 h
 unfold apl at h2 ⊢
 split at h2
 ·rename_i hp
  rw [if_pos hp]
  split at h2
  ·rename_i hk
   rw [if_pos hk]
   simp only [Bool.and_eq_true] at h2
   refine dh_.2 ⟨⟨eF_ i1,fun x hx=>?_⟩,m1,m2⟩
   rcases eb_ hx with rfl | hx
   ·exact ⟨hp,h2.1.2⟩
   ·exact i2 x hx
  ·rename_i hk
   rw [if_neg hk]
   split at h2
   ·rename_i hk2
    rw [if_pos hk2]
    exact dh_.2 ⟨⟨i1.filter _,fun x hx=>i2 x (List.mem_filter.1 hx).1⟩,m1,m2⟩
   ·rename_i hk2
    rw [if_neg hk2]
    split at h2
    ·rename_i hk3
     rw [if_pos hk3]
     simp only [Bool.and_eq_true] at h2
     have c:=ez_.1 h2.2
     refine dh_.2 ⟨⟨i1,i2⟩,eF_ m1,fun x hx=>?_⟩
     rcases eb_ hx with rfl | hx
     ·exact ⟨hp,ez_.2 (by show 1≤max _ _∧max _ _≤_;omega)⟩
     ·exact m2 x hx
    ·cases h2
 ·cases h2
def crcT (c:Nat):Nat:=if c % 2=1 then (c / 2) ^^^ 0xedb88320 else c / 2
def crcB (c:Nat):Nat:=crcT (crcT (crcT (crcT (crcT (crcT (crcT (crcT c)))))))
def crcG (c:Nat) (l:List UInt8):Nat:=l.foldl (fun n b=>(n / 256) ^^^ crcB ((n % 256) ^^^ b.toNat)) c
theorem cl_ {c:Nat} (h:c < 4294967296):crcT c < 4294967296:=by
 unfold crcT
 split
 ·exact Nat.xor_lt_two_pow (n:=32) (by omega) (by decide)
 ·omega
theorem jF_ {c:Nat} (h:c < 4294967296):crcB c < 4294967296:=cl_ (cl_ (cl_ (cl_ (cl_ (cl_ (cl_ (cl_ h)))))))
theorem ho_:∀ {l:List UInt8} {c:Nat},c < 4294967296→crcG c l < 4294967296
 |[],c,h=>h
 |b :: l,c,h=>by
  have hb:=b.toNat_lt
  have h1:(c % 256) ^^^ b.toNat < 256:=Nat.xor_lt_two_pow (n:=8) (by omega) hb
  exact ho_ (l:=l) (Nat.xor_lt_two_pow (n:=32) (by omega) (jF_ (by omega)))
theorem lH_ (c:Nat) (l m:List UInt8):crcG c (l ++ m)=crcG (crcG c l) m:=List.foldl_append ..
def Runs:Bk→List (List UInt8)→Bk→Prop
 |b,[],c=>c=b
 |b,r :: l,c=>(apl b r).2=true∧Runs (apl b r).1 l c
theorem Runs.ok:∀ {l:List (List UInt8)} {b c:Bk},bkOk b=true→Runs b l c→bkOk c=true
 |[],b,c,hb,h=>by rw [show c=b from h];exact hb
 |r :: l,b,c,hb,h=>h.2.ok (oV_ hb h.1)
theorem Runs.part:∀ {l:List (List UInt8)} {b c:Bk} (i:Nat),Runs b l c→∃ d,Runs b (l.take i) d∧Runs d (l.drop i) c
 |l,b,c,0,h=>⟨b,by simp [Runs],by simpa using h⟩
 |[],b,c,i + 1,h=>⟨b,by simp [Runs],by simpa using h⟩
 |r :: l,b,c,i + 1,h=>by
  obtain ⟨d,h1,h2⟩:=h.2.part i
  exact ⟨d,⟨h.1,h1⟩,h2⟩
end Go.Proofs.YtcdidkliidjoeaaGreatDoor
end

section
set_option linter.all false
set_option maxRecDepth 100000
namespace Go.Proofs.YtcdidkliidjoeaaGreatDoor
open Go.Ab
abbrev vU (n:Nat):AVal:=.lit (.int .u32 (n:Int))
theorem mC_ {n:Nat} (h:n < 4294967296):4294967295 ^^^ n=4294967295 - n:=by
 have h1:(BitVec.allOnes 32 ^^^ BitVec.ofNat 32 n).toNat=(~~~ BitVec.ofNat 32 n).toNat:=by rw [BitVec.allOnes_xor]
 rw [BitVec.toNat_xor,BitVec.toNat_allOnes,BitVec.toNat_ofNat,BitVec.toNat_not,BitVec.toNat_ofNat,Nat.mod_eq_of_lt h] at h1
 exact h1
theorem gv_ {n:Nat} (h:n < 4294967296):bXor .u32 4294967295 (n:Int)=((4294967295 - n:Nat):Int):=by
 have:=(ll_ (p:=4294967295) (q:=n) (by decide) h).1
 rw [mC_ h] at this
 exact this
def crcI:Nat→Nat→Nat
 |0,c=>c
 |k + 1,c=>crcT (crcI k c)
theorem jH_ {c:Nat} (h:c < 4294967296):∀ k,crcI k c < 4294967296
 |0=>h
 |k + 1=>cl_ (jH_ h k)
theorem sh_ (c:Nat):crcI 8 c=crcB c:=rfl
theorem ny_ (c:Nat):crcT c=(c / 2) ^^^ (if c % 2=1 then 3988292384 else 0):=by
 unfold crcT
 split
 ·rfl
 ·rw [Nat.xor_zero]
theorem no_ {c:Nat}:c &&& 1=c % 2:=Nat.and_one_is_mod c
theorem nn_ {c:Nat}:c &&& 255=c % 256:=Nat.and_two_pow_sub_one_eq_mod c 8
theorem lg_ {c:Nat} (h:c < 4294967296):bXor .u32 ((c:Int) / 2 ^ 1) (bAnd .u32 3988292384 ((-(bAnd .u32 (c:Int) 1)) % 4294967296))=(crcT c:Int):=by
 have h1:bAnd .u32 (c:Int) 1=((c % 2:Nat):Int):=by
  have:=(oT_ (p:=c) (q:=1) h (by decide)).1
  rw [no_] at this;exact this
 have h2:(c:Int) / 2 ^ 1=((c / 2:Nat):Int):=by omega
 rw [h1,h2,ny_]
 rcases Nat.mod_two_eq_zero_or_one c with hc | hc
 ·rw [hc,if_neg (by omega),show bAnd .u32 3988292384 ((-((0:Nat):Int)) % 4294967296)=((0:Nat):Int) from by decide +kernel]
  exact (ll_ (by omega) (by decide)).1
 ·rw [hc,if_pos rfl,show bAnd .u32 3988292384 ((-((1:Nat):Int)) % 4294967296)=((3988292384:Nat):Int) from by decide +kernel]
  exact (ll_ (by omega) (by decide)).1
theorem rA_ {c:Nat} {σ:Store} (h:c < 4294967296):ACalls Tryz.prog 424 [vU c] σ fun v σ'=>v=vU (crcB c)∧σ=σ':=by
 have z:∀ n:Int,0 - n=-n:=fun n=>Int.zero_sub n
 refine en_ Tryz.func424 Tryz.ntmps424 Tryz.results424 ?_
 refine rr_ ?_
 refine s_ ?_
 refine aa_ ?_
 refine ac_ ?_
 refine rr_ ?_
 refine s_ ?_
 refine aa_ ?_
 refine ah_ ?_
 refine au_ (ι:=Nat) (fun k=>8 - k) (fun k=>k≤8) (fun k=>[(0,vU (crcI k c)),(3,vInt k)]) (fun k=>σ) 0 ?_ ?_ ?_ ?_
 ·exact Nat.zero_le _
 ·exact cv_
 ·exact sub_
 rintro k hk
 simp only [aJ_,aX_]
 refine rr_ ?_
 refine s_ ?_
 refine aa_ ?_
 refine ac_ ?_
 refine cd_ (fun hc2=>?_) (fun hc2=>?_)
 ·refine ag_ ?_
  refine ac_ ?_
  refine ah_ ?_
  have hst:=lg_ (jH_ h k)
  have R:=And.intro z cP_
  refine r_ ?_
  iterate 8 refine s_ ?_
  refine aa_ ?_
  refine r_ ?_
  iterate 2 refine s_ ?_
  refine aa_ ?_
  refine ca_ (ι:=Nat) (i:=k) (k + 1) ?_ ?_ ?_ ?_
  ·omega
  ·exact (by omega)
  ·have R:=hst;exact cv_
  ·exact sub_
 ·refine aM_ ?_
  refine ai_ ?_
  refine ai_ ?_
  refine aA_ ?_
  refine rr_ ?_
  iterate 2 refine s_ ?_
  refine aa_ ?_
  refine aq_ ?_
  refine er_ σ ?_
  obtain rfl:k=8:=by omega
  exact ⟨by rw [sh_],rfl⟩
theorem kg_ {n c:Nat} (hn:n < 4294967296) (hc:c < 256):bXor .u32 ((n:Int) / 2 ^ 8) ((crcB ((n % 256) ^^^ c):Nat):Int)=(((n / 256) ^^^ crcB ((n % 256) ^^^ c):Nat):Int):=by
 have h2:(n:Int) / 2 ^ 8=((n / 256:Nat):Int):=by omega
 have hb:(n % 256) ^^^ c < 256:=Nat.xor_lt_two_pow (n:=8) (by omega) hc
 rw [h2]
 exact (ll_ (by omega) (jF_ (by omega))).1
theorem l4_ {n c:Nat} (hn:n < 4294967296) (hc:c < 256):bXor .u32 (bAnd .u32 (n:Int) 255) (c:Int)=(((n % 256) ^^^ c:Nat):Int):=by
 have h1:bAnd .u32 (n:Int) 255=((n % 256:Nat):Int):=by
  have:=(oT_ (p:=n) (q:=255) hn (by decide)).1
  rw [nn_] at this;exact this
 rw [h1]
 exact (ll_ (by omega) (by omega)).1
theorem jG_ (n:Nat) (l:List UInt8) (b:UInt8):crcG n (l ++ [b])=(crcG n l / 256) ^^^ crcB ((crcG n l % 256) ^^^ b.toNat):=by rw [lH_];rfl
theorem pt_ {m:Nat} {s:List UInt8} {σ:Store} (hm:m < 4294967296) (hs:s.length≤1000000000):ACalls Tryz.prog 302 [vInt m,vStr (B s)] σ fun v σ'=>v=vInt ((4294967295 - crcG (4294967295 - m) s:Nat):Int)∧σ=σ':=by
 have e1:=gv_ hm
 have e2:(m:Int) % 4294967296=m:=by omega
 have hB:=c9_ s
 have es:(if IntKind.u32.signed=true then (-1:Int) else IntKind.u32.max)=4294967295:=rfl
 refine en_ Tryz.func302 Tryz.ntmps302 Tryz.results302 ?_
 refine ac_ ?_
 have R:=And.intro cP_ (And.intro e2 (And.intro es e1))
 refine r_ ?_
 refine s_ ?_
 refine aa_ ?_
 refine ac_ ?_
 have R:=And.intro cP_ (And.intro e2 (And.intro es e1))
 refine r_ ?_
 iterate 4 refine s_ ?_
 refine aa_ ?_
 refine ac_ ?_
 refine ac_ ?_
 have R:=And.intro ap_ hB
 refine r_ ?_
 refine s_ ?_
 refine iM_ rfl rfl rfl g_ g_ g_ v_ ?_
 iterate 2 refine s_ ?_
 refine aa_ ?_
 refine ah_ ?_
 refine au_ (ι:=Nat) (fun k=>s.length - k) (fun k=>k≤s.length) (fun k=>[(5,vU (crcG (4294967295 - m) (s.take k))),(12,.sl 1 (aj_ (B s)) false),(13,vInt s.length),(14,vInt k)]) (fun k=>σ) 0 ?_ ?_ ?_ ?_
 ·exact Nat.zero_le _
 ·exact cv_
 ·exact sub_
 rintro k hk
 simp only [aJ_,aX_]
 refine ac_ ?_
 have R:=And.intro cP_ (And.intro e2 (And.intro es e1))
 refine r_ ?_
 refine s_ ?_
 refine aa_ ?_
 refine ac_ ?_
 refine cd_ (fun hc3=>?_) (fun hc3=>?_)
 ·refine ag_ ?_
  refine ac_ ?_
  refine ah_ ?_
  refine ac_ ?_
  obtain ⟨c,hc⟩:=cm_ (l:=s) (k:=k) (by omega)
  have hcb:=lD_ hc
  have hlt:=ho_ (l:=s.take k) (c:=4294967295 - m) (by omega)
  have hc8:=c.toNat_lt
  have ea:=l4_ hlt hc8
  have eb:=kg_ hlt hc8
  have e4:IntKind.u32.wrap (c.toNat:Int)=c.toNat:=cJ_ _ (by omega)
  have hcv:crcG (4294967295 - m) (s.take (k + 1))=(crcG (4294967295 - m) (s.take k) / 256) ^^^ crcB ((crcG (4294967295 - m) (s.take k) % 256) ^^^ c.toNat):=by rw [dC_ hc,jG_]
  have R:=hcb
  refine r_ ?_
  iterate 3 refine s_ ?_
  refine aa_ ?_
  have R:=And.intro e4 (And.intro ea eb)
  refine r_ ?_
  iterate 7 refine s_ ?_
  refine x_ g_ va_ (rA_ (c:=(crcG (4294967295 - m) (s.take k) % 256) ^^^ c.toNat) (Nat.lt_of_lt_of_le (Nat.xor_lt_two_pow (n:=8) (by omega) hc8) (by decide))) ?_;rintro _ _ ⟨rfl,rfl⟩
  iterate 2 refine s_ ?_
  refine aa_ ?_
  have R:=And.intro cP_ (And.intro e2 (And.intro es e1))
  refine r_ ?_
  iterate 2 refine s_ ?_
  refine aa_ ?_
  refine ca_ (ι:=Nat) (i:=k) (k + 1) ?_ ?_ ?_ ?_
  ·omega
  ·exact (by omega)
  ·have R:=hcv;exact cv_
  ·exact sub_
 ·refine aM_ ?_
  refine ai_ ?_
  refine ai_ ?_
  refine aA_ ?_
  refine ac_ ?_
  obtain rfl:k=s.length:=by omega
  rw [List.take_length] at *
  have hlt:=ho_ (l:=s) (c:=4294967295 - m) (by omega)
  have e3:=gv_ hlt
  have R:=And.intro es e3
  refine r_ ?_
  iterate 4 refine s_ ?_
  refine aa_ ?_
  refine aq_ ?_
  refine er_ σ ?_
  exact ⟨rfl,rfl⟩
theorem h2_ {o:Nat} {b:AVal} {σ:Store} (ho:σ.heap o=some (.cells [.nilp o 322 2,b])):ACalls Tryz.prog 538 [.ref o 0] σ fun v σ'=>v=.tup []∧σ'=σ.set o (.cells [.ref o 0,b]):=by
 refine en_ Tryz.func538 Tryz.ntmps538 Tryz.results538 ?_
 refine ac_ ?_
 have R:=ho
 refine r_ ?_
 iterate 5 refine s_ ?_
 refine aa_ ?_
 refine cd_ (fun hc0=>?_) (fun hc0=>?_)
 ·have R:=ho
  refine r_ ?_
  iterate 2 refine s_ ?_
  refine aL_X rfl rfl (AOp_toUnsafe (t:=322) rfl Tryz.underlying320 Tryz.underlying628 kr_ g_ ho (by decide) ?_)
  refine aL_X rfl rfl (AOp_extern rfl (e:=Extern.AbiNoEscape.same) kr_ g_ (fun κ ev _ h=>ga_ (h _ (by simp))) ?_)
  refine aL_X rfl rfl (AOp_fromUnsafe (u:=322) rfl Tryz.underlying628 Tryz.underlying320 kr_ g_ ho kr_ ?_)
  iterate 2 refine s_ ?_
  refine st_ ?_
  refine aa_ ?_
  refine bK_ v_ (Store.Wk.refl _) ?_
  exact ⟨rfl,rfl⟩
 ·cases hc0
theorem jt_ {o n:Nat} {σ:Store} (ho:σ.heap o=some (.cells [.ref o 0,.lit (.slice none 0 0)])) (hn:n≤1000000000000):ACalls Tryz.prog 539 [.ref o 0,vInt n] σ fun v σ'=>∃ k,v=.tup []∧σ.tok k=none∧σ'=(σ.newTok none k (5,1)).set o (.cells [.ref o 0,.own k 1 []]):=by
 have hz1:(2:Int) * 0=0:=rfl
 have hz2:∀ m:Int,0 + m=m:=Int.zero_add
 refine en_ Tryz.func539 Tryz.ntmps539 Tryz.results539 ?_
 refine ac_ ?_
 have R:=And.intro ho (And.intro hz1 hz2)
 refine b1_ (.op 0 0 (.op 1 0 (.op 2 0 (.op 3 0 (.op 6 0 (.op 9 0 (.op 10 0 (.op 11 0 (.op 12 0 (.op 13 0 (.op 4 1 (.op 5 0 (.op 7 0 (.op 8 1 (.op 14 2 (.op 15 2 .nil)))))))))))))))) Tryz.mixed kr_ ?_
 iterate 10 refine ds_ ?_
 refine dR_X o_ (by rfl) (by rfl) (bf_ (by rfl) g_ va_ ⟨sub_,?_⟩)
 iterate 2 refine ds_ ?_
 refine dR_X o_ (by rfl) (by rfl) (ff_ (n:=n) (ps:=#[3]) (t:=247) (e:=5) (by rfl) kr_ Tryz.underlying247 g_ va_ (by omega) fun o13 c13 ho13 hc13 hm13=>⟨sub_,?_⟩)
 refine dR_T o_ (by rfl) (by rfl) (iJ_ (l:=0) (h:=0) (by rfl) g_ g_ va_ (by rfl) (by rfl) (Nat.le_refl _) (Nat.zero_le _) (.inl rfl) ?_)
 refine dR_T o_ (by rfl) (by rfl) (b5_ v_ ?_)
 refine gA_ ?_
 have n13:=i1_ ho ho13
 refine ac_ ?_
 have R:=And.intro ho (And.intro hz1 hz2)
 refine r_ ?_
 iterate 5 refine s_ ?_
 refine aL_X rfl rfl (jb_ (by rfl) g_ g_ (.inr va_) va_ ?_)
 refine aa_ ?_
 have R:=And.intro ho (And.intro hz1 hz2)
 refine r_ ?_
 refine s_ ?_
 refine aL_X rfl rfl (lq_ (.inr rfl) va_ h_ hm13 fun k27 hk27=>?_)
 iterate 2 refine s_ ?_
 refine st_ ?_
 refine aa_ ?_
 refine bK_ v_ (Store.Wk.refl _) ?_
 exact ⟨k27,rfl,hk27,by rw [Store.set_del ho13]⟩
theorem nu_ {o n:Nat} {σ:Store} (ho:σ.heap o=some (.cells [.nilp o 322 2,.lit (.slice none 0 0)])) (hn:n≤1000000000000):ACalls Tryz.prog 414 [.ref o 0,vInt n] σ fun v σ'=>v=.tup []∧WR σ' o []∧WF o σ σ':=by
 have hw0:WF o σ (σ.set o (.cells [.ref o 0,.lit (.slice none 0 0)])):=⟨fun i x hi hx=>by rw [Store.set_ne _ _ hi];exact hx,fun t m ht hn=>⟨ht,fun ⟨a',sz2,l2,hh⟩=>by rw [Store.set_get] at hh;simp at hh⟩⟩
 refine en_ Tryz.func414 Tryz.ntmps414 Tryz.results414 ?_
 refine rr_ ?_
 refine s_ ?_
 refine x_ g_ va_ (h2_ ho) ?_;rintro _ _ ⟨rfl,rfl⟩
 refine aa_ ?_
 refine ac_ ?_
 refine rr_ ?_
 iterate 2 refine s_ ?_
 refine aa_ ?_
 refine cd_ (fun hc1=>?_) (fun hc1=>?_)
 ·omega
 ·refine ag_ ?_
  refine ac_ ?_
  refine b1_ (.op 0 0 (.op 1 0 (.op 2 0 (.op 3 0 (.op 5 0 (.op 6 0 (.op 7 0 (.op 8 0 (.op 9 0 (.op 11 0 (.op 4 1 (.op 10 0 (.op 12 0 .nil))))))))))))) Tryz.mixed kr_ ?_
  iterate 10 refine ds_ ?_
  refine dR_X o_ (by rfl) (by rfl) (bf_ (by rfl) g_ va_ ⟨sub_,?_⟩)
  iterate 2 refine ds_ ?_
  refine gA_ ?_
  refine cd_ (fun hc3=>?_) (fun hc3=>?_)
  ·refine r_ ?_
   iterate 2 refine s_ ?_
   refine x_ g_ va_ (jt_ (Store.set_get ..) hn) ?_;rintro _ _ ⟨k,rfl,hk,rfl⟩
   refine aa_ ?_
   refine bK_ v_ (Store.Wk.refl _) ?_
   refine ⟨rfl,⟨_,_,some k,Store.set_get ..,.inl rfl,.inl ⟨k,rfl,by rw [Store.set_tok];exact Store.newTok_get ..,rfl⟩⟩,hw0.trans (WF.put (e:=5) (sz:=1) (Store.set_get ..) (.inr ⟨rfl,rfl,rfl⟩) hk)⟩
  ·refine ag_ ?_
   refine bK_ v_ (Store.Wk.refl _) ?_
   exact ⟨rfl,⟨_,_,none,Store.set_get ..,.inl rfl,.inr ⟨rfl,rfl,rfl⟩⟩,hw0⟩
theorem fT_ {o:Nat} {s:ByteArray} {l:List UInt8} {σ:Store} (ho:WR σ o l) (hl:l.length≤1099511627776) (hs:s.size≤1099511627776) :
  ACalls Tryz.prog 415 [.ref o 0,vStr s] σ fun v σ'=>v=.tup [vInt s.size,.lit .nilIface]∧WR σ' o (l ++ Lb s)∧WF o σ σ':=by
 obtain ⟨a,b,old,h1,h2,h3⟩:=ho
 refine (gm_ h1 h2 h3 hl hs).mono fun v σ' ⟨k,hv,hk,hs'⟩=>⟨hv,?_,?_⟩
 ·rw [hs']
  exact ⟨_,_,some k,Store.set_get ..,.inl rfl,.inl ⟨k,rfl,by rw [Store.set_tok];exact Store.newTok_get ..,rfl⟩⟩
 ·rw [hs']
  exact WF.put h1 h3 hk
theorem gu_ {o k:Nat} {s:ByteArray} {σ:Store} {a:AVal} (ho:σ.heap o=some (.cells [a,.own k 1 (aj_ s)])) (hk:σ.tok k=some (5,1)) (hs:s.size≤1099511627776):ACalls Tryz.prog 390 [.ref o 0] σ fun v σ'=>v=vStr s∧WF o σ σ':=by
 refine (mw_ ho hk hs).mono fun v σ' ⟨hv,hs'⟩=>⟨hv,?_⟩
 rw [hs']
 refine ⟨fun i x hi hx=>hx,fun t n ht hn=>?_⟩
 have hne:t≠k:=fun hh=>hn ⟨_,_,_,by rw [ho,hh]⟩
 exact ⟨by simp only [Store.delTok];rw [if_neg hne];exact ht,fun ⟨a',sz2,l2,hh⟩=>hn ⟨a',sz2,l2,hh⟩⟩
theorem jr_ {o:Nat} {l:List UInt8} {σ:Store} (ho:WR σ o l) (hl:l.length≤1000000000000):ACalls Tryz.prog 390 [.ref o 0] σ fun v σ'=>v=vStr (B l)∧WF o σ σ':=by
 obtain ⟨a,b,old,hw,ha,hb⟩:=ho
 rcases hb with ⟨k,rfl,hk,_⟩ | ⟨rfl,hl0,_⟩
 ·exact gu_ hw hk (by rw [c9_];omega)
 ·have:l=[]:=by
   have:=congrArg List.length hl0
   rw [ap_,c9_] at this
   exact List.eq_nil_of_length_eq_zero this
  subst this
  exact (iz_ hw).mono fun v σ' ⟨hv,hs'⟩=>⟨hv,by rw [← hs'];exact WF.refl⟩
theorem cM_ {L:List ByteArray} {k:Nat} {x:ByteArray} (h:L[k]?=some x):(L.take (k + 1)).flatMap Lb=(L.take k).flatMap Lb ++ Lb x:=gF_ h
set_option maxHeartbeats 2000000 in
theorem oo_ {L:List ByteArray} {t:Bool} {σ:Store} (hL:L.length≤1000000000) (hT:(L.flatMap Lb).length≤1000000000):ACalls Tryz.prog 281 [.sl 1 (L.map vStr) t,vStr ⟨#[]⟩] σ fun v σ'=>v=vStr (B (L.flatMap Lb))∧σ=σ':=by
 have hz:(ByteArray.mk #[]).size=0:=rfl
 refine en_ Tryz.func281 Tryz.ntmps281 Tryz.results281 ?_
 refine rr_ ?_
 refine s_ ?_
 refine aa_ ?_
 refine ac_ ?_
 refine rr_ ?_
 iterate 2 refine s_ ?_
 refine aa_ ?_
 refine ah_ ?_
 refine rr_ ?_
 iterate 2 refine s_ ?_
 refine aa_ ?_
 refine cd_ (fun hc2=>?_) (fun hc2=>?_)
 ·refine rr_ ?_
  refine s_ ?_
  refine aa_ ?_
  refine aq_ ?_
  refine er_ σ ?_
  obtain rfl:L=[]:=List.eq_nil_of_length_eq_zero (by omega)
  exact ⟨rfl,rfl⟩
 ·refine rr_ ?_
  iterate 2 refine s_ ?_
  refine aa_ ?_
  refine cd_ (fun hc4=>?_) (fun hc4=>?_)
  ·refine ac_ ?_
   obtain ⟨x,rfl⟩:∃ x,L=[x]:=List.length_eq_one_iff.1 (by omega)
   refine r_ ?_
   iterate 4 refine s_ ?_
   refine aa_ ?_
   refine aq_ ?_
   refine er_ σ ?_
   exact ⟨by rw [List.flatMap_cons,List.flatMap_nil,List.append_nil,B_Lb],rfl⟩
  ·refine ag_ ?_
   refine rr_ ?_
   refine s_ ?_
   refine aa_ ?_
   refine ac_ ?_
   refine ac_ ?_
   have R:=hz
   refine r_ ?_
   iterate 3 refine s_ ?_
   refine aa_ ?_
   refine cd_ (fun hc7=>?_) (fun hc7=>?_)
   ·simp at hc7
   ·refine ag_ ?_
    refine ac_ ?_
    refine rr_ ?_
    iterate 3 refine s_ ?_
    refine aa_ ?_
    refine ah_ ?_
    refine au_ (ι:=Nat) (fun k=>L.length - k) (fun k=>k≤L.length) (fun k=>[(0,.sl 1 (L.map vStr) t),(1,vStr ⟨#[]⟩),(5,vInt ((L.take k).flatMap Lb).length),(39,.sl 1 (L.map vStr) t),(40,vInt L.length),(41,vInt k)]) (fun k=>σ) 0 ?_ ?_ ?_ ?_
    ·exact Nat.zero_le _
    ·exact cv_
    ·exact sub_
    rintro k hk
    simp only [aJ_,aX_]
    refine rr_ ?_
    refine s_ ?_
    refine aa_ ?_
    refine ac_ ?_
    refine cd_ (fun hc12=>?_) (fun hc12=>?_)
    ·refine ag_ ?_
     refine ac_ ?_
     refine ah_ ?_
     refine ac_ ?_
     obtain ⟨x,hx⟩:=cm_ (l:=L) (k:=k) (by omega)
     have hle:=a0_ (f:=Lb) L k
     have hle1:=a0_ (f:=Lb) L (k + 1)
     have hcv:((((L.take (k + 1)).flatMap Lb).length:Nat):Int)=((L.take k).flatMap Lb).length + x.size:=by rw [cM_ hx,List.length_append,aD_];omega
     have hxs:x.size≤1000000000:=by rw [cM_ hx,List.length_append,aD_] at hle1;omega
     have R:=hx
     refine r_ ?_
     iterate 3 refine s_ ?_
     refine aa_ ?_
     refine ac_ ?_
     refine rr_ ?_
     iterate 5 refine s_ ?_
     refine aa_ ?_
     refine cd_ (fun hc14=>?_) (fun hc14=>?_)
     ·omega
     ·refine ag_ ?_
      refine r_ ?_
      iterate 5 refine s_ ?_
      refine aa_ ?_
      refine r_ ?_
      iterate 2 refine s_ ?_
      refine aa_ ?_
      refine ca_ (ι:=Nat) (i:=k) (k + 1) ?_ ?_ ?_ ?_
      ·omega
      ·exact (by omega)
      ·have R:=hcv;exact cv_
      ·exact sub_
    ·refine aM_ ?_
     refine ai_ ?_
     refine ai_ ?_
     refine aA_ ?_
     refine ac_ ?_
     obtain rfl:k=L.length:=by omega
     rw [List.take_length] at *
     obtain ⟨x0,L',rfl⟩:∃ x0 L',L=x0 :: L':=by
      cases L with
      |nil=>simp at hc2
      |cons a l=>exact ⟨a,l,rfl⟩
     have hL2:L'.length≤1000000000:=by rw [List.length_cons] at hL;omega
     have htk:(L'.map vStr).take L'.length=L'.map vStr:=List.take_of_length_le (by rw [List.length_map];omega)
     have hx0:(Lb x0).length≤1000000000:=by rw [List.flatMap_cons,List.length_append] at hT;omega
     have hx0':x0.size≤1000000000:=by rw [← aD_];exact hx0
     have hT':(L'.flatMap Lb).length + x0.size≤1000000000:=by rw [List.flatMap_cons,List.length_append,aD_] at hT;omega
     refine r_ ?_
     refine aL_X rfl rfl (AOp_allocP (t:=322) (z:=.agg #[.pointer none,.slice none 0 0]) (r:=[.slice none 0 0]) rfl kr_ (by rfl) fun o8 ho8=>?_)
     refine aa_ ?_
     refine rr_ ?_
     refine s_ ?_
     refine x_ g_ va_ (nu_ (Store.set_get ..) (by omega)) ?_;rintro _ τ1 ⟨rfl,a1,a2⟩
     refine aa_ ?_
     refine rr_ ?_
     iterate 3 refine s_ ?_
     refine x_ g_ va_ (fT_ a1 (by simp) (by omega)) ?_;rintro _ τ2 ⟨rfl,b1,b2⟩
     refine aa_ ?_
     refine ac_ ?_
     refine ac_ ?_
     have R:=htk
     refine r_ ?_
     iterate 4 refine s_ ?_
     refine aa_ ?_
     refine ah_ ?_
     refine au_ (ι:=Store × Nat) (fun ⟨τ,k⟩=>L'.length - k) (fun ⟨τ,k⟩=>k≤L'.length∧WR τ o8 (Lb x0 ++ (L'.take k).flatMap Lb)∧WF o8 (σ.set o8 (.cells [.nilp o8 322 2,.lit (.slice none 0 0)])) τ) (fun ⟨τ,k⟩=>[(1,vStr ⟨#[]⟩),(8,.ref o8 0),(63,.sl 1 (L'.map vStr) false),(64,vInt L'.length),(65,vInt k)]) (fun ⟨τ,k⟩=>τ) (τ2,0) ?_ ?_ ?_ ?_
     ·exact ⟨Nat.zero_le _,by simpa using b1,a2.trans b2⟩
     ·exact cv_
     ·exact Store.Wk.refl _
     rintro ⟨τ,k⟩ ⟨hk,h1,h2⟩
     simp only [aJ_,aX_]
     refine rr_ ?_
     refine s_ ?_
     refine aa_ ?_
     refine ac_ ?_
     refine cd_ (fun hc22=>?_) (fun hc22=>?_)
     ·refine ag_ ?_
      refine ac_ ?_
      refine ah_ ?_
      refine ac_ ?_
      obtain ⟨x,hx⟩:=cm_ (l:=L') (k:=k) (by omega)
      have hle:=a0_ (f:=Lb) L' k
      have hle1:=a0_ (f:=Lb) L' (k + 1)
      have hxs:x.size≤1000000000:=by rw [cM_ hx,List.length_append,aD_] at hle1;omega
      have hlx:=aD_ x0
      have R:=hx
      refine r_ ?_
      iterate 3 refine s_ ?_
      refine aa_ ?_
      refine rr_ ?_
      refine s_ ?_
      refine x_ g_ va_ (fT_ h1 (by rw [List.length_append];omega) (by decide)) ?_;rintro _ τ3 ⟨rfl,c1,c2⟩
      refine aa_ ?_
      refine r_ ?_
      refine s_ ?_
      refine x_ g_ va_ (fT_ c1 (by rw [List.length_append,List.length_append,show (Lb ⟨#[]⟩).length=0 from rfl];omega) (by omega)) ?_;rintro _ τ4 ⟨rfl,d1,d2⟩
      refine aa_ ?_
      refine r_ ?_
      iterate 2 refine s_ ?_
      refine aa_ ?_
      refine ca_ (ι:=Store × Nat) (i:=⟨τ,k⟩) (τ4,k + 1) ?_ ?_ ?_ ?_
      ·show L'.length - (k + 1) < L'.length - k;omega
      ·exact ⟨by show k + 1≤L'.length;omega,by rw [cM_ hx];simpa [List.append_assoc,Lb] using d1,h2.trans (c2.trans d2)⟩
      ·exact cv_
      ·exact Store.Wk.refl _
     ·refine aM_ ?_
      refine ai_ ?_
      refine ai_ ?_
      refine aA_ ?_
      refine ac_ ?_
      obtain rfl:k=L'.length:=by omega
      rw [List.take_length] at h1
      have hlx:=aD_ x0
      refine r_ ?_
      refine x_ g_ va_ (jr_ h1 (by rw [List.length_append];omega)) ?_;rintro _ τ5 ⟨rfl,e2⟩
      refine s_ ?_
      refine aa_ ?_
      refine aq_ ?_
      have hW:=WF.sub (x:=.cells [.nilp o8 322 2,.lit (.slice none 0 0)]) ho8 (h2.trans e2) (fun a t sz l hh=>by simp at hh)
      exact aK_ (σ':=σ) va_ (Store.Sub.wk hW) ⟨by rw [List.flatMap_cons],rfl⟩
def bl_:List UInt8→List (List UInt8)
 |[]=>[[]]
 |c :: l=>if c=47 then [] :: bl_ l else (c :: (bl_ l).headD []) :: (bl_ l).tail
theorem g8_:∀ {a b:List UInt8},(∀ c∈a,c≠47)→bl_ (a ++ 47 :: b)=a :: bl_ b
 |[],b,_=>by rw [List.nil_append,bl_,if_pos rfl]
 |c :: a,b,h=>by
  have ih:=g8_ (a:=a) (b:=b) fun d hd=>h d (.tail _ hd)
  rw [List.cons_append,bl_,if_neg (h c (.head _)),ih];rfl
theorem c7_:∀ {a:List UInt8},(∀ c∈a,c≠47)→bl_ a=[a]
 |[],_=>rfl
 |c :: a,h=>by
  have ih:=c7_ (a:=a) fun d hd=>h d (.tail _ hd)
  rw [bl_,if_neg (h c (.head _)),ih];rfl
def oc_:List ByteArray→List UInt8
 |[]=>[]
 |x :: r=>Lb x ++ r.flatMap fun s=>47 :: Lb s
def l9_ (l:List ByteArray):ByteArray:=B (oc_ l)
def WAb (o:Nat) (a:AVal):Prop:=a=.ref o 0∨a=.nilp o 322 2
def WRb (σ:Store) (o:Nat) (l:List UInt8):Prop:=∃ a b old,σ.heap o=some (.cells [a,b])∧WAb o a∧ct_ σ 5 1 (aj_ (B l)) b old
theorem hl_ {o:Nat} {b:AVal} {σ:Store} (ho:σ.heap o=some (.cells [.nilp o 322 2,b])):ACalls Tryz.prog 538 [.ref o 0] σ fun v σ'=>v=.tup []∧σ'=σ.set o (.cells [.ref o 0,b]):=by
 refine en_ Tryz.func538 Tryz.ntmps538 Tryz.results538 ?_
 refine ac_ ?_
 have R:=ho
 refine r_ ?_
 iterate 5 refine s_ ?_
 refine aa_ ?_
 refine cd_ (fun hc0=>?_) (fun hc0=>?_)
 ·have R:=ho
  refine r_ ?_
  iterate 2 refine s_ ?_
  refine aL_X rfl rfl (AOp_toUnsafe (t:=322) rfl Tryz.underlying320 Tryz.underlying628 kr_ g_ ho (by decide) ?_)
  refine aL_X rfl rfl (AOp_extern rfl (e:=Extern.AbiNoEscape.same) kr_ g_ (fun κ ev _ h=>ga_ (h _ (by simp))) ?_)
  refine aL_X rfl rfl (AOp_fromUnsafe (u:=322) rfl Tryz.underlying628 Tryz.underlying320 kr_ g_ ho kr_ ?_)
  iterate 2 refine s_ ?_
  refine st_ ?_
  refine aa_ ?_
  refine bK_ v_ (Store.Wk.refl _) ?_
  exact ⟨rfl,rfl⟩
 ·cases hc0
theorem iR_ {o:Nat} {a b:AVal} {σ:Store} (ho:σ.heap o=some (.cells [a,b])) (ha:WAb o a):ACalls Tryz.prog 538 [.ref o 0] σ fun v σ'=>v=.tup []∧σ'=σ.set o (.cells [.ref o 0,b]):=by
 rcases ha with rfl | rfl
 ·exact eB_ ho
 ·exact hl_ ho
theorem lk_ {o:Nat} {a b:AVal} {σ:Store} {s:ByteArray} {l:List UInt8} {old:Option Nat} (ho:σ.heap o=some (.cells [a,b])) (ha:WAb o a) (hb:ct_ σ 5 1 (aj_ (B l)) b old) (hl:l.length≤1099511627776) (hs:s.size≤1099511627776) :
  ACalls Tryz.prog 415 [.ref o 0,vStr s] σ fun v σ'=>∃ k,v=.tup [vInt s.size,.lit .nilIface]∧σ.tok k=none∧σ'=(σ.newTok old k (5,1)).set o (.cells [.ref o 0,.own k 1 (aj_ (B (l ++ Lb s)))]):=by
 have e1:aj_ (B l) ++ aj_ s=aj_ (B (l ++ Lb s)):=by rw [ck_,← fN_,B_Lb]
 have hbl:(aj_ (B l)).length=l.length:=by rw [ap_,c9_]
 have hsl:=ap_ s
 refine en_ Tryz.func415 Tryz.ntmps415 Tryz.results415 ?_
 refine rr_ ?_
 iterate 2 refine s_ ?_
 refine aa_ ?_
 refine rr_ ?_
 refine s_ ?_
 refine x_ g_ va_ (iR_ ho ha) ?_;rintro _ _ ⟨rfl,rfl⟩
 refine aa_ ?_
 refine rr_ ?_
 iterate 6 refine s_ ?_
 refine aL_X rfl rfl (AOp_appendS rfl g_ g_ (ct_.of hb va_) (hX_ g_) (by simp;omega) fun k14 hk14=>?_);rw [e1]
 iterate 2 refine s_ ?_
 refine st_ ?_
 refine aa_ ?_
 refine rr_ ?_
 iterate 4 refine s_ ?_
 refine aa_ ?_
 refine aq_ ?_
 refine aK_ v_ (Store.Wk.refl _) ?_
 exact ⟨k14,rfl,hk14,by rw [Store.newTok_set,Store.set_set]⟩
theorem wSB {o:Nat} {s:ByteArray} {l:List UInt8} {σ:Store} (ho:WRb σ o l) (hl:l.length≤1099511627776) (hs:s.size≤1099511627776) :
  ACalls Tryz.prog 415 [.ref o 0,vStr s] σ fun v σ'=>v=.tup [vInt s.size,.lit .nilIface]∧WRb σ' o (l ++ Lb s)∧WF o σ σ':=by
 obtain ⟨a,b,old,h1,h2,h3⟩:=ho
 refine (lk_ h1 h2 h3 hl hs).mono fun v σ' ⟨k,hv,hk,hs'⟩=>⟨hv,?_,?_⟩
 ·rw [hs']
  exact ⟨_,_,some k,Store.set_get ..,.inl rfl,.inl ⟨k,rfl,by rw [Store.set_tok];exact Store.newTok_get ..,rfl⟩⟩
 ·rw [hs']
  exact WF.put h1 h3 hk
theorem o1_ {o n:Nat} {σ:Store} (ho:σ.heap o=some (.cells [.nilp o 322 2,.lit (.slice none 0 0)])) (hn:n≤1000000000000):ACalls Tryz.prog 414 [.ref o 0,vInt n] σ fun v σ'=>v=.tup []∧WRb σ' o []∧WF o σ σ':=by
 have hw0:WF o σ (σ.set o (.cells [.ref o 0,.lit (.slice none 0 0)])):=⟨fun i x hi hx=>by rw [Store.set_ne _ _ hi];exact hx,fun t m ht hn=>⟨ht,fun ⟨a',sz2,l2,hh⟩=>by rw [Store.set_get] at hh;simp at hh⟩⟩
 refine en_ Tryz.func414 Tryz.ntmps414 Tryz.results414 ?_
 refine rr_ ?_
 refine s_ ?_
 refine x_ g_ va_ (h2_ ho) ?_;rintro _ _ ⟨rfl,rfl⟩
 refine aa_ ?_
 refine ac_ ?_
 refine rr_ ?_
 iterate 2 refine s_ ?_
 refine aa_ ?_
 refine cd_ (fun hc1=>?_) (fun hc1=>?_)
 ·omega
 ·refine ag_ ?_
  refine ac_ ?_
  refine b1_ (.op 0 0 (.op 1 0 (.op 2 0 (.op 3 0 (.op 5 0 (.op 6 0 (.op 7 0 (.op 8 0 (.op 9 0 (.op 11 0 (.op 4 1 (.op 10 0 (.op 12 0 .nil))))))))))))) Tryz.mixed kr_ ?_
  iterate 10 refine ds_ ?_
  refine dR_X o_ (by rfl) (by rfl) (bf_ (by rfl) g_ va_ ⟨sub_,?_⟩)
  iterate 2 refine ds_ ?_
  refine gA_ ?_
  refine cd_ (fun hc3=>?_) (fun hc3=>?_)
  ·refine r_ ?_
   iterate 2 refine s_ ?_
   refine x_ g_ va_ (jt_ (Store.set_get ..) hn) ?_;rintro _ _ ⟨k,rfl,hk,rfl⟩
   refine aa_ ?_
   refine bK_ v_ (Store.Wk.refl _) ?_
   refine ⟨rfl,⟨_,_,some k,Store.set_get ..,.inl rfl,.inl ⟨k,rfl,by rw [Store.set_tok];exact Store.newTok_get ..,rfl⟩⟩,hw0.trans (WF.put (e:=5) (sz:=1) (Store.set_get ..) (.inr ⟨rfl,rfl,rfl⟩) hk)⟩
  ·refine ag_ ?_
   refine bK_ v_ (Store.Wk.refl _) ?_
   exact ⟨rfl,⟨_,_,none,Store.set_get ..,.inl rfl,.inr ⟨rfl,rfl,rfl⟩⟩,hw0⟩
theorem lz_ {o:Nat} {l:List UInt8} {σ:Store} (ho:WRb σ o l) (hl:l.length≤1000000000000):ACalls Tryz.prog 390 [.ref o 0] σ fun v σ'=>v=vStr (B l)∧WF o σ σ':=by
 obtain ⟨a,b,old,hw,ha,hb⟩:=ho
 rcases hb with ⟨k,rfl,hk,_⟩ | ⟨rfl,hl0,_⟩
 ·exact gu_ hw hk (by rw [c9_];omega)
 ·have:l=[]:=by
   have:=congrArg List.length hl0
   rw [ap_,c9_] at this
   exact List.eq_nil_of_length_eq_zero this
  subst this
  exact (iz_ hw).mono fun v σ' ⟨hv,hs'⟩=>⟨hv,by rw [← hs'];exact WF.refl⟩
theorem gE_ {L:List ByteArray} {k:Nat} {x:ByteArray} (h:L[k]?=some x):(L.take (k + 1)).flatMap (fun s=>47 :: Lb s)=(L.take k).flatMap (fun s=>47 :: Lb s) ++ 47 :: Lb x:=by
 rw [dC_ h];simp
theorem jK_ (L:List ByteArray) (k:Nat):((L.take k).flatMap fun s=>47 :: Lb s).length≤(L.flatMap fun s=>47 :: Lb s).length:=by
 conv=>rhs;rw [← List.take_append_drop k L]
 rw [List.flatMap_append,List.length_append];omega
theorem pb_ (L:List ByteArray):(L.flatMap fun s=>47 :: Lb s).length=L.length + (L.flatMap Lb).length:=by
 induction L with
 |nil=>rfl
 |cons a L ih=>rw [List.flatMap_cons,List.flatMap_cons,List.length_append,List.length_append,List.length_cons,List.length_cons,ih];omega
set_option maxHeartbeats 2000000 in
theorem nI_ {L:List ByteArray} {t:Bool} {σ:Store} (hL:L.length≤1000000) (hT:(L.flatMap Lb).length≤1000000):ACalls Tryz.prog 281 [.sl 1 (L.map vStr) t,vStr ⟨#[47]⟩] σ fun v σ'=>v=vStr (l9_ L)∧σ=σ':=by
 have hz:(ByteArray.mk #[47]).size=1:=rfl
 have hz0:(ByteArray.mk #[]).size=0:=rfl
 refine en_ Tryz.func281 Tryz.ntmps281 Tryz.results281 ?_
 refine rr_ ?_
 refine s_ ?_
 refine aa_ ?_
 refine ac_ ?_
 refine rr_ ?_
 iterate 2 refine s_ ?_
 refine aa_ ?_
 refine ah_ ?_
 refine rr_ ?_
 iterate 2 refine s_ ?_
 refine aa_ ?_
 refine cd_ (fun hc2=>?_) (fun hc2=>?_)
 ·refine rr_ ?_
  refine s_ ?_
  refine aa_ ?_
  refine aq_ ?_
  refine er_ σ ?_
  obtain rfl:L=[]:=List.eq_nil_of_length_eq_zero (by omega)
  exact ⟨rfl,rfl⟩
 ·refine rr_ ?_
  iterate 2 refine s_ ?_
  refine aa_ ?_
  refine cd_ (fun hc4=>?_) (fun hc4=>?_)
  ·refine ac_ ?_
   obtain ⟨x,rfl⟩:∃ x,L=[x]:=List.length_eq_one_iff.1 (by omega)
   refine r_ ?_
   iterate 4 refine s_ ?_
   refine aa_ ?_
   refine aq_ ?_
   refine er_ σ ?_
   exact ⟨by rw [l9_,oc_,List.flatMap_nil,List.append_nil,B_Lb],rfl⟩
  ·refine ag_ ?_
   refine rr_ ?_
   refine s_ ?_
   refine aa_ ?_
   refine ac_ ?_
   refine ac_ ?_
   have R:=hz
   refine r_ ?_
   iterate 3 refine s_ ?_
   refine aa_ ?_
   refine cd_ (fun hc7=>?_) (fun hc7=>?_)
   ·refine ac_ ?_
    refine ac_ ?_
    skip
    obtain ⟨q,hq,hq1⟩:∃ q:Int,IntKind.i64.wrap (Int.tdiv 9223372036854775807 ((L.length:Int) - 1))=q∧1 < q:=by
     refine ⟨_,rfl,?_⟩
     have h1:2≤9223372036854775807 / ((L.length:Int) - 1):=Int.le_ediv_of_mul_le (by omega) (by omega)
     have h2:9223372036854775807 / ((L.length:Int) - 1)≤9223372036854775807:=Int.ediv_le_self _ (by decide)
     rw [Int.tdiv_eq_ediv_of_nonneg (by decide),Go.Ab.wrap_i64 _ (by omega) h2];omega
    have R:=And.intro hz (And.intro @ls_ hq)
    refine r_ ?_
    iterate 7 refine s_ ?_
    refine aa_ ?_
    refine cd_ (fun hc8=>?_) (fun hc8=>?_)
    ·omega
    ·refine ag_ ?_
     have R:=hz
     refine r_ ?_
     iterate 9 refine s_ ?_
     refine aa_ ?_
     refine ac_ ?_
     refine rr_ ?_
     iterate 3 refine s_ ?_
     refine aa_ ?_
     refine ah_ ?_
     refine au_ (ι:=Int × Nat) (fun ⟨n,k⟩=>L.length - k) (fun ⟨n,k⟩=>k≤L.length∧n=(L.length:Int) - 1 + ((L.take k).flatMap Lb).length) (fun ⟨n,k⟩=>[(0,.sl 1 (L.map vStr) t),(1,vStr ⟨#[47]⟩),(5,vInt n),(39,.sl 1 (L.map vStr) t),(40,vInt L.length),(41,vInt k)]) (fun ⟨n,k⟩=>σ) (0 + ((1:Nat):Int) * ((L.length:Int) - 1),0) ?_ ?_ ?_ ?_
     ·exact ⟨Nat.zero_le _,by simp⟩
     ·exact cv_
     ·exact sub_
     rintro ⟨n,k⟩ ⟨hk,hn⟩
     simp only [aJ_,aX_]
     refine rr_ ?_
     refine s_ ?_
     refine aa_ ?_
     refine ac_ ?_
     refine cd_ (fun hc12=>?_) (fun hc12=>?_)
     ·refine ag_ ?_
      refine ac_ ?_
      refine ah_ ?_
      refine ac_ ?_
      obtain ⟨x,hx⟩:=cm_ (l:=L) (k:=k) (by omega)
      have hle:=a0_ (f:=Lb) L k
      have hle1:=a0_ (f:=Lb) L (k + 1)
      have hcv:n + x.size=(L.length:Int) - 1 + ((L.take (k + 1)).flatMap Lb).length:=by rw [cM_ hx,List.length_append,aD_];omega
      have hxs:x.size≤1000000000:=by rw [cM_ hx,List.length_append,aD_] at hle1;omega
      have R:=hx
      refine r_ ?_
      iterate 3 refine s_ ?_
      refine aa_ ?_
      refine ac_ ?_
      refine rr_ ?_
      iterate 5 refine s_ ?_
      refine aa_ ?_
      refine cd_ (fun hc14=>?_) (fun hc14=>?_)
      ·omega
      ·refine ag_ ?_
       refine r_ ?_
       iterate 5 refine s_ ?_
       refine aa_ ?_
       refine r_ ?_
       iterate 2 refine s_ ?_
       refine aa_ ?_
       refine ca_ (ι:=Int × Nat) (i:=⟨n,k⟩) (n + x.size,k + 1) ?_ ?_ ?_ ?_
       ·show L.length - (k + 1) < L.length - k;omega
       ·exact ⟨by show k + 1≤L.length;omega,hcv⟩
       ·exact cv_
       ·exact sub_
     ·refine aM_ ?_
      refine ai_ ?_
      refine ai_ ?_
      refine aA_ ?_
      refine ac_ ?_
      obtain rfl:k=L.length:=by omega
      rw [List.take_length] at *
      obtain ⟨x0,L',rfl⟩:∃ x0 L',L=x0 :: L':=by
       cases L with
       |nil=>simp at hc2
       |cons a l=>exact ⟨a,l,rfl⟩
      obtain ⟨m,hm⟩:∃ m:Nat,n=m:=⟨n.toNat,by rw [List.length_cons] at hn;omega⟩
      subst hm
      have hfl:=pb_ L'
      have hL2:L'.length≤1000000:=by rw [List.length_cons] at hL;omega
      have htk:(L'.map vStr).take L'.length=L'.map vStr:=List.take_of_length_le (by rw [List.length_map];omega)
      have hx0:(Lb x0).length≤1000000:=by rw [List.flatMap_cons,List.length_append] at hT;omega
      have hx0':x0.size≤1000000:=by rw [← aD_];exact hx0
      have hT':(L'.flatMap Lb).length + x0.size≤1000000:=by rw [List.flatMap_cons,List.length_append,aD_] at hT;omega
      refine r_ ?_
      refine aL_X rfl rfl (AOp_allocP (t:=322) (z:=.agg #[.pointer none,.slice none 0 0]) (r:=[.slice none 0 0]) rfl kr_ (by rfl) fun o8 ho8=>?_)
      refine aa_ ?_
      refine rr_ ?_
      refine s_ ?_
      refine x_ g_ va_ (o1_ (Store.set_get ..) (by omega)) ?_;rintro _ τ1 ⟨rfl,a1,a2⟩
      refine aa_ ?_
      refine rr_ ?_
      iterate 3 refine s_ ?_
      refine x_ g_ va_ (wSB a1 (by simp) (by omega)) ?_;rintro _ τ2 ⟨rfl,b1,b2⟩
      refine aa_ ?_
      refine ac_ ?_
      refine ac_ ?_
      have R:=htk
      refine r_ ?_
      iterate 4 refine s_ ?_
      refine aa_ ?_
      refine ah_ ?_
      refine au_ (ι:=Store × Nat) (fun ⟨τ,k⟩=>L'.length - k) (fun ⟨τ,k⟩=>k≤L'.length∧WRb τ o8 (Lb x0 ++ (L'.take k).flatMap fun s=>47 :: Lb s)∧WF o8 (σ.set o8 (.cells [.nilp o8 322 2,.lit (.slice none 0 0)])) τ) (fun ⟨τ,k⟩=>[(1,vStr ⟨#[47]⟩),(8,.ref o8 0),(63,.sl 1 (L'.map vStr) false),(64,vInt L'.length),(65,vInt k)]) (fun ⟨τ,k⟩=>τ) (τ2,0) ?_ ?_ ?_ ?_
      ·exact ⟨Nat.zero_le _,by simpa using b1,a2.trans b2⟩
      ·exact cv_
      ·exact Store.Wk.refl _
      rintro ⟨τ,k⟩ ⟨hk,h1,h2⟩
      simp only [aJ_,aX_]
      refine rr_ ?_
      refine s_ ?_
      refine aa_ ?_
      refine ac_ ?_
      refine cd_ (fun hc22=>?_) (fun hc22=>?_)
      ·refine ag_ ?_
       refine ac_ ?_
       refine ah_ ?_
       refine ac_ ?_
       obtain ⟨x,hx⟩:=cm_ (l:=L') (k:=k) (by omega)
       have hle:=jK_ L' k
       have hle1:=jK_ L' (k + 1)
       have hxs:x.size≤1000000000:=by rw [gE_ hx,List.length_append,List.length_cons,aD_] at hle1;omega
       have hlx:=aD_ x0
       have R:=hx
       refine r_ ?_
       iterate 3 refine s_ ?_
       refine aa_ ?_
       refine rr_ ?_
       refine s_ ?_
       refine x_ g_ va_ (wSB h1 (by rw [List.length_append];omega) (by decide)) ?_;rintro _ τ3 ⟨rfl,c1,c2⟩
       refine aa_ ?_
       refine r_ ?_
       refine s_ ?_
       refine x_ g_ va_ (wSB c1 (by rw [List.length_append,List.length_append,show (Lb ⟨#[47]⟩).length=1 from rfl];omega) (by omega)) ?_;rintro _ τ4 ⟨rfl,d1,d2⟩
       refine aa_ ?_
       refine r_ ?_
       iterate 2 refine s_ ?_
       refine aa_ ?_
       refine ca_ (ι:=Store × Nat) (i:=⟨τ,k⟩) (τ4,k + 1) ?_ ?_ ?_ ?_
       ·show L'.length - (k + 1) < L'.length - k;omega
       ·exact ⟨by show k + 1≤L'.length;omega,by rw [gE_ hx];simpa [List.append_assoc,Lb] using d1,h2.trans (c2.trans d2)⟩
       ·exact cv_
       ·exact Store.Wk.refl _
      ·refine aM_ ?_
       refine ai_ ?_
       refine ai_ ?_
       refine aA_ ?_
       refine ac_ ?_
       obtain rfl:k=L'.length:=by omega
       rw [List.take_length] at h1
       have hlx:=aD_ x0
       refine r_ ?_
       refine x_ g_ va_ (lz_ h1 (by rw [List.length_append];omega)) ?_;rintro _ τ5 ⟨rfl,e2⟩
       refine s_ ?_
       refine aa_ ?_
       refine aq_ ?_
       have hW:=WF.sub (x:=.cells [.nilp o8 322 2,.lit (.slice none 0 0)]) ho8 (h2.trans e2) (fun a t sz l hh=>by simp at hh)
       exact aK_ (σ':=σ) va_ (Store.Sub.wk hW) ⟨rfl,rfl⟩
   ·simp at hc7
end Go.Proofs.YtcdidkliidjoeaaGreatDoor
end

section
set_option linter.all false
set_option maxRecDepth 100000
namespace Go.Proofs.YtcdidkliidjoeaaGreatDoor.SpN
open Go.Ab
abbrev v47:AVal:=vStr ⟨#[47]⟩
def idx47 (l:List UInt8):Int:=Lib.indexByte l 47
theorem nG_ {κ:K} {α:Operand→AVal} {x y:Operand} {ev:Operand→Value} {s:ByteArray} (hx:α x=vStr s) (hy:α y=.lit (.int .u8 47)) (h:∀ z∈#[x,y],Rv κ (α z) (ev z)):∃ cv,(Extern.BytealgIndexByte.indexByte (#[x,y].map ev)).run Tryz.prog κ.w=.ok cv κ.w∧Rv κ (vInt (idx47 (Lb s))) cv:=by
 have h1:=h x (by simp);have h2:=h y (by simp)
 rw [hx] at h1
 rw [hy] at h2
 refine ⟨_,?_,.lit _⟩
 rw [show #[x,y].map ev=#[ev x,ev y] from by simp,h1.litInv,h2.litInv]
 exact Lib.run_indexByteString s 47 κ.w
theorem jL_ (ss:List ByteArray):flat (ss.map vStr)=ss.map vStr:=fZ_ fun x hx=>by
 obtain ⟨s,_,rfl⟩:=List.mem_map.1 hx
 rfl
theorem indexByte_c {s:ByteArray} {σ:Store}:ACalls Tryz.prog 512 [vStr s,.lit (.int .u8 47)] σ fun v σ'=>v=vInt (idx47 (Lb s))∧σ=σ':=by
 refine en_ Tryz.func512 Tryz.ntmps512 Tryz.results512 ?_
 refine rr_ ?_
 refine s_ ?_
 refine aa_ ?_
 refine rr_ ?_
 iterate 2 refine s_ ?_
 refine aL_X rfl rfl (AOp_extern rfl (e:=Extern.BytealgIndexByte.indexByte) kr_ g_ (fun κ ev _ h=>nG_ (s:=s) va_ va_ h) ?_)
 refine s_ ?_
 refine aa_ ?_
 refine aq_ ?_
 refine er_ σ ?_
 exact ⟨rfl,rfl⟩
theorem g7_ {s:ByteArray} {σ:Store}:ACalls Tryz.prog 388 [vStr s,v47] σ fun v σ'=>v=vInt (idx47 (Lb s))∧σ=σ':=by
 have hz:(ByteArray.mk #[47]).size=1:=rfl
 have hb:(ByteArray.mk #[47])[0]?=some 47:=rfl
 refine en_ Tryz.func388 Tryz.ntmps388 Tryz.results388 ?_
 refine rr_ ?_
 refine s_ ?_
 refine aa_ ?_
 refine ac_ ?_
 have R:=hz
 refine r_ ?_
 iterate 3 refine s_ ?_
 refine aa_ ?_
 refine ac_ ?_
 refine ah_ ?_
 refine rr_ ?_
 iterate 3 refine s_ ?_
 refine gf_ ?_
 refine gf_ ?_
 refine gf_ ?_
 iterate 2 refine s_ ?_
 refine aa_ ?_
 refine cd_ (fun hc2=>?_) (fun hc2=>?_)
 ·refine rr_ ?_
  refine s_ ?_
  refine aa_ ?_
  refine aq_ ?_
  refine er_ σ ?_
  refine ⟨?_,rfl⟩
  have h1:(ByteArray.mk #[47])=s:=by simpa using hc2
  rw [← h1];rfl
 ·refine rr_ ?_
  iterate 3 refine s_ ?_
  refine aa_ ?_
  refine cd_ (fun hc4=>?_) (fun hc4=>?_)
  ·refine ac_ ?_
   have R:=And.intro hb hz
   refine r_ ?_
   iterate 3 refine s_ ?_
   refine x_ g_ va_ (indexByte_c) ?_;rintro _ _ ⟨rfl,rfl⟩
   refine s_ ?_
   refine aa_ ?_
   refine aq_ ?_
   refine er_ σ ?_
   exact ⟨rfl,rfl⟩
  ·simp at hc4
theorem mq_ {s:ByteArray} {σ:Store}:ACalls Tryz.prog 608 [vStr s,v47] σ fun v σ'=>v=vInt (idx47 (Lb s))∧σ=σ':=by
 refine en_ Tryz.func608 Tryz.ntmps608 Tryz.results608 ?_
 refine rr_ ?_
 refine s_ ?_
 refine aa_ ?_
 refine rr_ ?_
 iterate 2 refine s_ ?_
 refine x_ g_ va_ (g7_) ?_;rintro _ _ ⟨rfl,rfl⟩
 refine s_ ?_
 refine aa_ ?_
 refine aq_ ?_
 refine er_ σ ?_
 exact ⟨rfl,rfl⟩
theorem sf_ {κ:K} {α:Operand→AVal} {x y:Operand} {ev:Operand→Value} {s:ByteArray} (hx:α x=vStr s) (hy:α y=.lit (.int .u8 47)) (h:∀ z∈#[x,y],Rv κ (α z) (ev z)):∃ cv,(Extern.BytealgCount.count (#[x,y].map ev)).run Tryz.prog κ.w=.ok cv κ.w∧Rv κ (vInt ((Lb s).count 47)) cv:=by
 have h1:=h x (by simp);have h2:=h y (by simp)
 rw [hx] at h1
 rw [hy] at h2
 refine ⟨_,?_,.lit _⟩
 rw [show #[x,y].map ev=#[ev x,ev y] from by simp,h1.litInv,h2.litInv]
 exact Lib.run_countString s 47 κ.w
theorem nx_ {s:ByteArray} {σ:Store}:ACalls Tryz.prog 607 [vStr s,v47] σ fun v σ'=>v=vInt ((Lb s).count 47)∧σ=σ':=by
 have hz:(ByteArray.mk #[47]).size=1:=rfl
 have hb:(ByteArray.mk #[47])[0]?=some 47:=rfl
 refine en_ Tryz.func607 Tryz.ntmps607 Tryz.results607 ?_
 refine rr_ ?_
 refine s_ ?_
 refine aa_ ?_
 refine ac_ ?_
 refine ac_ ?_
 have R:=hz
 refine r_ ?_
 iterate 3 refine s_ ?_
 refine aa_ ?_
 refine cd_ (fun hc1=>?_) (fun hc1=>?_)
 ·simp at hc1
 ·refine ag_ ?_
  refine ac_ ?_
  refine ac_ ?_
  have R:=hz
  refine r_ ?_
  iterate 3 refine s_ ?_
  refine aa_ ?_
  refine cd_ (fun hc3=>?_) (fun hc3=>?_)
  ·refine ac_ ?_
   have R:=hb
   refine r_ ?_
   iterate 3 refine s_ ?_
   refine aL_X rfl rfl (AOp_extern rfl (e:=Extern.BytealgCount.count) kr_ g_ (fun κ ev _ h=>sf_ (s:=s) va_ va_ h) ?_)
   refine s_ ?_
   refine aa_ ?_
   refine aq_ ?_
   refine er_ σ ?_
   exact ⟨rfl,rfl⟩
  ·simp at hc3
structure Pc (s:ByteArray) (N:Nat) (done:List ByteArray) (r:ByteArray):Prop where
 sp:(bl_ (Lb s)).map B=done ++ (bl_ (Lb r)).map B
 n:N=done.length + (Lb r).count 47 + 1
 sz:r.size≤s.size
theorem mQ_ {l:List UInt8}:(idx47 l=-1→bl_ l=[l]∧l.count 47=0)∧∀ i:Nat,idx47 l=i→bl_ l=l.take i :: bl_ (l.drop (i + 1))∧l.count 47=(l.drop (i + 1)).count 47 + 1∧i < l.length:=by
 refine ⟨fun h=>?_,fun i h=>?_⟩
 ·have hn:=Lib.indexByte_none h
  have hall:∀ c∈l,c≠47:=fun c hc e=>by
   obtain ⟨k,hk⟩:=List.mem_iff_getElem?.1 hc
   exact hn k (by rw [hk,e])
  exact ⟨c7_ hall,List.count_eq_zero.2 fun hm=>hall 47 hm rfl⟩
 ·obtain ⟨g1,g2⟩:=Lib.indexByte_some h
  have hlt:=(List.getElem?_eq_some_iff.1 g1).1
  have el:l=l.take i ++ 47 :: l.drop (i + 1):=by
   rw [← (List.getElem?_eq_some_iff.1 g1).2,List.getElem_cons_drop hlt,List.take_append_drop]
  have hno:∀ c∈l.take i,c≠47:=fun c hc e=>by
   obtain ⟨k,hk⟩:=List.mem_iff_getElem?.1 hc
   have hk1:=(List.getElem?_eq_some_iff.1 hk).1
   rw [List.length_take] at hk1
   rw [List.getElem?_take_of_lt (by omega)] at hk
   exact g2 k (by omega) (by rw [hk,e])
  refine ⟨?_,?_,hlt⟩
  ·conv=>lhs;rw [el]
   exact g8_ hno
  ·conv=>lhs;rw [el]
   rw [List.count_append,List.count_cons_self,List.count_eq_zero.2 fun hm=>hno 47 hm rfl];omega
theorem Pc.step {s r:ByteArray} {N i:Nat} {done:List ByteArray} (h:Pc s N done r) (hi:idx47 (Lb r)=i):Pc s N (done ++ [r.extract 0 i]) (r.extract (i + 1) r.size)∧i < r.size:=by
 obtain ⟨c1,c2,c3⟩:=mQ_.2 i hi
 have e1:Lb (r.extract 0 i)=(Lb r).take i:=by rw [gC_,Lb_B,List.drop_zero]
 have e2:Lb (r.extract (i + 1) r.size)=(Lb r).drop (i + 1):=by rw [gC_,Lb_B,← aD_,List.take_length]
 refine ⟨⟨?_,?_,?_⟩,by rw [← aD_];exact c3⟩
 ·rw [h.sp,c1,e2,List.map_cons,← e1,B_Lb];simp
 ·rw [h.n,c2,e2];simp;omega
 ·have:=h.sz;simp only [ByteArray.size_extract];omega
theorem ii_ {done:List ByteArray} {N:Nat} {x:ByteArray} (h:done.length < N):aput (done.map vStr ++ List.replicate (N - done.length) (vStr ⟨#[]⟩)) done.length [vStr x]=(done ++ [x]).map vStr ++ List.replicate (N - (done ++ [x]).length) (vStr ⟨#[]⟩):=by
 unfold aput
 rw [List.take_left' (by simp),List.drop_append,List.drop_of_length_le (by simp),List.nil_append]
 simp only [List.length_map,List.length_singleton,List.drop_replicate,List.map_append,List.map_cons,List.map_nil,List.length_append,List.append_assoc]
 congr 3
 omega
theorem aftN {P:Program} {σ:Store} {f:FuncId} {args:List AVal} {Q1 Q2:AVal→Store→Prop} (h:ACalls P f args σ Q1)
  (hk:∀ (κ:K) a σ' cv,Inv κ σ'→Rv κ a cv→Q1 a σ'→∃ κ' a' σ'',κ'.w=κ.w∧κ.Le κ'∧Inv κ' σ''∧Rv κ' a' cv∧Q2 a' σ''):ACalls P f args σ Q2 :=
 fun κ vs hI hn hv=>(h κ vs hI hn hv).mono fun e w' ⟨cv,he,κ1,a,σ',h1,h2,h3,h4,h5⟩=>by
  obtain ⟨κ2,a',σ'',g1,g2,g3,g4,g5⟩:=hk κ1 a σ' cv h3 h4 h5
  exact ⟨cv,he,κ2,a',σ'',g1.trans h1,h2.trans g2,g3,g4,g5⟩
theorem iT_ {s:ByteArray} {σ:Store} (hs:s.size≤1000000):ACalls Tryz.prog 524 [vStr s,v47,vInt 0,vInt (-1)] σ fun v σ'=>∃ o,σ.heap o=none∧v=.msl o 1 0 ((bl_ (Lb s)).map B).length∧σ'=σ.set o (.cells (((bl_ (Lb s)).map B).map vStr)):=by
 have hz:(ByteArray.mk #[47]).size=1:=rfl
 have hne:¬ (ByteArray.mk #[47])=⟨#[]⟩:=by decide
 have hcn:(Lb s).count 47≤s.size:=by rw [← aD_];exact List.count_le_length ..
 obtain ⟨N,hN⟩:∃ N,(Lb s).count 47 + 1=N:=⟨_,rfl⟩
 refine en_ Tryz.func524 Tryz.ntmps524 Tryz.results524 ?_
 refine rr_ ?_
 refine s_ ?_
 refine aa_ ?_
 refine ac_ ?_
 refine rr_ ?_
 iterate 2 refine s_ ?_
 refine aa_ ?_
 refine cd_ (fun hc1=>?_) (fun hc1=>?_)
 ·simp at hc1
 ·refine ag_ ?_
  refine ac_ ?_
  refine rr_ ?_
  iterate 2 refine s_ ?_
  refine aa_ ?_
  refine cd_ (fun hc3=>?_) (fun hc3=>?_)
  ·exact absurd hc3 hne
  ·refine ag_ ?_
   refine ac_ ?_
   refine rr_ ?_
   iterate 2 refine s_ ?_
   refine aa_ ?_
   refine cd_ (fun hc5=>?_) (fun hc5=>?_)
   ·refine r_ ?_
    iterate 2 refine s_ ?_
    refine x_ g_ va_ (nx_) ?_;rintro _ _ ⟨rfl,rfl⟩
    iterate 2 refine s_ ?_
    refine aa_ ?_
    refine ac_ ?_
    have hmin:min (((Lb s).count 47:Int) + 1) ((s.size:Int) + 1)=N:=by omega
    have R:=hmin
    refine r_ ?_
    iterate 6 refine s_ ?_
    refine aa_ ?_
    refine rr_ ?_
    refine s_ ?_
    refine aL_X rfl rfl (AOp_makeSlice rfl g_ g_ g_ rfl v_ v_ (by omega) fun oa hoa=>?_)
    refine s_ ?_
    refine aa_ ?_
    refine rr_ ?_
    iterate 3 refine s_ ?_
    refine aa_ ?_
    refine rr_ ?_
    refine s_ ?_
    refine aa_ ?_
    refine ac_ ?_
    refine ah_ ?_
    refine au_ (ι:=List ByteArray × ByteArray) (fun ⟨done,r⟩=>N - done.length) (fun ⟨done,r⟩=>Pc s N done r) (fun ⟨done,r⟩=>[(0,vStr r),(1,v47),(2,vInt 0),(3,vInt ((N:Int) - 1)),(9,.msl oa 1 0 N),(10,vInt done.length)]) (fun ⟨done,r⟩=>(σ.set oa (.cells (done.map vStr ++ List.replicate (N - done.length) (vStr ⟨#[]⟩))))) ([],s) ?_ ?_ ?_ ?_
    ·exact ⟨rfl,by rw [← hN];simp,Nat.le_refl _⟩
    ·exact cv_
    ·exact Store.Wk.refl _
    rintro ⟨done,r⟩ hP
    simp only [aJ_,aX_]
    refine ac_ ?_
    refine rr_ ?_
    iterate 3 refine s_ ?_
    refine aa_ ?_
    refine cd_ (fun hc11=>?_) (fun hc11=>?_)
    ·refine ag_ ?_
     refine ah_ ?_
     refine rr_ ?_
     iterate 2 refine s_ ?_
     refine x_ g_ va_ (mq_) ?_;rintro _ _ ⟨rfl,rfl⟩
     refine s_ ?_
     refine aa_ ?_
     refine ac_ ?_
     refine ac_ ?_
     have hge:=Lib.indexByte_ge (Lb r) 47
     refine r_ ?_
     iterate 2 refine s_ ?_
     refine aa_ ?_
     refine cd_ (fun hc13=>?_) (fun hc13=>?_)
     ·have h1:=(mQ_.1 (show idx47 (Lb r)=-1 by unfold idx47 at *;omega)).2;have h2:=hP.n;omega
     ·obtain ⟨i,hi⟩:∃ i:Nat,idx47 (Lb r)=i:=⟨(idx47 (Lb r)).toNat,by omega⟩
      obtain ⟨hPs,hir⟩:=hP.step hi
      have hrs:=hP.sz
      have hdn:done.length < N:=by have:=hP.n;omega
      have hls:=ii_ (x:=r.extract 0 i) hdn
      have hln:(((done ++ [r.extract 0 i]).length:Nat):Int)=(done.length:Int) + 1:=by rw [List.length_append,List.length_singleton];rfl
      rw [hi]
      refine ag_ ?_
      refine ac_ ?_
      have R:=hls
      refine r_ ?_
      iterate 8 refine s_ ?_
      refine fQ_ rfl rfl rfl v_ v_ h_ g_ rfl g_ c_ (by rfl) le_ (by first | exact hls | (rw [Nat.mul_one];exact hls) | (rw [Nat.zero_add];exact hls) | (rw [Nat.mul_one,Nat.zero_add];exact hls)) ?_
      refine aa_ ?_
      refine ac_ ?_
      have htn:((i:Int) + ((1:Nat):Int)).toNat=i + 1:=by omega
      have R:=And.intro hz htn
      refine r_ ?_
      iterate 7 refine s_ ?_
      refine aa_ ?_
      refine r_ ?_
      iterate 3 refine s_ ?_
      refine aa_ ?_
      refine ca_ (ι:=List ByteArray × ByteArray) (i:=⟨done,r⟩) (done ++ [r.extract 0 i],r.extract (i + 1) r.size) ?_ ?_ ?_ ?_
      ·show N - (done ++ [r.extract 0 i]).length < N - done.length;rw [List.length_append,List.length_singleton];omega
      ·exact hPs
      ·have R:=hln;exact cv_
      ·(try dsimp only);rw [Store.set_set];exact Store.Wk.refl _
    ·refine aM_ ?_
     refine ai_ ?_
     refine ai_ ?_
     refine aA_ ?_
     refine ac_ ?_
     have hdn:done.length + 1=N:=by have:=hP.n;omega
     have hc0:(Lb r).count 47=0:=by have:=hP.n;omega
     have hls:=ii_ (x:=r) (show done.length < N by omega)
     refine r_ ?_
     iterate 4 refine s_ ?_
     refine fQ_ rfl rfl rfl v_ v_ h_ g_ rfl g_ c_ (by rfl) le_ (by first | exact hls | (rw [Nat.mul_one];exact hls) | (rw [Nat.zero_add];exact hls) | (rw [Nat.mul_one,Nat.zero_add];exact hls)) ?_
     refine aa_ ?_
     refine ac_ ?_
     have hend:(bl_ (Lb s)).map B=done ++ [r]:=by
      rw [hP.sp,c7_ fun c hc e=>List.count_eq_zero.1 hc0 (e ▸ hc),List.map_singleton,B_Lb]
     have hsl:N - (done ++ [r]).length=0:=by rw [List.length_append,List.length_singleton];omega
     refine r_ ?_
     iterate 5 refine s_ ?_
     refine aa_ ?_
     refine aq_ ?_
     refine aK_ v_ (Store.Wk.refl _) ?_
     exact ⟨oa,hoa,by rw [hend,List.length_append,List.length_singleton];congr 1,by rw [hend,Store.set_set,hsl];simp⟩
   ·simp at hc5
theorem split47_c {s:ByteArray} {σ:Store} (hs:s.size≤1000000):ACalls Tryz.prog 401 [vStr s,v47] σ fun v σ'=>v=.sl 1 (((bl_ (Lb s)).map B).map vStr) false∧σ=σ':=by
 have key:ACalls Tryz.prog 524 [vStr s,v47,vInt 0,vInt (-1)] σ fun v σ'=>v=.sl 1 (((bl_ (Lb s)).map B).map vStr) false∧σ=σ':=by
  refine aftN (iT_ hs) ?_
  rintro κ a τ cv hI hr ⟨o,ho,rfl,rfl⟩
  obtain ⟨κ',h1,h2,h3,h4⟩:=Ab.freeze hI hr (Store.set_get ..) (l:=((bl_ (Lb s)).map B).map vStr) (by rw [Nat.mul_one,List.take_of_length_le (by simp),jL_]) (by simp) fun x hx=>by
   obtain ⟨z,_,rfl⟩:=List.mem_map.1 hx
   rfl
  rw [Store.set_del ho] at h3
  exact ⟨κ',_,_,h1,h2,h3,h4,rfl,rfl⟩
 refine en_ Tryz.func401 Tryz.ntmps401 Tryz.results401 ?_
 refine rr_ ?_
 refine s_ ?_
 refine aa_ ?_
 refine rr_ ?_
 iterate 2 refine s_ ?_
 refine x_ g_ va_ (key) ?_;rintro _ _ ⟨rfl,rfl⟩
 refine s_ ?_
 refine aa_ ?_
 refine aq_ ?_
 refine er_ σ ?_
 exact ⟨rfl,rfl⟩
end Go.Proofs.YtcdidkliidjoeaaGreatDoor.SpN
end

section
set_option linter.all false
set_option maxRecDepth 100000
namespace Go.Proofs.YtcdidkliidjoeaaGreatDoor
open Go.Ab
end Go.Proofs.YtcdidkliidjoeaaGreatDoor
end

section
set_option linter.all false
set_option maxRecDepth 100000
namespace Go.Proofs
open Go.Shelf
def fw_:Go.Shelf.Ren:=⟨(fun n=>match n with | 129=>143 | 171=>399 | 243=>523 | 246=>605 | 283=>647 | 284=>648 | 285=>649 | 286=>650 | 317=>683 | 318=>684 | 319=>685 | 320=>686 | 337=>702 | 338=>703 | _=>0),(fun n=>match n with | 0=>0 | 2=>2 | 3=>3 | 4=>4 | 5=>5 | 9=>9 | 20=>20 | 37=>247 | 46=>127 | 51=>224 | 53=>226 | 171=>652 | 173=>654 | 212=>686 | 213=>687 | 232=>714 | 233=>668 | _=>0),(fun n=>match n with | 17=>3 | 18=>6 | 19=>7 | _=>0)⟩
theorem pj_:Lays.n171 Tryz.prog fw_:={
 mixed:=Tryz.mixed
 f129:=by kernel_rfl
 f171:=by kernel_rfl
 f243:=by kernel_rfl
 f246:=by kernel_rfl
 f283:=by kernel_rfl
 f284:=by kernel_rfl
 f285:=by kernel_rfl
 f286:=by kernel_rfl
 f317:=by kernel_rfl
 f318:=by kernel_rfl
 f319:=by kernel_rfl
 f320:=by kernel_rfl
 f337:=by kernel_rfl
 f338:=by kernel_rfl
 t0:=Tryz.underlying0
 a0:=Tryz.isAgg0
 z0:=Tryz.sizeOf0
 v0:=Tryz.zeroValue0
 t2:=Tryz.underlying2
 a2:=Tryz.isAgg2
 z2:=Tryz.sizeOf2
 v2:=Tryz.zeroValue2
 t3:=Tryz.underlying3
 a3:=Tryz.isAgg3
 z3:=Tryz.sizeOf3
 v3:=Tryz.zeroValue3
 t4:=Tryz.underlying4
 a4:=Tryz.isAgg4
 z4:=Tryz.sizeOf4
 v4:=Tryz.zeroValue4
 t5:=Tryz.underlying5
 a5:=Tryz.isAgg5
 z5:=Tryz.sizeOf5
 v5:=Tryz.zeroValue5
 t9:=Tryz.underlying9
 a9:=Tryz.isAgg9
 z9:=Tryz.sizeOf9
 v9:=Tryz.zeroValue9
 t20:=Tryz.underlying20
 a20:=Tryz.isAgg20
 z20:=Tryz.sizeOf20
 v20:=Tryz.zeroValue20
 t37:=Tryz.underlying247
 a37:=Tryz.isAgg247
 z37:=Tryz.sizeOf247
 v37:=Tryz.zeroValue247
 t46:=Tryz.underlying127
 a46:=Tryz.isAgg127
 z46:=Tryz.sizeOf127
 v46:=Tryz.zeroValue127
 t51:=Tryz.underlying224
 a51:=Tryz.isAgg224
 z51:=Tryz.sizeOf224
 v51:=Tryz.zeroValue224
 t53:=Tryz.underlying226
 a53:=Tryz.isAgg226
 z53:=Tryz.sizeOf226
 v53:=Tryz.zeroValue226
 t171:=Tryz.underlying652
 a171:=Tryz.isAgg652
 z171:=Tryz.sizeOf652
 v171:=Tryz.zeroValue652
 t173:=Tryz.underlying654
 a173:=Tryz.isAgg654
 z173:=Tryz.sizeOf654
 v173:=Tryz.zeroValue654
 t212:=Tryz.underlying686
 a212:=Tryz.isAgg686
 z212:=Tryz.sizeOf686
 v212:=Tryz.zeroValue686
 t213:=Tryz.underlying687
 a213:=Tryz.isAgg687
 z213:=Tryz.sizeOf687
 t232:=Tryz.underlying714
 a232:=Tryz.isAgg714
 z232:=Tryz.sizeOf714
 v232:=Tryz.zeroValue714
 t233:=Tryz.underlying668
 a233:=Tryz.isAgg668
 z233:=Tryz.sizeOf668
 v233:=Tryz.zeroValue668
 g17:=by kernel_rfl
 g18:=by kernel_rfl
 g19:=by kernel_rfl }
theorem sq_:LaysM.n171 Tryz.prog fw_:={ pj_ with
 i0:=by kernel_rfl
 i2:=by kernel_rfl
 i3:=by kernel_rfl
 i4:=by kernel_rfl
 i5:=by kernel_rfl
 i9:=by kernel_rfl
 i20:=by kernel_rfl
 i37:=by kernel_rfl
 i46:=by kernel_rfl
 i51:=by kernel_rfl
 i53:=by kernel_rfl
 i171:=by kernel_rfl
 i173:=by kernel_rfl
 i212:=by kernel_rfl
 i232:=by kernel_rfl
 i233:=by kernel_rfl
 m17:=by kernel_rfl
 m18:=by kernel_rfl
 m19:=by kernel_rfl }
end Go.Proofs
namespace Go.Ab
open Go.RowKit (Below)
theorem Inv.grown {κ:K} {σ:Store} (h:Inv κ σ) (k:Nat) (os:Array Obj):κ.Le { κ with w:=Sort.grow (κ.w.drewN k) os }∧Inv { κ with w:=Sort.grow (κ.w.drewN k) os } σ:=by
 have hh:∀ b,b < κ.w.heap.size→(Sort.grow (κ.w.drewN k) os).heap[b]?=κ.w.heap[b]?:=fun b hb=>by
  unfold Sort.grow World.drewN
  exact Array.getElem?_append_left hb
 have hsz:κ.w.heap.size≤(Sort.grow (κ.w.drewN k) os).heap.size:=by
  unfold Sort.grow World.drewN
  simp
 have hle:κ.Le { κ with w:=Sort.grow (κ.w.drewN k) os }:=by
  refine ⟨rfl,⟨rfl,rfl,rfl,hsz,fun b hb=>hh b (by have:=h.base;omega)⟩,fun b s e=>?_,fun _ _ e=>e,fun _ _ e=>e,fun _=>Nat.le_refl _,fun b off v _ e=>?_,by unfold Sort.grow World.drewN;simp,fun _ _=>rfl⟩
  ·have hlt:b < κ.w.heap.size:=by
    unfold World.shape? at e
    cases hq:κ.w.heap[b]? with
    |none=>rw [hq] at e;cases e
    |some q=>exact (Array.getElem?_eq_some_iff.1 hq).1
   unfold World.shape? at e ⊢
   dsimp only
   rw [hh b hlt];exact e
  ·have hlt:b < κ.w.heap.size:=by
    unfold World.cell? at e
    cases hq:κ.w.heap[b]? with
    |none=>rw [hq] at e;cases e
    |some q=>exact (Array.getElem?_eq_some_iff.1 hq).1
   simp only [World.cell?] at e ⊢
   rw [hh b hlt];exact e
 exact ⟨hle,h.quiet hle rfl rfl (fun _ _=>rfl) (fun b hb=>h.frI b (Nat.le_trans hsz hb)) hh⟩
end Go.Ab
namespace Go.Proofs.YtcdidkliidjoeaaGreatDoor
open Go.Ab Go.Shelf
theorem htab {κ:K} {σ:Store} (h:Inv κ σ):Lib.TabIs Tryz.prog κ.w "internal/strconv.uint64pow10" .u64 Lib.pow10Tab:=by
 obtain ⟨_,_,e,fr,hh,rfl⟩:=h.glob (3,_) (by unfold pc_;first | exact .head _ | exact .tail _ (.tail _ (.head _)))
 have hg:Tryz.prog.globalNamed "internal/strconv.uint64pow10"=some 3:=by kernel_rfl
 unfold Lib.TabIs World.var?
 rw [hg]
 simp only [Option.bind_some,hh]
 rfl
theorem pk_ {n:Int} {σ:Store} (h0:-9223372036854775808≤n) (h1:n≤9223372036854775807):ACalls Tryz.prog 399 [vInt n] σ fun v σ'=>v=vStr (B (Lib.itoa n))∧σ=σ':=by
 intro κ vs hI hn hv
 have e0:=(hv 0 (by simp)).litInv
 have hvs:vs=#[.int .i64 n]:=by
  apply Array.ext (by simpa using hn)
  intro i i1 i2
  simp at i2
  subst i2
  have eg:vs.getD 0 undef=vs[0]:=by simp [i1]
  rw [← eg,e0];rfl
 rw [hvs]
 refine (Any.strconv_Itoa sq_ n h0 h1 κ.w (htab hI)).mono fun ex w' ⟨he,k,os,hw⟩=>⟨_,he,?_⟩
 obtain ⟨g1,g2⟩:=hI.grown k os
 rw [hw]
 exact ⟨{ κ with w:=Sort.grow (κ.w.drewN k) os },vStr (B (Lib.itoa n)),σ,rfl,g1,g2,.lit _,rfl,rfl⟩
end Go.Proofs.YtcdidkliidjoeaaGreatDoor
end

section
set_option linter.all false
set_option maxRecDepth 100000
namespace Go.Ab
end Go.Ab
namespace Go.Proofs.YtcdidkliidjoeaaGreatDoor
open Go.Ab
theorem ex_ {σ0 σ:Store} {sz:Nat} {l:List AVal} {a:AVal} {i:Nat} {x y:AObj} (h:CBp (σ0.set i x) σ sz l a):CBp (σ0.set i y) (σ.set i y) sz l a:=by
 rcases h with ⟨h1,h2,rfl⟩ | ⟨o,ho,h1,rfl⟩
 ·exact .inl ⟨h1,h2,Store.set_set ..⟩
 ·have hne:o≠i:=fun hh=>by rw [hh,Store.set_get] at ho;cases ho
  rw [Store.set_ne _ _ hne] at ho
  exact .inr ⟨o,by rw [Store.set_ne _ _ hne];exact ho,h1,by rw [cN_ hne,Store.set_set]⟩
theorem hr_ {P:Program} {f:FuncId} {args:List AVal} {σ:Store} {sz:Nat} {l:List AVal} (h:ACalls P f args σ fun v σ'=>∃ σ1,CBp σ1 σ' sz l v∧σ.Sub σ1) (hs:∀ x∈l,x.cells.length=sz):ACalls P f args σ fun v σ'=>v=.sl sz l false∧σ=σ':=by
 refine h.after ?_
 rintro κ a σ' cv hI hr ⟨σ1,hC,hsub⟩
 rcases hC with ⟨rfl,rfl,rfl⟩ | ⟨o,ho,rfl,rfl⟩
 ·exact ⟨κ,_,_,rfl,.refl κ,hI.sub hsub,hr.wk (.nil sz false),rfl,rfl⟩
 ·obtain ⟨κ',h1,h2,h3,h4⟩:=Ab.freeze hI hr (Store.set_get ..) (l:=l) (by rw [List.take_of_length_le (by rw [av_ hs];exact Nat.le_refl _)]) rfl hs
  rw [Store.set_del ho] at h3
  exact ⟨κ',_,_,h1,h2,h3.sub hsub,h4,rfl,rfl⟩
end Go.Proofs.YtcdidkliidjoeaaGreatDoor
end

section
set_option linter.all false
set_option maxRecDepth 100000
namespace Go.Proofs.YtcdidkliidjoeaaGreatDoor
open Go.Ab
theorem ry_ (l:List Ent):∀ y∈l.map sEnt,y.cells.length=4:=hx_ sEnt (fun x=>rfl) l
@[reducible] def slE (L:List Ent):AVal:=.sl 4 (L.map sEnt) false
theorem ob_ (l:List Ent):∀ y∈l.map sEnt,∀ c∈y.cells,c.one=true:=fun y hy c hc=>by
 obtain ⟨x,_,rfl⟩:=List.mem_map.1 hy
 simp [AVal.cells] at hc
 rcases hc with rfl | rfl | rfl | rfl <;> rfl
theorem jQ_ {n:Nat} {σ:Store} (hn:n≤1000000000):ACalls Tryz.prog 299 [vNil,vInt n] σ fun v σ'=>CBp σ σ' 4 [] v:=by
 refine en_ Tryz.func299 Tryz.ntmps299 Tryz.results299 ?_
 refine rr_ ?_
 refine s_ ?_
 refine aa_ ?_
 refine ac_ ?_
 refine rr_ ?_
 iterate 2 refine s_ ?_
 refine aa_ ?_
 refine cd_ (fun hc1=>?_) (fun hc1=>?_)
 ·omega
 ·refine ag_ ?_
  refine ac_ ?_
  refine rr_ ?_
  iterate 2 refine s_ ?_
  refine aL_X rfl rfl (bf_ rfl g_ va_ ?_)
  iterate 5 refine s_ ?_
  refine aa_ ?_
  refine rr_ ?_
  iterate 2 refine s_ ?_
  refine aa_ ?_
  refine cd_ (fun hc4=>?_) (fun hc4=>?_)
  ·refine r_ ?_
   iterate 2 refine s_ ?_
   refine aL_X rfl rfl (bf_ rfl g_ va_ ?_)
   iterate 2 refine s_ ?_
   refine aL_X rfl rfl (b4_ (n:=n) rfl g_ g_ g_ va_ va_ (by omega) (by omega) fun o22 ho22=>?_)
   iterate 4 refine s_ ?_
   refine aa_ ?_
   refine rr_ ?_
   iterate 2 refine s_ ?_
   refine aa_ ?_
   refine aq_ ?_
   refine aK_ v_ (Store.Wk.refl _) ?_
   exact .inr ⟨o22,ho22,rfl,rfl⟩
  ·refine ag_ ?_
   refine rr_ ?_
   iterate 2 refine s_ ?_
   refine aa_ ?_
   refine aq_ ?_
   refine aK_ v_ (Store.Wk.refl _) ?_
   exact .inl ⟨rfl,rfl,rfl⟩
theorem cE_ {α:Type} {Ls:List (List α)} {k:Nat} {x:List α} (h:Ls[k]?=some x):(Ls.take (k + 1)).flatten=(Ls.take k).flatten ++ x:=by rw [dC_ h,List.flatten_append];simp
theorem iS_ {α:Type} (Ls:List (List α)) (k:Nat):(Ls.take k).flatten.length≤Ls.flatten.length:=by
 conv=>rhs;rw [← List.take_append_drop k Ls,List.flatten_append,List.length_append]
 omega
theorem hi_ {Ls:List (List Ent)} {tt:Bool} {σ:Store} (hb:Ls.flatten.length≤10000000) (hn:Ls.length≤10) :
  ACalls Tryz.prog 174 [.sl 1 (Ls.map slE) tt] σ fun v σ'=>CBp σ σ' 4 (Ls.flatten.map sEnt) v:=by
 have hle:=fun k=>iS_ Ls k
 refine en_ Tryz.func174 Tryz.ntmps174 Tryz.results174 ?_
 refine rr_ ?_
 refine s_ ?_
 refine aa_ ?_
 refine rr_ ?_
 refine s_ ?_
 refine aa_ ?_
 refine ac_ ?_
 refine rr_ ?_
 iterate 3 refine s_ ?_
 refine aa_ ?_
 refine ah_ ?_
 refine au_ (ι:=Nat) (fun k=>Ls.length - k) (fun k=>k≤Ls.length) (fun k=>[(0,.sl 1 (Ls.map slE) tt),(3,vInt ((Ls.take k).flatten.length:Int)),(9,.sl 1 (Ls.map slE) tt),(10,vInt Ls.length),(11,vInt k)]) (fun k=>σ) 0 ?_ ?_ ?_ ?_
 ·exact Nat.zero_le _
 ·exact cv_
 ·exact sub_
 rintro k hk
 simp only [aJ_,aX_]
 refine rr_ ?_
 refine s_ ?_
 refine aa_ ?_
 refine ac_ ?_
 refine cd_ (fun hc3=>?_) (fun hc3=>?_)
 ·refine ag_ ?_
  refine ac_ ?_
  refine ah_ ?_
  refine ac_ ?_
  obtain ⟨x,hx⟩:=cm_ (l:=Ls) (k:=k) (by omega)
  have hcov:(((Ls.take (k + 1)).flatten.length:Nat):Int)=((Ls.take k).flatten.length:Int) + (x.length:Int):=by rw [cE_ hx,List.length_append];omega
  have hk1:=hle k;have hk2:=hle (k + 1)
  have R:=hx
  refine r_ ?_
  iterate 3 refine s_ ?_
  refine aa_ ?_
  refine rr_ ?_
  iterate 5 refine s_ ?_
  refine aa_ ?_
  refine rr_ ?_
  iterate 2 refine s_ ?_
  refine aa_ ?_
  refine cd_ (fun hc6=>?_) (fun hc6=>?_)
  ·omega
  ·refine ag_ ?_
   refine r_ ?_
   iterate 2 refine s_ ?_
   refine aa_ ?_
   refine ca_ (ι:=Nat) (i:=k) (k + 1) ?_ ?_ ?_ ?_
   ·omega
   ·exact (by omega)
   ·have R:=hcov;exact cv_
   ·exact sub_
 ·refine aM_ ?_
  refine ai_ ?_
  refine ai_ ?_
  refine aA_ ?_
  refine ac_ ?_
  obtain rfl:k=Ls.length:=by omega
  rw [List.take_length]
  refine r_ ?_
  refine s_ ?_
  refine x_ g_ va_ (jQ_ (n:=Ls.flatten.length) (by omega)) ?_;rintro _ τ0 hC0
  rename_i b0
  refine s_ ?_
  refine aa_ ?_
  refine ac_ ?_
  refine rr_ ?_
  iterate 3 refine s_ ?_
  refine aa_ ?_
  refine ah_ ?_
  refine au_ (ι:=Store × AVal × Nat) (fun ⟨τ,b,k⟩=>Ls.length - k) (fun ⟨τ,b,k⟩=>k≤Ls.length∧CBp σ τ 4 ((Ls.take k).flatten.map sEnt) b) (fun ⟨τ,b,k⟩=>[(6,b),(25,.sl 1 (Ls.map slE) tt),(26,vInt Ls.length),(27,vInt k)]) (fun ⟨τ,b,k⟩=>τ) (τ0,b0,0) ?_ ?_ ?_ ?_
  ·exact ⟨Nat.zero_le _,hC0⟩
  ·exact cv_
  ·exact Store.Wk.refl _
  rintro ⟨τ,b,k⟩ ⟨hk,hC⟩
  simp only [aJ_,aX_]
  refine rr_ ?_
  refine s_ ?_
  refine aa_ ?_
  refine ac_ ?_
  refine cd_ (fun hc11=>?_) (fun hc11=>?_)
  ·refine ag_ ?_
   refine ac_ ?_
   refine ah_ ?_
   refine ac_ ?_
   obtain ⟨x,hx⟩:=cm_ (l:=Ls) (k:=k) (by omega)
   have hk1:=hle k;have hk2:=hle (k + 1)
   rw [cE_ hx,List.length_append] at hk2
   have R:=hx
   refine r_ ?_
   iterate 3 refine s_ ?_
   refine aa_ ?_
   refine r_ ?_
   iterate 2 refine s_ ?_
   refine aL_X rfl rfl (bb_ rfl g_ g_ hC va_ (ry_ _) va_ (ob_ _) (by simp only [List.length_append,List.length_map];omega) fun a' σ' hC'=>?_)
   refine s_ ?_
   refine aa_ ?_
   refine r_ ?_
   iterate 2 refine s_ ?_
   refine aa_ ?_
   refine ca_ (ι:=Store × AVal × Nat) (i:=⟨τ,b,k⟩) (σ',a',k + 1) ?_ ?_ ?_ ?_
   ·show Ls.length - (k + 1) < Ls.length - k;omega
   ·exact ⟨by show k + 1≤Ls.length;omega,by rw [cE_ hx,List.map_append];exact hC'⟩
   ·exact cv_
   ·exact Store.Wk.refl _
  ·refine aM_ ?_
   refine ai_ ?_
   refine ai_ ?_
   refine aA_ ?_
   refine ac_ ?_
   obtain rfl:k=Ls.length:=by omega
   rw [List.take_length] at hC
   refine r_ ?_
   iterate 2 refine s_ ?_
   refine aa_ ?_
   refine aq_ ?_
   refine aK_ v_ (Store.Wk.refl _) ?_
   exact hC
theorem jE_ {Ls:List (List Ent)} {tt:Bool} {σ:Store} (hb:Ls.flatten.length≤10000000) (hn:Ls.length≤10) :
  ACalls Tryz.prog 174 [.sl 1 (Ls.map slE) tt] σ fun v σ'=>v=.sl 4 (Ls.flatten.map sEnt) false∧σ=σ' :=
 (hi_ hb hn).frozen (ry_ _)
end Go.Proofs.YtcdidkliidjoeaaGreatDoor
end
