/-
  WALKING RULES: guarded steps of which it is not said whether they run;joins and loops by lists of what lives;values of structs compared; WHAT CHANGES NOTHING THAT WAS THERE;a slice made and not written; BYTES AS LISTS;NUMBERS AS BYTES; A RANGE OVER A STRING: the iterator is an object of its own; WHAT A WRITER OF TEXT IS MADE OF: a string appended to a slice of one's own,an object whose shape is told,the bytes behind a string; SHORT WORDS: closers of the side goals that every step leaves; A ROW MADE FOR WHAT WILL COME: append of a make,of nothing;cap of nil; A ROW CLEARED: the builtin 'clear' of a slice that is written; SLICES WHOSE ROOM IS KNOWN: cut out beyond their length,copied into,grown;a row of bytes made without zeros; GUARDED OPERATIONS BEHIND ONE THAT WRITES,in a drawn region; A STORE BY ITS FACTS: what was built is let go,what is known of it stays; WHAT COMES IN,READ: a value of data (numbers,bools,strings,structs,arrays,slices of these,to any depth) that the row's reading met is described by an abstract value;a call's contract gives the row's. Own work (an AI agent).
-/
import Derived.Test.YtcdidkliidjoeaaGreatDoorGC
import Derived.Lib.Builder
import Derived.Lib.UnsafeStr
import Derived.Laws.Externs
import Derived.Lib.AppendZerosOnto
import Derived.Lib.Overlaps
import Derived.Lib.MakeNoZero
import Derived.ProofKit
import Derived.OpenShut
import Derived.ShutString
import Derived.ChangeOld
import Derived.Below

section
set_option linter.all false
namespace Go.Ab
def gval (b:Bool) (a:AVal):AVal:=bif b then a else .lit undef
@[go_sem] theorem pf_ (a:AVal):gval true a=a:=rfl
@[go_sem] theorem oK_ (a:AVal):gval false a=.lit undef:=rfl
@[go_sem] theorem oU_ (b x y:Bool):dZ_ b (gval b (.lit (.bool x))) (.lit (.bool y))=.lit (.bool (bif b then x else y)):=by cases b <;> rfl
@[go_sem] theorem rR_ (b x y:Bool):dZ_ b (.lit (.bool x)) (gval (!b) (.lit (.bool y)))=.lit (.bool (bif b then x else y)):=by cases b <;> rfl
@[go_sem] theorem r1_ (b x:Bool):(bif b then x else false)=(b && x):=by cases b <;> rfl
@[go_sem] theorem sg_ (b x:Bool):(bif b then true else x)=(b || x):=by cases b <;> rfl
theorem dP_ {ops:Array Oper} {o:Oper} {e:Env} {j d:Nat} {w b:Bool} (hg:o.guard=some (j,w)) (hd:(ops[j]?).bind (·.dst)=some d) (he:e d=.lit (.bool b)):aC_ ops o e=some (b == w):=by
 unfold aC_
 simp only [hg,hd,he]
@[go_sem] theorem pe_ (b c:Bool) (a:AVal):gval b (gval c a)=gval (b && c) a:=by cases b <;> rfl
section
variable {P:Program} {ops:Array Oper} {Kk:Env→Store→Prop} {o:Oper} {rest:List Oper} {e:Env} {σ:Store}
theorem r5_ {d j dj:Nat} {a:AVal} {b:Bool} (hg:o.guard=some (j,true)) (hj:(ops[j]?).bind (·.dst)=some dj) (he:e dj=.lit (.bool b)) (hd:o.dst=some d) (ha:b=true→aval P o.op (aev e) σ=some a)
  (h:aL_ P ops Kk rest (upd e d (gval b a)) σ):aL_ P ops Kk (o :: rest) e σ:=by
 unfold aL_ aT_
 rw [dP_ hg hj he,hd]
 cases b with
 |true=>exact b5_ (ha rfl) h
 |false=>exact h
theorem r4_ {d j dj:Nat} {a:AVal} {b:Bool} (hg:o.guard=some (j,false)) (hj:(ops[j]?).bind (·.dst)=some dj) (he:e dj=.lit (.bool b)) (hd:o.dst=some d) (ha:(!b)=true→aval P o.op (aev e) σ=some a)
  (h:aL_ P ops Kk rest (upd e d (gval (!b) a)) σ):aL_ P ops Kk (o :: rest) e σ:=by
 unfold aL_ aT_
 rw [dP_ hg hj he,hd]
 cases b with
 |true=>exact h
 |false=>exact b5_ (ha rfl) h
theorem dS_ {d j dj:Nat} {a:AVal} {b:Bool} (hg:o.guard=some (j,true)) (hj:(ops[j]?).bind (·.dst)=some dj) (he:e dj=.lit (.bool b)) (hd:o.dst=some d) (hx:b=true→AOp P o (aev e) σ fun v σ'=>v=a∧σ=σ')
  (h:aL_ P ops Kk rest (upd e d (gval b a)) σ):aL_ P ops Kk (o :: rest) e σ:=by
 unfold aL_ aT_
 rw [dP_ hg hj he,hd]
 cases b with
 |true=>exact (hx rfl).mono fun v σ' ⟨h1,h2⟩=>by subst h1;subst h2;exact h
 |false=>exact h
end
section
variable {P:Program} {ops:Array Oper} {s0:Store} {Kk:Env→Store→Prop} {o:Oper} {i:Nat} {r:DT} {e:Env} {σ:Store}
end
section
variable {P:Program} {ops:Array Oper} {s0:Store} {Kk:Env→Store→Prop} {o:Oper} {i:Nat} {r:DT} {e:Env} {σ:Store}
end
theorem bZ_ {P:Program} {o:Oper} {α:Operand→AVal} {σ:Store} {a:AVal} {c:Call} {f:Operand} {g:FuncId} {first captured args:List AVal} (ho:o.op=.call c) (hc:c.callee=.value f)
  (hf:α f=.fn (.func g) first captured∨(α f=.lit (.func (.func g) #[] #[])∧first=[]∧captured=[])) (hg:isGo P g=true)
  (hargs:first ++ c.args.toList.map α ++ captured=args) (hcon:ACalls P g args σ (fun v σ'=>v=a∧σ=σ')):AOp P o α σ fun v σ'=>v=a∧σ=σ' :=
 jc_ ho hc hf hg hargs hcon fun _ _ h=>h
def envL:List (Nat × AVal)→Env
 |[]=>emp
 |(k,a) :: l=>upd (envL l) k a
@[go_sem] theorem aX_:envL []=emp:=rfl
@[go_sem] theorem aJ_ (k:Nat) (a:AVal) (l:List (Nat × AVal)):envL ((k,a) :: l)=upd (envL l) k a:=rfl
def bs_ (e:Env):List (Nat × AVal)→Prop
 |[]=>True
 |(k,a) :: l=>Wk (e k) a∧bs_ e l
theorem bs_.nil {e:Env}:bs_ e []:=trivial
theorem bs_.eq {e:Env} {k:Nat} {a:AVal} {l:List (Nat × AVal)} (h:e k=a) (hl:bs_ e l):bs_ e ((k,a) :: l):=⟨by rw [h];exact .refl _,hl⟩
theorem bs_.wk {e:Env} {k:Nat} {a b:AVal} {l:List (Nat × AVal)} (h:e k=b) (hw:Wk b a) (hl:bs_ e l):bs_ e ((k,a) :: l):=⟨by rw [h];exact hw,hl⟩
theorem bs_.all {e:Env}:∀ {l:List (Nat × AVal)},bs_ e l→∀ k,Wk (e k) (envL l k)
 |[],_,k=>.any _
 |(j,a) :: l,h,k=>by
  simp only [envL,upd]
  by_cases hk:k=j
  ·subst hk;rw [if_pos rfl];exact h.1
  ·rw [if_neg hk];exact h.2.all k
theorem au_ {P:Program} {n:Nat} {c:Code} {Q:Exit→Env→Store→Prop} {e:Env} {σ:Store} {ι:Type} (μ:ι→Nat) (I:ι→Prop) (E:ι→List (Nat × AVal)) (S:ι→Store) (i0:ι)
  (hI:I i0) (hc:bs_ e (E i0)) (hs:(S i0).Wk σ)
  (round:∀ i,I i→awp P n c (gp_ (fun e' σ'=>∃ i',μ i' < μ i∧I i'∧bs_ e' (E i')∧(S i').Wk σ') Q) (envL (E i)) (S i)):awp P n (.loop c) Q e σ :=
 d6_ (fun m e σ=>∃ i,μ i=m∧I i∧bs_ e (E i)∧(S i).Wk σ) (m:=μ i0) ⟨i0,rfl,hI,hc,hs⟩ fun m e σ ⟨i,hm,hi,hc,hs⟩ =>
  ((round i hi).wk hc.all hs).mono fun ex e' σ' hq=>by
   cases ex with
   |normal=>obtain ⟨i',hlt,h1,h2,h3⟩:=hq;exact ⟨μ i',by omega,i',rfl,h1,h2,h3⟩
   |_=>exact hq
theorem ca_ {ι:Type} {μ:ι→Nat} {I:ι→Prop} {E:ι→List (Nat × AVal)} {S:ι→Store} {i:ι} {e:Env} {σ:Store} (i':ι) (h1:μ i' < μ i) (h2:I i') (h3:bs_ e (E i')) (h4:(S i').Wk σ) :
  ∃ i',μ i' < μ i∧I i'∧bs_ e (E i')∧(S i').Wk σ:=⟨i',h1,h2,h3,h4⟩
theorem ai_ {K:Env→Store→Prop} {Q:Exit→Env→Store→Prop} {i:Nat} {e:Env} {σ:Store} (h:Q (.exit i) e σ):gp_ K Q (.exit i) e σ:=h
theorem aA_ {Q:Exit→Env→Store→Prop} {i:Nat} {e:Env} {σ:Store} (h:Q .normal e σ):es_ i Q (.exit i) e σ:=by simpa [es_] using h
def SubX (l:List Nat) (σ τ:Store):Prop:=(∀ i x,i ∉ l→σ.heap i=some x→τ.heap i=some x)∧∀ t n,σ.tok t=some n→τ.tok t=some n
theorem i9_ {σ τ:Store} (h:SubX [] σ τ):σ.Wk τ:=Store.Sub.wk ⟨fun i x hx=>h.1 i x (by simp) hx,h.2⟩
theorem hS_ {σ τ:Store} (h:SubX [] σ τ):σ.Sub τ:=⟨fun i x hx=>h.1 i x (by simp) hx,h.2⟩
def WkL:List AVal→List AVal→Prop
 |[],[]=>True
 |a :: l,b :: l'=>Wk a b∧WkL l l'
 |_,_=>False
theorem WkL.at_:∀ {l l':List AVal},WkL l l'→l.length=l'.length∧∀ i (hi:i < l.length) (hj:i < l'.length),Wk l[i] l'[i]
 |[],[],_=>⟨rfl,fun i hi=>by simp at hi⟩
 |a :: l,b :: l',h=>by
  obtain ⟨h1,h2⟩:=WkL.at_ h.2
  refine ⟨by simp [h1],fun i hi hj=>?_⟩
  cases i with
  |zero=>exact h.1
  |succ i=>exact h2 i (by simpa using hi) (by simpa using hj)
 |[],_ :: _,h=>h.elim
 |_ :: _,[],h=>h.elim
theorem Store.wkTake {τ:Store} {o n:Nat} {cs:List AVal} (ho:τ.heap o=some (.cells cs)):(τ.set o (.cells (cs.take n))).Wk τ:=by
 intro κ hI
 obtain ⟨b,hb,hbase,hIb,c,el,hh,hn,hv⟩:=hI.heap o _ ho
 exact hI.step (κ':=κ) (.refl κ) rfl rfl hI.frO b hbase hIb (fun _ _ _=>rfl) o (.cells (cs.take n)) (fun _ _=>rfl) hb ⟨c,el,hh,by simp;omega,fun i hi=>by
   rw [List.length_take] at hi
   rw [List.getElem_take]
   exact hv i (by omega)⟩
  (fun o' x hx hne hh=>hne (hI.inj o' o x _ b hx ho hh hb))
  (fun t sz v ht hv hh=>hI.tokobj t sz v b o _ ht hv hh ho hb)
theorem dA_ {l:List Nat} {σ:Store}:SubX l σ σ:=⟨fun _ _ _ h=>h,fun _ _ h=>h⟩
theorem lb_ {l:List Nat} {σ τ:Store} {o:Nat} {x:AObj} (hx:τ.heap o=some x) (h:SubX (o :: l) σ τ):SubX l (σ.set o x) τ:=⟨fun i y hi hy=>by
 by_cases ho:i=o
 ·subst ho;rw [Store.set_get] at hy;rw [hx];exact hy
 ·rw [Store.set_ne _ _ ho] at hy;exact h.1 i y (by simp [ho,hi]) hy,h.2⟩
theorem dB_ {l:List Nat} {σ τ:Store} {o:Nat} {x:AObj} (ho:o∈l) (h:SubX l σ τ):SubX l (σ.set o x) τ:=⟨fun i y hi hy=>by
 by_cases hio:i=o
 ·subst hio;exact absurd ho hi
 ·rw [Store.set_ne _ _ hio] at hy;exact h.1 i y hi hy,h.2⟩
theorem e9_ {l:List Nat} {σ τ:Store} {o:Nat} {x:AObj} (ho:o∈l) (h:SubX l σ τ):SubX l σ (τ.set o x):=⟨fun i y hi hy=>by
 by_cases hio:i=o
 ·subst hio;exact absurd ho hi
 ·rw [Store.set_ne _ _ hio];exact h.1 i y hi hy,h.2⟩
theorem iA_ {l:List Nat} {σ τ:Store} {o:Nat} {x:AObj} (ho:σ.heap o=none) (h:SubX l σ τ):SubX l σ (τ.set o x):=⟨fun i y hi hy=>by
 by_cases hio:i=o
 ·subst hio;rw [ho] at hy;cases hy
 ·rw [Store.set_ne _ _ hio];exact h.1 i y hi hy,h.2⟩
theorem my_ {l:List Nat} {σ τ:Store} {k:Nat} {p:TypeId × Nat} (h:SubX l σ τ):SubX l (σ.newTok none k p) (τ.newTok none k p):=⟨h.1,fun t n ht=>by
 simp only [Store.newTok] at ht ⊢
 split
 ·rename_i hh;rw [if_pos hh] at ht;exact ht
 ·rename_i hh;rw [if_neg hh] at ht;simp at ht ⊢;exact h.2 t n ht⟩
theorem hR_ {l:List Nat} {σ τ:Store} {k:Nat} {p:TypeId × Nat} (hk:σ.tok k=none) (h:SubX l σ τ):SubX l σ (τ.newTok none k p):=⟨h.1,fun t n ht=>by
 simp only [Store.newTok]
 split
 ·rename_i hh;rw [hh,hk] at ht;cases ht
 ·simp;exact h.2 t n ht⟩
structure Fr (σ:Store) (S:List Nat) (σ':Store) (S':List Nat):Prop where
 sub:SubX S σ σ'
 new:∀ o∈S',o∈S∨σ.heap o=none
theorem Fr.refl (σ:Store) (S:List Nat):Fr σ S σ S:=⟨dA_,fun o h=>.inl h⟩
theorem Fr.trans {σ τ υ:Store} {S T U:List Nat} (h:Fr σ S τ T) (k:Fr τ T υ U):Fr σ S υ U where
 sub:=by
  refine ⟨fun i x hi hx=>k.sub.1 i x (fun hT=>?_) (h.sub.1 i x hi hx),fun t n ht=>k.sub.2 t n (h.sub.2 t n ht)⟩
  rcases h.new i hT with h1 | h1
  ·exact hi h1
  ·rw [h1] at hx;cases hx
 new:=fun o ho=>by
  rcases k.new o ho with h1 | h1
  ·exact h.new o h1
  ·by_cases hS:o∈S
   ·exact .inl hS
   ·right
    cases hx:σ.heap o with
    |none=>rfl
    |some x=>rw [h.sub.1 o x hS hx] at h1;cases h1
theorem Fr.apart {σ σ':Store} {S S':List Nat} (h:Fr σ S σ' S') {o:Nat} {x:AObj} (ho:σ.heap o=some x) (hS:o ∉ S):o ∉ S'∧σ'.heap o=some x :=
 ⟨fun hh=>(h.new o hh).elim hS (fun h1=>absurd (h1.symm.trans ho) (fun h2=>nomatch h2)),h.sub.1 o x hS ho⟩
theorem Fr.set {σ τ:Store} {S T:List Nat} (h:Fr σ S τ T) {o:Nat} {x:AObj} (ho:o∈T):Fr σ S (τ.set o x) T :=
 h.trans ⟨e9_ ho dA_,fun o h=>.inl h⟩
theorem Fr.del {σ τ:Store} {S T:List Nat} (h:Fr σ S τ T) {o:Nat} (ho:o∈T):Fr σ S (τ.del o) T :=
 h.trans ⟨⟨fun i x hi hx=>by rw [Store.del_ne _ (fun hh=>hi (by rw [hh];exact ho))];exact hx,fun _ _ h=>h⟩,fun o h=>.inl h⟩
theorem Fr.less {σ τ:Store} {S T U:List Nat} (h:Fr σ S τ T) (hU:∀ o∈U,o∈T):Fr σ S τ U:=⟨h.sub,fun o ho=>h.new o (hU o ho)⟩
theorem Fr.newTok {σ τ:Store} {S T:List Nat} (h:Fr σ S τ T) {old:Option Nat} {k:Nat} {p:TypeId × Nat} (ho:∀ j,old=some j→σ.tok j=none) (hk:τ.tok k=none):Fr σ S (τ.newTok old k p) T :=
 ⟨⟨h.sub.1,fun t n ht=>by
  have h1:=h.sub.2 t n ht
  simp only [Store.newTok]
  rw [if_neg (fun hh=>by rw [hh,hk] at h1;cases h1),if_neg (fun hh=>by rw [ho t hh.symm] at ht;cases ht)]
  exact h1⟩,h.new⟩
theorem Fr.alloc {σ τ:Store} {S T:List Nat} (h:Fr σ S τ T) {o:Nat} {x:AObj} (ho:τ.heap o=none):Fr σ S (τ.set o x) T :=
 h.trans ⟨iA_ ho dA_,fun o h=>.inl h⟩
theorem Fr.more {σ τ:Store} {S T:List Nat} (h:Fr σ S τ T) (U:List Nat):Fr σ (U ++ S) τ (U ++ T) :=
 ⟨⟨fun i x hi hx=>h.sub.1 i x (fun hh=>hi (List.mem_append_right _ hh)) hx,h.sub.2⟩,fun o ho=>by
  rcases List.mem_append.1 ho with h1 | h1
  ·exact .inl (List.mem_append_left _ h1)
  ·rcases h.new o h1 with h2 | h2
   ·exact .inl (List.mem_append_right _ h2)
   ·exact .inr h2⟩
theorem i1_ {σ:Store} {o i:Nat} {x:AObj} (h:σ.heap o=some x) (h':σ.heap i=none):o≠i:=fun hh=>by rw [hh,h'] at h;cases h
theorem Store.set_self {σ:Store} {o:Nat} {x:AObj} (h:σ.heap o=some x):σ.set o x=σ:=by
 unfold Store.set
 have:(fun i=>if i=o then some x else σ.heap i)=σ.heap:=by
  funext i
  split
  ·rename_i hh;rw [hh,h]
  ·rfl
 rw [this]
theorem ACalls.wkS {P:Program} {f:FuncId} {args:List AVal} {σ:Store} {Q Q':AVal→Store→Prop} (h:ACalls P f args σ Q) (hq:∀ a σ',Q a σ'→∃ a' σ'',Wk a a'∧σ''.Wk σ'∧Q' a' σ''):ACalls P f args σ Q' :=
 fun κ vs hI hn hv=>(h κ vs hI hn hv).mono fun _ _ ⟨cv,he,κ',a,σ',h1,h2,h3,h4,h5⟩=>by
  obtain ⟨a',σ'',hwk,hsub,hQ⟩:=hq a σ' h5
  exact ⟨cv,he,κ',a',σ'',h1,h2,hsub κ' h3,h4.wk hwk,hQ⟩
end Go.Ab
end

section
set_option linter.all false
namespace Go.Ab
theorem AOp.after {P:Program} {o:Oper} {α:Operand→AVal} {σ:Store} {K1 K2:AVal→Store→Prop} (h:AOp P o α σ K1)
  (hk:∀ (κ:K) a σ' cv,Inv κ σ'→Rv κ a cv→K1 a σ'→∃ κ' a' σ'',κ'.w=κ.w∧κ.Le κ'∧Inv κ' σ''∧Rv κ' a' cv∧K2 a' σ''):AOp P o α σ K2 :=
 fun κ ev hI hx=>(h κ ev hI hx).mono fun cv w ⟨κ1,a,σ',h1,h2,h3,h4,h5⟩=>by
  obtain ⟨κ2,a',σ'',g1,g2,g3,g4,g5⟩:=hk κ1 a σ' cv h3 h4 h5
  exact ⟨κ2,a',σ'',g1.trans h1,h2.trans g2,g3,g4,g5⟩
theorem Store.set_del {σ:Store} {i:Nat} {x:AObj} (h:σ.heap i=none):(σ.set i x).del i=σ:=by
 unfold Store.set Store.del
 cases σ with
 |mk hp tk =>
  congr 1
  funext j
  by_cases hj:j=i
  ·subst hj;simp;exact h.symm
  ·simp [hj]
theorem fZ_ {l:List AVal} (h:∀ x∈l,x.cells=[x]):flat l=l:=by
 induction l with
 |nil=>rfl
 |cons x l ih=>rw [bC_,h x (List.mem_cons_self ..),ih fun y hy=>h y (List.mem_cons_of_mem _ hy)];rfl
def B (l:List UInt8):ByteArray:=⟨l.toArray⟩
def Lb (s:ByteArray):List UInt8:=s.data.toList
theorem B_Lb (s:ByteArray):B (Lb s)=s:=by cases s;simp [B,Lb]
theorem Lb_B (l:List UInt8):Lb (B l)=l:=by simp [B,Lb]
theorem fN_ (a b:List UInt8):B a ++ B b=B (a ++ b):=by
 apply ByteArray.ext;simp [B,ByteArray.data_append]
theorem c9_ (l:List UInt8):(B l).size=l.length:=by show l.toArray.size=_;simp
theorem aD_ (s:ByteArray):(Lb s).length=s.size:=by show s.data.toList.length=s.data.size;simp
theorem ep_ {a b:ByteArray} (h:Lb a=Lb b):a=b:=by rw [← B_Lb a,h,B_Lb]
theorem gC_ (s:ByteArray) (i j:Nat):s.extract i j=B (((Lb s).take j).drop i):=by
 apply ByteArray.ext
 rw [ByteArray.data_extract]
 apply Array.ext'
 simp only [B,Lb,Array.toList_extract,List.extract_eq_drop_take]
 rw [List.drop_take]
theorem lC_ (l:List UInt8):aj_ (B l)=l.map fun b=>.lit (.int .u8 b.toNat):=by simp [aj_,B]
def se_ (n:Int):UInt8:=UInt8.ofNat (n % 256).toNat
def beI:Nat→Int→List UInt8
 |0,_=>[]
 |k + 1,n=>se_ (n / 256 ^ k) :: beI k n
def natB (l:List UInt8):Nat:=l.foldl (fun n c=>n * 256 + c.toNat) 0
def rdI (l:List UInt8):Int:=IntKind.i64.wrap (natB l)
theorem dr_ (w n:Nat):BitVec.ofInt w (n:Int)=BitVec.ofNat w n:=by
 apply BitVec.eq_of_toNat_eq
 rw [BitVec.toNat_ofInt,BitVec.toNat_ofNat]
 omega
theorem ly_ (k:IntKind) (p q:Nat) (hp:p < 2 ^ k.bits) (hq:q < 2 ^ k.bits) (hw:k.wrap ((p &&& q:Nat):Int)=((p &&& q:Nat):Int)):bAnd k p q=((p &&& q:Nat):Int):=by
 unfold bAnd
 rw [dr_,dr_,BitVec.toNat_and,BitVec.toNat_ofNat,BitVec.toNat_ofNat,Nat.mod_eq_of_lt hp,Nat.mod_eq_of_lt hq,hw]
theorem lA_ (k:IntKind) (p q:Nat) (hp:p < 2 ^ k.bits) (hq:q < 2 ^ k.bits) (hw:k.wrap ((p ^^^ q:Nat):Int)=((p ^^^ q:Nat):Int)):bXor k p q=((p ^^^ q:Nat):Int):=by
 unfold bXor
 rw [dr_,dr_,BitVec.toNat_xor,BitVec.toNat_ofNat,BitVec.toNat_ofNat,Nat.mod_eq_of_lt hp,Nat.mod_eq_of_lt hq,hw]
theorem cP_ (n:Int):IntKind.u32.wrap n=n % 4294967296:=by
 unfold IntKind.wrap
 simp only [show IntKind.u32.bits=32 from rfl,show IntKind.u32.signed=false from rfl]
 simp
theorem cJ_ (n:Nat) (h:n < 4294967296):IntKind.u32.wrap (n:Int)=(n:Int):=by rw [cP_];omega
theorem oT_ {p q:Nat} (hp:p < 4294967296) (hq:q < 4294967296):bAnd .u32 p q=((p &&& q:Nat):Int)∧p &&& q < 4294967296:=by
 have h:p &&& q < 4294967296:=Nat.lt_of_le_of_lt Nat.and_le_left hp
 exact ⟨ly_ .u32 p q hp hq (cJ_ _ h),h⟩
theorem ll_ {p q:Nat} (hp:p < 4294967296) (hq:q < 4294967296):bXor .u32 p q=((p ^^^ q:Nat):Int)∧p ^^^ q < 4294967296:=by
 have h:p ^^^ q < 2 ^ 32:=Nat.xor_lt_two_pow hp hq
 exact ⟨lA_ .u32 p q hp hq (cJ_ _ h),h⟩
theorem fq_ (k k':IntKind) (a b:Int) (h0:0≤b) (h1:b≤k.bits):aint .shl k a k' b=some (.int k (k.wrap (a * 2 ^ b.toNat))):=by
 simp only [aint]
 rw [if_neg (by omega),Nat.min_eq_left (by omega)]
theorem dJ_ (k k':IntKind) (a b:Int) (h0:0≤b) (h1:b≤k.bits):aint .shr k a k' b=some (.int k (a / 2 ^ b.toNat)):=by
 simp only [aint]
 rw [if_neg (by omega),Nat.min_eq_left (by omega),Int.fdiv_eq_ediv_of_nonneg _ (Int.le_of_lt (Int.pow_pos (by decide)))]
@[go_sem] theorem mF_ (k':IntKind) (a b:Int) (h0:0≤b) (h1:b≤64):aint .shl .i64 a k' b=some (.int .i64 (IntKind.i64.wrap (a * 2 ^ b.toNat))):=fq_ .i64 k' a b h0 h1
@[go_sem] theorem mH_ (k':IntKind) (a b:Int) (h0:0≤b) (h1:b≤64):aint .shr .i64 a k' b=some (.int .i64 (a / 2 ^ b.toNat)):=dJ_ .i64 k' a b h0 h1
@[go_sem] theorem mG_ (k':IntKind) (a b:Int) (h0:0≤b) (h1:b≤32):aint .shl .u32 a k' b=some (.int .u32 (IntKind.u32.wrap (a * 2 ^ b.toNat))):=fq_ .u32 k' a b h0 h1
@[go_sem] theorem mI_ (k':IntKind) (a b:Int) (h0:0≤b) (h1:b≤32):aint .shr .u32 a k' b=some (.int .u32 (a / 2 ^ b.toNat)):=dJ_ .u32 k' a b h0 h1
@[go_sem] theorem oW_ (a b:List UInt8) (h:a.length + b.length≤9223372036854775807):astr .add (B a) (B b)=some (.string (B (a ++ b))):=by
 rw [lu_ _ _ (by rw [c9_,c9_];exact h),fN_]
theorem lD_ {l:List UInt8} {k:Nat} {c:UInt8} (h:l[k]?=some c):(aj_ (B l))[k]?=some (.lit (.int .u8 (c.toNat:Int))):=by rw [lC_,List.getElem?_map,h];rfl
theorem dC_ {α:Type} {l:List α} {k:Nat} {c:α} (h:l[k]?=some c):l.take (k + 1)=l.take k ++ [c]:=by rw [List.take_succ,h];rfl
end Go.Ab
end

section
set_option linter.all false
namespace Go.Ab
open Go.RowKit (Below)
section
variable {P:Program} {o:Oper} {α:Operand→AVal} {σ:Store} {Kk:AVal→Store→Prop}
theorem Inv.setRaw {κ:K} {σ:Store} (h:Inv κ σ) {i:Nat} {x y:Obj} (hi:σ.heap i=some (.raw x)) (hy:∀ c e f,y≠.cells c e f) (hx0:unr κ.X x=x) (hy0:unr κ.X y=y) :
  ∃ b,κ.ρ i=some b∧κ.w.heap[b]?=some x∧κ.Le { κ with w:={ κ.w with heap:=κ.w.heap.setIfInBounds b y } }∧Inv { κ with w:={ κ.w with heap:=κ.w.heap.setIfInBounds b y } } (σ.set i (.raw y)):=by
 obtain ⟨b,hb,hbase,hIb,hh,hx⟩:=h.heap i _ hi
 rw [hx0] at hh
 have hle:κ.Le { κ with w:={ κ.w with heap:=κ.w.heap.setIfInBounds b y } }:=by
  refine ⟨rfl,⟨rfl,rfl,rfl,by simp,fun k hk=>am_ _ (by omega)⟩,fun b' s e'=>?_,fun _ _ e'=>e',fun _ _ e'=>e',fun _=>Nat.le_refl _,fun b' off' u hi e'=>?_,Nat.le_refl _,fun _ _=>rfl⟩
  ·have hne:b'≠b:=fun hh'=>by
    subst hh'
    unfold World.shape? at e'
    rw [hh] at e'
    cases x <;> first | (cases e';done) | exact hx _ _ _ rfl
   unfold World.shape? at e' ⊢
   dsimp only
   rw [am_ _ hne];exact e'
  ·have hne:b'≠b:=fun hh'=>by rw [hh',hIb] at hi;omega
   simp only [World.cell?] at e' ⊢
   rw [am_ _ hne];exact e'
 refine ⟨b,hb,hh,hle,h.step hle rfl rfl h.frO b hbase hIb (fun b' hne _=>am_ _ hne) i _ (fun _ _=>rfl) hb ⟨by rw [show unr _ y=y from hy0];exact bM_ _ hh,hy⟩ ?_ ?_⟩
 ·intro j z hz hne hh'
  exact hne (h.inj j i _ _ b hz hi hh' hb)
 ·intro t sz u ht hu hh'
  exact h.tokobj t sz u b i _ ht hu hh' hi hb
theorem AOp_rangeS {t:TypeId} {x:Operand} {s:ByteArray} (ho:o.op=.range t x) (ht:P.underlying t=some .string) (hx:α x=.lit (.string s)) (hk:∀ i,σ.heap i=none→Kk (.ref i 0) (σ.set i (.raw (.stringIter s 0)))):AOp P o α σ Kk:=by
 obtain ⟨dst,op,ty,pos,after,guard⟩:=o
 obtain rfl:op=_:=ho
 intro κ ev hI hxx
 have hv:=hxx x (by simp [Op.operands])
 rw [hx] at hv
 obtain ⟨i,hi,hfree⟩:=hI.fresh
 obtain ⟨κ',hw,hle,hρ,hI'⟩:=hI.alloc i hi (.raw (.stringIter s 0)) (.stringIter s 0) fun κ' hle hh _=>⟨hh,fun _ _ _ h=>by cases h⟩
 refine ay_ rfl ⟨.pointer (some ⟨κ.w.heap.size,0,none⟩),κ.w.alloc (.stringIter s 0),?_,κ',.ref i 0,_,hw,hle,hI',.ref i 0 _ hρ,hk i hfree⟩
 rw [hv.litInv]
 exact run_range_string κ.w t s ht
def fJ_ (s:ByteArray) (p:Nat):Int:=(Utf8.decode s p).1
def i5_ (s:ByteArray) (p:Nat):Nat:=(Utf8.decode s p).2
theorem AOp_nextS {x:Operand} {s:ByteArray} {i p:Nat} (ho:o.op=.next x true) (hx:α x=.ref i 0) (hh:σ.heap i=some (.raw (.stringIter s p)))
  (hy:p < s.size→Kk (.tup [.lit (.bool true),.lit (.int .i64 p),.lit (.int .i32 (fJ_ s p))]) (σ.set i (.raw (.stringIter s (p + i5_ s p)))))
  (hn:¬ p < s.size→Kk (.tup [.lit (.bool false)]) σ):AOp P o α σ Kk:=by
 obtain ⟨dst,op,ty,pos,after,guard⟩:=o
 obtain rfl:op=_:=ho
 intro κ ev hI hxx
 have hv:=hxx x (by simp [Op.operands])
 rw [hx] at hv
 obtain ⟨b,hb,hheap,hle,hI'⟩:=hI.setRaw (y:=.stringIter s (p + i5_ s p)) hh (fun _ _ _ h=>by cases h) rfl rfl
 have he:ev x=.pointer (some ⟨b,0,none⟩):=by
  generalize ev x=u at hv
  cases hv with
  |ref _ _ b' hb'=>rw [hb] at hb';obtain rfl:=Option.some.inj hb';rfl
 have tup:∀ (κ:K) (l:List AVal) (vs:List Value),l.length=vs.length→(∀ j (h1:j < l.length) (h2:j < vs.length),l[j]=.lit vs[j])→Rv κ (.tup l) (.tuple vs.toArray):=fun κ l vs h1 h2 =>
  .tup _ _ (by simp [h1]) fun j hj=>by
   have:(vs.toArray.getD j undef)=vs[j]'(by omega):=by simp [show j < vs.length by omega]
   rw [h2 j hj (by omega),this]
   exact .lit _
 by_cases hp:p < s.size
 ·refine ay_ rfl ⟨.tuple #[.bool true,.int .i64 p,.int .i32 (fJ_ s p)],_,?_,_,_,_,rfl,hle,hI',tup _ _ [.bool true,.int .i64 p,.int .i32 (fJ_ s p)] rfl (fun j h1 h2=>by match j,h1 with | 0,_=>rfl | 1,_=>rfl | 2,_=>rfl),hy hp⟩
  rw [he]
  simp [Instr.next,getObj,setObj,Sem.run,hheap,hp,Result.andThen,goInt,fJ_,i5_]
 ·refine ay_ rfl ⟨.tuple #[.bool false],κ.w,?_,κ,_,σ,rfl,K.Le.refl _,hI,tup _ _ [.bool false] rfl (fun j h1 h2=>by match j,h1 with | 0,_=>rfl),hn hp⟩
  rw [he]
  simp [Instr.next,getObj,Sem.run,hheap,hp,Result.andThen]
end
end Go.Ab
end

section
set_option linter.all false
namespace Go.Ab
open Go.RowKit (Below)
section
variable {P:Program} {o:Oper} {α:Operand→AVal} {σ:Store} {Kk:AVal→Store→Prop}
theorem AOp_appendS {s x:Operand} {t tx e:TypeId} {sz by_:Nat} {l l2:List AVal} {old:Option Nat}
  (ho:o.op=.call { callee:=.builtin .append,args:=#[s,x],argTypes:=#[t,tx] }) (hse:ad_ P t=some e) (hte:al_ P e=some (sz,by_))
  (hs:(∃ k,α s=.own k sz l∧σ.tok k=some (e,sz)∧old=some k)∨(α s=.lit (.slice none 0 0)∧l=[]∧old=none))
  (hx:ASrc P sz tx (α x) l2) (hlen:(l.length + l2.length) * by_≤140737488355328)
  (hk:∀ t',σ.tok t'=none→Kk (.own t' sz (l ++ l2)) (σ.newTok old t' (e,sz))):AOp P o α σ Kk:=by
 obtain ⟨dst,op,ty,pos,after,guard⟩:=o
 obtain rfl:op=.call { callee:=.builtin .append,args:=#[s,x],argTypes:=#[t,tx] }:=ho
 intro κ ev hI hxx
 obtain ⟨i,z,hi,hz,hisz,hiby,hzs,hsz,hby⟩:=aB_ hte
 have hts:P.underlying t=some (.slice e):=by
  unfold ad_ at hse
  split at hse
  ·rename_i e' he';obtain rfl:=Option.some.inj hse;exact he'
  ·cases hse
 have hvs:=hxx s (by simp [Op.operands,Call.operands])
 have hvx:=hxx x (by simp [Op.operands,Call.operands])
 have hle47:l.length + l2.length≤140737488355328:=Nat.le_trans (Nat.le_mul_of_pos_right _ hby) hlen
 obtain ⟨us,hlsz,hown,hus,hIold,hfreeold⟩:=ev_ hI hvs hs
 obtain ⟨vs,hl2sz,hvsr,hsrc⟩:=hx.spec hvx
 have hfl2:vs.length=l2.length * sz:=by rw [← hvsr.1,av_ hl2sz]
 obtain ⟨v',w',hrun,hown',hcase⟩:=dd_ (P:=P) κ.w κ.base t tx ty e i z sz by_ hts hi hz hisz hiby hzs hsz (ev s) l.length us hown (ev x) l2.length vs hfl2 hsrc (by simp only [maxLen];omega) hlen hI.base
 obtain ⟨κ',t',rfl,hle,hI',hr',htok'⟩:=c3_ hI hlsz hl2sz hus hvsr hIold hfreeold hown' hcase
 exact ay_ (s:=Builtin.append_ #[t,tx] ty #[ev s,ev x]) (by simp [execOp,resolve,invoke,builtin]) ⟨v',κ'.w,hrun,κ',.own t' sz (l ++ l2),σ.newTok old t' (e,sz),rfl,hle,hI',hr',hk t' htok'⟩
theorem AOp_bytesOwn {src dst e:TypeId} {x:Operand} {s:ByteArray} (ho:o.op=.convert src dst x) (hs:P.underlying src=some .string) (hd:P.underlying dst=some (.slice e)) (he:P.underlying e=some (.int .u8)) (hx:α x=.lit (.string s)) (hsz:s.size≤1099511627776)
  (hk:∀ t',σ.tok t'=none→Kk (.own t' 1 (aj_ s)) (σ.newTok none t' (e,1))):AOp P o α σ Kk:=by
 obtain ⟨dst',op,ty,pos,after,guard⟩:=o
 obtain rfl:op=.convert src dst x:=ho
 intro κ ev hI hxx
 have hv:=hxx x (by simp [Op.operands])
 rw [hx] at hv
 have hr:=run_bytes_of_string (P:=P) κ.w src dst e s hs hd he
 have hge:=grownCap_ge κ.w s.size 0 e
 have hcm:=grownCap_le_maxLen κ.w s.size 0 e (by simp only [maxLen];omega)
 have hl:(aj_ s).length=s.size:=ap_ s
 have hcl:(Go.byteCells s).length=s.size:=byteCells_length s
 have hrow:(bytesRow s (grownCap κ.w s.size 0 e)).size=grownCap κ.w s.size 0 e:=by
  have:s.data.size=s.size:=rfl
  simp [bytesRow,this];omega
 obtain ⟨κ',t',hw,hle,hI',hr',htok'⟩:=c3_ (e:=e) (sz:=1) (l:=[]) (l2:=aj_ s) (us:=[]) (vs:=Go.byteCells s) (v0:=.slice none 0 0) (old:=none) hI (by simp) (cB_ s) .nil (by rw [bd_];exact RvC.byteCells s) (by simp [an_]) (by simp [an_])
  (v':=.slice (some ⟨κ.w.heap.size,0,none⟩) s.size (grownCap κ.w s.size 0 e))
  (w':=κ.w.drew.alloc (.cells (bytesRow s (grownCap κ.w s.size 0 e)) e ((bytesRow s (grownCap κ.w s.size 0 e)).size,(bytesRow s (grownCap κ.w s.size 0 e)).size + 1)))
  ⟨by simp [hl,hcl],.inr ⟨κ.w.heap.size,grownCap κ.w s.size 0 e,_,_,by simp [hl],hI.base,heap_alloc_new κ.w.drew _,.inr (Nat.le_refl _),by simpa [hl] using hge,hcm,by simpa using hrow,by
   have hm:(s.data.map fun b=>Value.int .u8 b.toNat).toList.length=s.size:=by simp
   simp only [List.length_nil,Nat.zero_add,hl,Nat.mul_one,List.nil_append,bytesRow,Array.toList_append]
   rw [List.take_append_of_le_length (by omega),List.take_of_length_le (by omega)]
   simp [Go.byteCells]⟩⟩
  (.inr (.inr ⟨_,grownCap κ.w s.size 0 e,_,rfl,by simp [hl]⟩))
 refine ay_ (s:=Go.convert src dst (ev x)) rfl ⟨_,_,by rw [hv.litInv];exact hr,κ',.own t' 1 (aj_ s),_,hw,hle,hI',by simpa using hr',hk t' htok'⟩
theorem AOp_allocP {t:TypeId} {z:Value} {r:List Value} (ho:o.op=.alloc t) (hz:a4_ P t=some z) (hc:z.cells.toList=.pointer none :: r) (hk:∀ i,σ.heap i=none→Kk (.ref i 0) (σ.set i (.cells (.nilp i t (r.length + 1) :: r.map .lit)))):AOp P o α σ Kk:=by
 obtain ⟨dst,op,ty,pos,after,guard⟩:=o
 obtain rfl:op=.alloc t:=ho
 intro κ ev hI hx
 obtain ⟨i,hi,hfree⟩:=hI.fresh
 have hsz:z.cells.size=r.length + 1:=by rw [← Array.length_toList,hc];rfl
 obtain ⟨κ',hw,hle,hρ,hI'⟩:=hI.alloc i hi (.cells (.nilp i t (r.length + 1) :: r.map .lit)) (.cells z.cells t) fun κ' hle hh hρ' =>
  ⟨z.cells,t,hh,by simp [hsz],fun j hj=>by
   have e1:z.cells.getD j undef=(.pointer none :: r)[j]'(by simpa using hj):=by
    have:j < z.cells.size:=by rw [hsz];simpa using hj
    simp only [Array.getD_eq_getD_getElem?,← Array.getElem?_toList,hc]
    rw [List.getElem?_eq_getElem (by simpa using hj)];rfl
   rw [e1]
   cases j with
   |zero=>exact .nilp i t _ κ.w.heap.size (by rw [hρ'];simp) (by unfold World.shape?;rw [hh];simp [hsz])
   |succ j=>simp only [List.getElem_cons_succ,List.getElem_map];exact .lit _⟩
 refine ay_ rfl ⟨.pointer (some ⟨κ.w.heap.size,0,none⟩),κ.w.alloc (.cells z.cells t),?_,κ',.ref i 0,_,hw,hle,hI',.ref i 0 _ hρ,hk i hfree⟩
 simp only [Instr.alloc,Sem.run_bind,az_ hz,Result.andThen_ok,newVar,newRow,run_newObj,Sem.run_pure,World.alloc_eq]
theorem AOp_boxP {t:TypeId} {x:Operand} {r:List AVal} (ho:o.op=.box t x) (hx:α x=.agg (.lit (.pointer none) :: r)) (hk:∀ i,σ.heap i=none→Kk (.ref i 0) (σ.set i (.cells (.nilp i t (r.length + 1) :: r)))):AOp P o α σ Kk:=by
 obtain ⟨dst,op,ty,pos,after,guard⟩:=o
 obtain rfl:op=.box t x:=ho
 intro κ ev hI hxx
 have hv:=hxx x (by simp [Op.operands])
 rw [hx] at hv
 obtain ⟨vs,hvs,hn,hR⟩:=hv.aggInv
 obtain ⟨i,hi,hfree⟩:=hI.fresh
 have hsz:vs.size=r.length + 1:=by rw [hn];rfl
 obtain ⟨κ',hw,hle,hρ,hI'⟩:=hI.alloc i hi (.cells (.nilp i t (r.length + 1) :: r)) (.cells vs t) fun κ' hle hh hρ' =>
  ⟨vs,t,hh,by simp [hsz],fun j hj=>by
   have h1:=hR j (by simpa using hj)
   cases j with
   |zero =>
    simp only [List.getElem_cons_zero] at h1 ⊢
    rw [h1.litInv]
    exact .nilp i t _ κ.w.heap.size (by rw [hρ'];simp) (by unfold World.shape?;rw [hh];simp [hsz])
   |succ j =>
    simp only [List.getElem_cons_succ] at h1 ⊢
    exact h1.mono hle⟩
 refine ay_ (s:=Instr.box t (ev x)) rfl ⟨.pointer (some ⟨κ.w.heap.size,0,none⟩),κ.w.alloc (.cells vs t),?_,κ',.ref i 0,_,hw,hle,hI',.ref i 0 _ hρ,hk i hfree⟩
 rw [hvs]
 simp [Instr.box,newVar,newRow,Value.cells]
theorem dw_ {κ:K} (hI:Inv κ σ) {i n b:Nat} {e:TypeId} {r:List AVal} (hh:σ.heap i=some (.cells (.nilp i e n :: r))) (hb:κ.ρ i=some b):κ.w.shape? b=some (e,n):=by
 obtain ⟨b',hb',_,_,c,e',hheap,hlen,hR⟩:=hI.heap i _ hh
 rw [hb] at hb'
 obtain rfl:=Option.some.inj hb'
 have:=hR 0 (by simp)
 generalize c.getD 0 undef=u at this
 simp only [List.getElem_cons_zero] at this
 cases this with
 |nilp _ _ _ b2 hb2 hs=>rw [hb] at hb2;obtain rfl:=Option.some.inj hb2;exact hs
theorem nb_ {κ:K} {i b off:Nat} {v:Value} (h:Rv κ (.ref i off) v) (hb:κ.ρ i=some b):v=.pointer (some ⟨b,off,none⟩):=by
 cases h with
 |ref _ _ b' hb'=>rw [hb] at hb';obtain rfl:=Option.some.inj hb';rfl
theorem AOp_toUnsafe {src dst t e:TypeId} {x:Operand} {i n:Nat} {r:List AVal} (ho:o.op=.convert src dst x) (hs:P.underlying src=some (.pointer t)) (hd:P.underlying dst=some .unsafePointer) (ht:((P.info? t).map fun j=>j.size == 0)=some false)
  (hx:α x=.ref i 0) (hh:σ.heap i=some (.cells (.nilp i e n :: r))) (hn:0 < n) (hk:Kk (.ref i 0) σ):AOp P o α σ Kk:=by
 obtain ⟨dst',op,ty,pos,after,guard⟩:=o
 obtain rfl:op=_:=ho
 intro κ ev hI hxx
 have hv:=hxx x (by simp [Op.operands])
 rw [hx] at hv
 obtain ⟨b,hb,_⟩:=hI.heap i _ hh
 have he:=nb_ hv hb
 refine ay_ (s:=convert src dst (ev x)) rfl ⟨.pointer (some ⟨b,0,none⟩),κ.w,?_,κ,_,σ,rfl,.refl κ,hI,.ref i 0 b hb,hk⟩
 rw [he]
 obtain ⟨j,ht,hj⟩:=Option.map_eq_some_iff.1 ht
 exact Lib.run_to_unsafe κ.w ⟨b,0,none⟩ hs hd ht (by simpa using hj) (dw_ hI hh hb) hn
theorem AOp_fromUnsafe {src dst u e:TypeId} {x:Operand} {i n:Nat} {r:List AVal} (ho:o.op=.convert src dst x) (hs:P.underlying src=some .unsafePointer) (hd:P.underlying dst=some (.pointer u)) (hu:(P.info? u).isSome=true)
  (hx:α x=.ref i 0) (hh:σ.heap i=some (.cells (.nilp i e n :: r))) (hl:liesAt P P.depth e (n / P.cellsOf e) 0 u 1=true) (hk:Kk (.ref i 0) σ):AOp P o α σ Kk:=by
 obtain ⟨dst',op,ty,pos,after,guard⟩:=o
 obtain rfl:op=_:=ho
 intro κ ev hI hxx
 have hv:=hxx x (by simp [Op.operands])
 rw [hx] at hv
 obtain ⟨b,hb,_⟩:=hI.heap i _ hh
 have he:=nb_ hv hb
 refine ay_ (s:=convert src dst (ev x)) rfl ⟨.pointer (some ⟨b,0,none⟩),κ.w,?_,κ,_,σ,rfl,.refl κ,hI,.ref i 0 b hb,hk⟩
 rw [he]
 obtain ⟨j,hu⟩:=Option.isSome_iff_exists.1 hu
 exact Lib.run_from_unsafe κ.w ⟨b,0,none⟩ hs hd hu (dw_ hI hh hb) hl
def bL_ (P:Program) (f:FuncId):Option (Array Value→Sem Value) :=
 match P.funcs[f]? with
 |some fn=>if !(fn.name == "runtime.NumGoroutine") && fn.body.isNone && (Extern.findNext fn).isNone then Extern.find fn else none
 |none=>none
theorem fH_ {f:FuncId} {e:Array Value→Sem Value} (h:bL_ P f=some e) (args:Array Value) (w:World):(callFunc f args).run P w=((e args).run P w).andThen fun v w'=>.ok (.value v) w':=by
 unfold bL_ at h
 split at h
 ·rename_i fn hf
  split at h
  ·rename_i hc
   simp only [Bool.and_eq_true,Bool.not_eq_true',Option.isNone_iff_eq_none] at hc
   exact run_callFunc_extern hf hc.1.1 (by simpa using hc.1.2) hc.2 h args w
  ·cases h
 ·cases h
theorem AOp_extern {f:FuncId} {args:Array Operand} {ts:Array TypeId} {e:Array Value→Sem Value} {a:AVal} (ho:o.op=.call { callee:=.value (.func f),args:=args,argTypes:=ts }) (he:bL_ P f=some e)
  (hf:α (.func f)=.lit (.func (.func f) #[] #[])) (h:∀ κ (ev:Operand→Value),Inv κ σ→(∀ x∈args,Rv κ (α x) (ev x))→∃ cv,(e (args.map ev)).run P κ.w=.ok cv κ.w∧Rv κ a cv) (hk:Kk a σ):AOp P o α σ Kk:=by
 obtain ⟨dst',op,ty,pos,after,guard⟩:=o
 obtain rfl:op=_:=ho
 intro κ ev hI hxx
 obtain ⟨cv,h1,h2⟩:=h κ ev hI fun x hx=>hxx x (by simp [Op.operands,Call.operands,hx])
 have hfv:Rv κ (α (.func f)) (ev (.func f)):=hxx (.func f) (by simp [Op.operands,Call.operands])
 rw [hf] at hfv
 have hr:(execOp ev ⟨dst',.call { callee:=.value (.func f),args:=args,argTypes:=ts },ty,pos,after,guard⟩).run P κ.w=.ok (.value cv) κ.w:=by
  simp only [execOp,resolve,Sem.run_bind,hfv.litInv,Deferred.ofValue,Sem.run_pure,Result.andThen_ok,invoke]
  rw [fH_ he]
  simp [h1]
 rw [hr]
 exact ⟨κ,a,σ,rfl,.refl κ,hI,h2,hk⟩
theorem ga_ {κ:K} {α:Operand→AVal} {x:Operand} {ev:Operand→Value} (h:Rv κ (α x) (ev x)):∃ cv,(Extern.AbiNoEscape.same (#[x].map ev)).run P κ.w=.ok cv κ.w∧Rv κ (α x) cv:=⟨ev x,by rw [show #[x].map ev=#[ev x] from by simp];exact Lib.run_noEscape κ.w (ev x),h⟩
theorem AOp_sliceData {x:Operand} {t e:TypeId} {k:Nat} {l:List AVal} {e0:TypeId} (ho:o.op=.call { callee:=.builtin .unsafeSliceData,args:=#[x],argTypes:=#[t] }) (hty:P.underlying o.type=some (.pointer e))
  (hx:(α x=.own k 1 l∧σ.tok k=some (e0,1))∨(α x=.lit (.slice none 0 0)∧l=[])) (hk:Kk (.sdp k l) σ):AOp P o α σ Kk:=by
 obtain ⟨dst',op,ty,pos,after,guard⟩:=o
 obtain rfl:op=_:=ho
 intro κ ev hI hxx
 have hv:=hxx x (by simp [Op.operands,Call.operands])
 have fin:∀ (cv:Value) κ',(Builtin.unsafeSliceData_ #[t] ty #[ev x]).run P κ.w=.ok cv κ'.w→κ.Le κ'→Inv κ' σ→Rv κ' (.sdp k l) cv→Upon P (Post κ Kk) ((execOp ev ⟨dst',.call { callee:=.builtin .unsafeSliceData,args:=#[x],argTypes:=#[t] },ty,pos,after,guard⟩).run P κ.w):=fun cv κ' h1 h2 h3 h4 =>
  ay_ (s:=Builtin.unsafeSliceData_ #[t] ty #[ev x]) (by simp [execOp,resolve,invoke,builtin]) ⟨cv,κ'.w,h1,κ',.sdp k l,σ,rfl,h2,h3,h4,hk⟩
 rcases hx with ⟨hx,htok⟩ | ⟨hx,rfl⟩
 ·rw [hx] at hv
  obtain ⟨v,hτ,n,xs,how,_⟩:=hI.tok k _ htok
  dsimp only at how
  generalize ev x=u at hv fin
  cases hv with
  |own _ _ _ _ h0 hτ' =>
   rw [hτ] at hτ'
   obtain rfl:=Option.some.inj hτ'
   obtain ⟨a,cap,us,hev,_,_,_⟩:=cs_ h0
   rcases how.2 with ⟨h1,h2⟩ | ⟨g,cap',cur,fr,h1,hbg,hg,hfr,hnc,hcm,hcs,htk⟩
   ·rw [hev] at h1
    simp only [Value.slice.injEq] at h1
    obtain rfl:l=[]:=List.eq_nil_of_length_eq_zero h1.2.1
    rw [hev,h1.1] at fin
    exact fin (.pointer none) κ (Lib.run_unsafeSliceData_nil κ.w _ _ _ _) (.refl κ) hI (.sdp0 k none)
   ·rw [hev] at h1
    simp only [Value.slice.injEq] at h1
    obtain ⟨rfl,hnl,rfl⟩:=h1
    subst hev
    by_cases hc:cap=0
    ·subst hc
     obtain rfl:l=[]:=List.eq_nil_of_length_eq_zero (by omega)
     obtain ⟨κ',hw,hle,_,hI'⟩:=hB_ hI (w1:=κ.w) (.inl rfl) (.view ⟨g,0,none⟩ e) 0
     exact fin (.pointer (some ⟨κ.w.heap.size,0,none⟩)) κ' (by rw [hw];exact Lib.run_unsafeSliceData_zero κ.w _ ty e hty _ _ (e0,cur.size) (by unfold World.shape?;rw [hg])) hle hI' (.sdp0 k _)
    ·exact fin (.pointer (some ⟨g,0,none⟩)) κ (Lib.run_unsafeSliceData_row κ.w _ _ _ _ _ hc) (.refl κ) hI (.sdp k l g cap h0 hτ)
 ·rw [hx] at hv
  rw [hv.litInv] at fin
  exact fin (.pointer none) κ (Lib.run_unsafeSliceData_nil κ.w _ _ _ _) (.refl κ) hI (.sdp0 k none)
theorem Store.delTok_sub (σ:Store) (k:Nat):(σ.delTok k).Sub σ:=⟨fun _ _ h=>h,fun t n h=>by
 by_cases ht:t=k
 ·subst ht;simp [Store.delTok] at h
 ·simpa [Store.delTok,ht] using h⟩
theorem cW_ (w:World) {g b:Nat} (n:Nat) (h:b≠g):(w.freeze ⟨g,0,none⟩ n).heap[b]?=w.heap[b]?:=by
 unfold World.freeze
 split
 ·rfl
 ·simp only [Array.getElem?_modify];rw [if_neg (Ne.symm h)]
theorem g6_ (w:World) (a:Addr) (n b:Nat):(w.freeze a n).shape? b=w.shape? b:=by
 by_cases h0:n=0
 ·simp [World.freeze,h0]
 ·simp only [World.freeze,World.shape?,h0,if_false,Array.getElem?_modify]
  by_cases hb:a.block=b
  ·rw [if_pos hb]
   cases w.heap[b]? with
   |none=>rfl
   |some x=>cases x <;> rfl
  ·rw [if_neg hb]
theorem hh_ (w:World) (a:Addr) (n:Nat) (p:Addr):(w.freeze a n).cell? p=w.cell? p:=by
 by_cases h0:n=0
 ·simp [World.freeze,h0]
 ·simp only [World.freeze,World.cell?,h0,if_false,Array.getElem?_modify]
  by_cases hb:a.block=p.block
  ·rw [if_pos hb]
   cases w.heap[p.block]? with
   |none=>rfl
   |some x=>cases x <;> rfl
  ·rw [if_neg hb]
theorem AOp_unsafeString {x y:Operand} {t t2 e:TypeId} {k:Nat} {s:ByteArray} (ho:o.op=.call { callee:=.builtin .unsafeString,args:=#[x,y],argTypes:=#[t,t2] }) (ht:P.underlying t=some (.pointer e)) (hc:P.cellsOf e=1)
  (hx:α x=.sdp k (aj_ s)) (hy:α y=.lit (.int .i64 (s.size:Int))) (htok:s.size=0∨σ.tok k=some (e,1)) (h63:s.size≤9223372036854775807) (hk:Kk (.lit (.string s)) (σ.delTok k)):AOp P o α σ Kk:=by
 obtain ⟨dst',op,ty,pos,after,guard⟩:=o
 obtain rfl:op=_:=ho
 intro κ ev hI hxx
 have hvx:=hxx x (by simp [Op.operands,Call.operands])
 have hvy:=hxx y (by simp [Op.operands,Call.operands])
 rw [hx] at hvx
 rw [hy] at hvy
 have hey:=hvy.litInv
 have fin:∀ κ',(Builtin.unsafeString_ #[t,t2] ty #[ev x,.int .i64 (s.size:Int)]).run P κ.w=.ok (.string s) κ'.w→κ.Le κ'→Inv κ' (σ.delTok k)→Upon P (Post κ Kk) ((execOp ev ⟨dst',.call { callee:=.builtin .unsafeString,args:=#[x,y],argTypes:=#[t,t2] },ty,pos,after,guard⟩).run P κ.w):=fun κ' h1 h2 h3 =>
  ay_ (s:=Builtin.unsafeString_ #[t,t2] ty #[ev x,ev y]) (by simp [execOp,resolve,invoke,builtin]) ⟨.string s,κ'.w,by rw [hey];exact h1,κ',.lit (.string s),_,rfl,h2,h3,.lit _,hk⟩
 by_cases h0:s.size=0
 ·have hs:s=.empty:=by
   apply ByteArray.ext
   exact Array.eq_empty_of_size_eq_zero h0
  subst hs
  obtain ⟨a,ha⟩:∃ a,ev x=.pointer a:=by
   generalize ev x=u at hvx
   cases hvx with
   |sdp0=>exact ⟨_,rfl⟩
   |sdp=>exact ⟨_,rfl⟩
  exact fin κ (by rw [ha];exact Lib.run_unsafeString_none κ.w t t2 ty a) (.refl κ) (hI.sub (Store.delTok_sub σ k))
 ·have htk:σ.tok k=some (e,1):=htok.resolve_left h0
  generalize hu:ev x=u at hvx fin
  generalize hl:aj_ s=l at hvx
  cases hvx with
  |sdp0=>exact absurd (by have:=ap_ s;rw [hl] at this;simpa using this.symm) h0
  |sdp _ _ g c hsl hτ =>
   subst hl
   obtain ⟨v,hτ',n,xs,how,hIb⟩:=hI.tok k _ htk
   rw [hτ] at hτ'
   obtain rfl:=Option.some.inj hτ'
   rcases how.2 with ⟨h1,_⟩ | ⟨g',cap',cur,fr,h1,hbg,hg,hfr,hnc,hcm,hcs,htkk⟩
   ·cases h1
   simp only [Value.slice.injEq,Option.some.injEq,Addr.mk.injEq,and_true] at h1
   obtain ⟨rfl,hnl,rfl⟩:=h1
   rw [ap_] at hnl
   obtain ⟨a,cap,us,hev,_,hr,hcells⟩:=cs_ hsl
   have hsl':s.data.toList.length=s.size:=by show _=s.data.size;simp
   have hcell:∀ (j:Nat) x,s.data.toList[j]?=some x→κ.w.cell? ((⟨g,0,none⟩:Addr).add j)=some (.int .u8 x.toNat):=by
    intro j x hj
    simp only [Value.slice.injEq] at hev
    obtain ⟨rfl,_,rfl⟩:=hev
    rcases hcells with ⟨h1,_⟩ | ⟨ad,h1,hcu⟩
    ·cases h1
    ·obtain rfl:=Option.some.inj h1
     have hj':j < s.data.toList.length:=(List.getElem?_eq_some_iff.1 hj).1
     have hjl:j < (flat (aj_ s)).length:=by rw [bd_,ap_];exact hsl' ▸ hj'
     have hju:j < us.length:=by rw [← hr.1];exact hjl
     have h2:=hr.2 j hjl hju
     have e3:(flat (aj_ s))[j]=.lit (.int .u8 x.toNat):=by
      simp only [bd_]
      simp only [aj_,List.getElem_map]
      rw [(List.getElem?_eq_some_iff.1 hj).2]
     rw [e3] at h2
     have:=hcu j us[j] (by simp [hju])
     rw [this,h2.litInv]
   have hrun:=Lib.run_unsafeString_row (P:=P) κ.w t t2 ty e ht hc g cur.size (by unfold World.shape?;rw [hg]) s.data.toList (by intro hh;apply h0;rw [← hsl',hh];rfl) (by rw [hsl'];omega) (by rw [hsl'];exact h63) hcell
   have e1:(s.data.toList.length:Int)=(s.size:Int):=by rw [hsl']
   have e2:(⟨s.data.toList.toArray⟩:ByteArray)=s:=by cases s;simp
   rw [e1,e2] at hrun
   have hle:κ.Le { κ with w:=κ.w.freeze ⟨g,0,none⟩ s.data.toList.length } :=
    ⟨rfl,Lib.below_freeze (Below.refl _ _) hbg _,fun b sh h=>by rw [g6_];exact h,fun _ _ h=>h,fun _ _ h=>h,fun _=>Nat.le_refl _,fun b off v _ h=>by rw [hh_];exact h,by
     unfold World.freeze;split <;> exact Nat.le_refl _,fun _ _=>rfl⟩
   refine fin { κ with w:=κ.w.freeze ⟨g,0,none⟩ s.data.toList.length } hrun hle ?_
   have sz:(κ.w.freeze ⟨g,0,none⟩ s.data.toList.length).heap.size=κ.w.heap.size:=by unfold World.freeze;split <;> simp
   have hI1:=hI.sub (Store.delTok_sub σ k)
   have tokne:∀ t q,(σ.delTok k).tok t=some q→t≠k∧σ.tok t=some q:=fun t q h=>by
    by_cases ht:t=k
    ·subst ht;simp [Store.delTok] at h
    ·exact ⟨ht,by simpa [Store.delTok,ht] using h⟩
   exact {
    glob:=hI.glob.le hle
    base:=by rw [hle.base];exact Nat.le_trans hI.base hle.below.size
    heap:=fun i x hx=>by
     obtain ⟨b,hb,hbase,hIb',hR⟩:=hI.heap i x hx
     have hne:b≠g:=fun hh=>hI.tokobj k _ _ g i x htk hτ rfl hx (by rw [hb,hh])
     exact ⟨b,hb,hbase,hIb',hR.mono hle (cW_ _ _ hne)⟩
    inj:=hI1.inj
    tok:=fun t q ht=>by
     obtain ⟨hne,ht'⟩:=tokne t q ht
     obtain ⟨v,hv,hok⟩:=hI.tok t q ht'
     exact ⟨v,hv,hok.mono hle fun b hb=>⟨cW_ _ _ (fun hh=>hne (hI.tokinj t k _ _ v _ g ht' htk hv hτ (by rw [hb,hh]) rfl)),rfl⟩⟩
    tokinj:=hI1.tokinj
    tokobj:=hI1.tokobj
    frO:=hI.frO
    frT:=hI.frT
    frI:=fun b hb=>hI.frI b (by rw [← sz];exact hb) }
theorem dG_ {x y:Operand} {t t2:TypeId} {k:Nat} (ho:o.op=.call { callee:=.builtin .unsafeString,args:=#[x,y],argTypes:=#[t,t2] })
  (hx:α x=.sdp k []) (hy:α y=.lit (.int .i64 0)) (hk:Kk (.lit (.string ⟨#[]⟩)) σ):AOp P o α σ Kk:=by
 obtain ⟨dst',op,ty,pos,after,guard⟩:=o
 obtain rfl:op=_:=ho
 intro κ ev hI hxx
 have hvx:=hxx x (by simp [Op.operands,Call.operands])
 have hvy:=hxx y (by simp [Op.operands,Call.operands])
 rw [hx] at hvx
 rw [hy] at hvy
 obtain ⟨a,ha⟩:∃ a,ev x=.pointer a:=by
  generalize ev x=u at hvx
  cases hvx with
  |sdp0=>exact ⟨_,rfl⟩
  |sdp=>exact ⟨_,rfl⟩
 exact ay_ (s:=Builtin.unsafeString_ #[t,t2] ty #[ev x,ev y]) (by simp [execOp,resolve,invoke,builtin]) ⟨.string ⟨#[]⟩,κ.w,by rw [hvy.litInv,ha];exact Lib.run_unsafeString_none κ.w t t2 ty a,κ,.lit (.string ⟨#[]⟩),_,rfl,.refl κ,hI,.lit _,hk⟩
end
end Go.Ab
end

section
set_option linter.all false
set_option maxRecDepth 100000
namespace Go.Proofs.YtcdidkliidjoeaaGreatDoor
open Go.Ab
theorem o_ {p:Prop} (h:p:=by simp only [List.getElem?_toArray,List.getElem?_cons_zero,List.getElem?_cons_succ];rfl):p:=h
theorem v_ {p:Prop} (h:p:=by first | (simp (disch:=omega) only [go_sem,wrap_i64,↓reduceIte,Nat.reduceEqDiff,Nat.reduceAdd,Nat.reduceSub,Nat.reduceMul,Nat.reduceLeDiff,reduceCtorEq,Int.reduceToNat,Int.reduceLE,Int.reduceLT,List.getElem?_map,Nat.mul_one,R];rfl) | (simp (disch:=omega) only [go_sem,wrap_i64,↓reduceIte,Nat.reduceEqDiff,Nat.reduceAdd,Nat.reduceSub,Nat.reduceMul,Nat.reduceLeDiff,reduceCtorEq,Int.reduceToNat,Int.reduceLE,Int.reduceLT,List.getElem?_map,Nat.mul_one];rfl)):p:=h
theorem va_ {p:Prop} (h:p:=by first | (simp (disch:=omega) only [go_sem,wrap_i64,↓reduceIte,Nat.reduceEqDiff,Nat.reduceAdd,Nat.reduceSub,Nat.reduceMul,Nat.reduceLeDiff,reduceCtorEq,Int.reduceToNat,Int.reduceLE,Int.reduceLT,List.getElem?_map,Nat.mul_one,R];rfl) | (simp (disch:=omega) only [go_sem,wrap_i64,↓reduceIte,Nat.reduceEqDiff,Nat.reduceAdd,Nat.reduceSub,Nat.reduceMul,Nat.reduceLeDiff,reduceCtorEq,Int.reduceToNat,Int.reduceLE,Int.reduceLT,List.getElem?_map,Nat.mul_one,R];done) | (simp (disch:=omega) only [go_sem,wrap_i64,↓reduceIte,Nat.reduceEqDiff,Nat.reduceAdd,Nat.reduceSub,Nat.reduceMul,Nat.reduceLeDiff,reduceCtorEq,Int.reduceToNat,Int.reduceLE,Int.reduceLT,List.getElem?_map,Nat.mul_one];rfl) | (simp (disch:=omega) only [go_sem,wrap_i64,↓reduceIte,Nat.reduceEqDiff,Nat.reduceAdd,Nat.reduceSub,Nat.reduceMul,Nat.reduceLeDiff,reduceCtorEq,Int.reduceToNat,Int.reduceLE,Int.reduceLT,List.getElem?_map,Nat.mul_one];done) | rfl):p:=h
theorem h_ {p:Prop} (h:p:=by first | (simp (disch:=omega) only [go_sem,↓reduceIte,Nat.reduceEqDiff,Nat.reduceAdd,Nat.reduceSub,Nat.reduceMul,Nat.reduceLeDiff,reduceCtorEq,Int.reduceToNat,Int.reduceLE,Int.reduceLT,List.getElem?_map,Nat.mul_one,R];rfl) | (simp (disch:=omega) only [go_sem,↓reduceIte,Nat.reduceEqDiff,Nat.reduceAdd,Nat.reduceSub,Nat.reduceMul,Nat.reduceLeDiff,reduceCtorEq,Int.reduceToNat,Int.reduceLE,Int.reduceLT,List.getElem?_map,Nat.mul_one,R];done) | (simp (disch:=omega) only [go_sem,↓reduceIte,Nat.reduceEqDiff,Nat.reduceAdd,Nat.reduceSub,Nat.reduceMul,Nat.reduceLeDiff,reduceCtorEq,Int.reduceToNat,Int.reduceLE,Int.reduceLT,List.getElem?_map,Nat.mul_one];rfl) | (simp (disch:=omega) only [go_sem,↓reduceIte,Nat.reduceEqDiff,Nat.reduceAdd,Nat.reduceSub,Nat.reduceMul,Nat.reduceLeDiff,reduceCtorEq,Int.reduceToNat,Int.reduceLE,Int.reduceLT,List.getElem?_map,Nat.mul_one];done)):p:=h
theorem g_ {p:Prop} (h:p:=by first | (simp only [go_sem];rfl) | (simp only [go_sem];done) | assumption):p:=h
theorem c_ {p:Prop} (h:p:=by simp [AVal.one,AVal.cells]):p:=h
theorem c2_ {p:Prop} (h:p:=by simp [go_sem,AVal.one,AVal.cells,AVal.solid]):p:=h
theorem le_ {p:Prop} (h:p:=by first | (simp;done) | (simp;omega) | omega):p:=h
theorem sub_ {p:Prop} (h:p:=by first | exact Store.Wk.refl _ | exact Store.Sub.refl _ | ((try dsimp only);(try simp (disch:=assumption) only [Store.newTok_set,Store.newTok_step]);(first | refine i9_ ?_ | refine hS_ ?_ | skip);(repeat (first | refine dB_ (.head _) ?_ | refine dB_ (.tail _ (.head _)) ?_ | refine dB_ (.tail _ (.tail _ (.head _))) ?_ | refine dB_ (.tail _ (.tail _ (.tail _ (.head _)))) ?_ | refine lb_ h_ ?_));(repeat (first | exact dA_ | refine e9_ (.head _) ?_ | refine e9_ (.tail _ (.head _)) ?_ | refine e9_ (.tail _ (.tail _ (.head _))) ?_ | refine e9_ (.tail _ (.tail _ (.tail _ (.head _)))) ?_ | refine iA_ (by first | assumption | (simp only [Store.newTok_heap];assumption)) ?_ | refine my_ ?_ | refine hR_ (by assumption) ?_)))):p:=h
theorem vg_ {p:Prop} (h:p:=by intro hb;have hb':=hb;(try simp only [decide_eq_true_eq,decide_eq_false_iff_not,Bool.not_eq_true',Bool.not_eq_false',Bool.and_eq_true,Bool.or_eq_true,Bool.and_eq_false_iff,Bool.or_eq_false_iff,Bool.not_eq_eq_eq_not,Bool.not_true,Bool.not_false,Int.not_le,Int.not_lt,beq_iff_eq] at hb');(try simp only [Bool.and_eq_true] at hb);first | (simp (disch:=omega) only [go_sem,wrap_i64,↓reduceIte,Nat.reduceEqDiff,Nat.reduceAdd,Nat.reduceSub,Nat.reduceMul,Nat.reduceLeDiff,reduceCtorEq,Int.reduceToNat,Int.reduceLE,Int.reduceLT,List.getElem?_map,Nat.mul_one,R];rfl) | (simp (disch:=omega) only [go_sem,wrap_i64,↓reduceIte,Nat.reduceEqDiff,Nat.reduceAdd,Nat.reduceSub,Nat.reduceMul,Nat.reduceLeDiff,reduceCtorEq,Int.reduceToNat,Int.reduceLE,Int.reduceLT,List.getElem?_map,Nat.mul_one,hb,R];rfl) | (simp (disch:=omega) only [go_sem,wrap_i64,↓reduceIte,Nat.reduceEqDiff,Nat.reduceAdd,Nat.reduceSub,Nat.reduceMul,Nat.reduceLeDiff,reduceCtorEq,Int.reduceToNat,Int.reduceLE,Int.reduceLT,List.getElem?_map,Nat.mul_one];rfl) | (simp (disch:=omega) only [go_sem,wrap_i64,↓reduceIte,Nat.reduceEqDiff,Nat.reduceAdd,Nat.reduceSub,Nat.reduceMul,Nat.reduceLeDiff,reduceCtorEq,Int.reduceToNat,Int.reduceLE,Int.reduceLT,List.getElem?_map,Nat.mul_one,hb];rfl)):p:=h
theorem cg_ {p:Prop} (h:p:=by have hb':=hb;(try simp only [decide_eq_true_eq,decide_eq_false_iff_not,Bool.not_eq_true',Bool.not_eq_false',Bool.and_eq_true,Bool.or_eq_true,Bool.and_eq_false_iff,Bool.or_eq_false_iff,Bool.not_eq_eq_eq_not,Bool.not_true,Bool.not_false,Int.not_le,Int.not_lt,beq_iff_eq] at hb');(try simp only [Bool.and_eq_true] at hb);first | (simp (disch:=omega) only [go_sem,wrap_i64,↓reduceIte,Nat.reduceEqDiff,Nat.reduceAdd,Nat.reduceSub,Nat.reduceMul,Nat.reduceLeDiff,reduceCtorEq,Int.reduceToNat,Int.reduceLE,Int.reduceLT,List.getElem?_map,Nat.mul_one,R];rfl) | (simp (disch:=omega) only [go_sem,wrap_i64,↓reduceIte,Nat.reduceEqDiff,Nat.reduceAdd,Nat.reduceSub,Nat.reduceMul,Nat.reduceLeDiff,reduceCtorEq,Int.reduceToNat,Int.reduceLE,Int.reduceLT,List.getElem?_map,Nat.mul_one,R];done) | (simp (disch:=omega) only [go_sem,wrap_i64,↓reduceIte,Nat.reduceEqDiff,Nat.reduceAdd,Nat.reduceSub,Nat.reduceMul,Nat.reduceLeDiff,reduceCtorEq,Int.reduceToNat,Int.reduceLE,Int.reduceLT,List.getElem?_map,Nat.mul_one,hb,R];rfl) | (simp (disch:=omega) only [go_sem,wrap_i64,↓reduceIte,Nat.reduceEqDiff,Nat.reduceAdd,Nat.reduceSub,Nat.reduceMul,Nat.reduceLeDiff,reduceCtorEq,Int.reduceToNat,Int.reduceLE,Int.reduceLT,List.getElem?_map,Nat.mul_one,hb,R];done) | (simp (disch:=omega) only [go_sem,wrap_i64,↓reduceIte,Nat.reduceEqDiff,Nat.reduceAdd,Nat.reduceSub,Nat.reduceMul,Nat.reduceLeDiff,reduceCtorEq,Int.reduceToNat,Int.reduceLE,Int.reduceLT,List.getElem?_map,Nat.mul_one];rfl) | (simp (disch:=omega) only [go_sem,wrap_i64,↓reduceIte,Nat.reduceEqDiff,Nat.reduceAdd,Nat.reduceSub,Nat.reduceMul,Nat.reduceLeDiff,reduceCtorEq,Int.reduceToNat,Int.reduceLE,Int.reduceLT,List.getElem?_map,Nat.mul_one];done) | (simp (disch:=omega) only [go_sem,wrap_i64,↓reduceIte,Nat.reduceEqDiff,Nat.reduceAdd,Nat.reduceSub,Nat.reduceMul,Nat.reduceLeDiff,reduceCtorEq,Int.reduceToNat,Int.reduceLE,Int.reduceLT,List.getElem?_map,Nat.mul_one,hb];rfl) | (simp (disch:=omega) only [go_sem,wrap_i64,↓reduceIte,Nat.reduceEqDiff,Nat.reduceAdd,Nat.reduceSub,Nat.reduceMul,Nat.reduceLeDiff,reduceCtorEq,Int.reduceToNat,Int.reduceLE,Int.reduceLT,List.getElem?_map,Nat.mul_one,hb];done)):p:=h
theorem vb_ {p:Prop} (h:p:=by first | (simp (disch:=omega) only [go_sem,wrap_i64,↓reduceIte,Nat.reduceEqDiff,Nat.reduceAdd,Nat.reduceSub,Nat.reduceMul,Nat.reduceLeDiff,reduceCtorEq,Int.reduceToNat,Int.reduceLE,Int.reduceLT,List.getElem?_map,Nat.mul_one,List.map_append,List.map_cons,List.map_nil,R];done) | (simp (disch:=omega) only [go_sem,wrap_i64,↓reduceIte,Nat.reduceEqDiff,Nat.reduceAdd,Nat.reduceSub,Nat.reduceMul,Nat.reduceLeDiff,reduceCtorEq,Int.reduceToNat,Int.reduceLE,Int.reduceLT,List.getElem?_map,Nat.mul_one,List.map_append,List.map_cons,List.map_nil];done)):p:=h
theorem cv_ {p:Prop} (h:p:=by (repeat (refine bs_.eq (by first | with_reducible rfl | exact va_ | exact vb_ | rfl) ?_));exact bs_.nil):p:=h
section
variable {P:Program} {ops:Array Oper} {s0:Store} {Kk:Env→Store→Prop} {rest:List Oper} {i:Nat} {r:DT} {e:Env} {σ:Store} {d j dj:Nat} {a:AVal} {b:Bool} {op:Op} {ty n:Nat} {po:String} {af:Array Edge} {t ft:TypeId} {x ad:Operand} {cs cs' cs2:List AVal} {o off size:Nat} {gg:Bool} {G:FuncId} {az:Array Operand} {ts:Array TypeId} {args:List AVal} {Q:AVal→Store→Prop}
theorem s_ (h:aL_ P ops Kk rest (upd e d a) σ) (ha:aval P op (aev e) σ=some a:=by exact v_):aL_ P ops Kk (⟨some d,op,ty,po,af,none⟩ :: rest) e σ:=aL_S rfl rfl ha h
theorem x_ (hg:isGo P G=true) (ha:[] ++ az.toList.map (aev e) ++ []=args) (hc:ACalls P G args σ Q) (h:∀ a σ',Q a σ'→aL_ P ops Kk rest (upd e d a) σ'):aL_ P ops Kk (⟨some d,.call ⟨.value (.func G),az,ts⟩,ty,po,af,none⟩ :: rest) e σ:=aL_X rfl rfl (jc_ rfl rfl (.inr ⟨rfl,rfl,rfl⟩) hg ha hc h)
theorem gt_ (h:aL_ P ops Kk rest (upd e d (gval b a)) σ) (hj:(ops[j]?).bind (·.dst)=some dj:=by rfl) (he:e dj=.lit (.bool b):=by exact v_) (ha:b=true→aval P op (aev e) σ=some a:=by exact vg_):aL_ P ops Kk (⟨some d,op,ty,po,af,some (j,true)⟩ :: rest) e σ:=r5_ rfl hj he rfl ha h
theorem gf_ (h:aL_ P ops Kk rest (upd e d (gval (!b) a)) σ) (hj:(ops[j]?).bind (·.dst)=some dj:=by rfl) (he:e dj=.lit (.bool b):=by exact v_) (ha:(!b)=true→aval P op (aev e) σ=some a:=by exact vg_):aL_ P ops Kk (⟨some d,op,ty,po,af,some (j,false)⟩ :: rest) e σ:=r4_ rfl hj he rfl ha h
theorem st_ (h:aL_ P ops Kk rest e (σ.set o (.cells cs2))) (ha:aev e ad=.ref o off:=by exact v_) (hx:aev e x=a:=by exact v_) (hh:σ.heap o=some (.cells cs):=by exact h_) (ht:aQ_ P t=some (size,gg):=by exact g_) (hs:a.solid=true:=by rfl) (hcs:a.cells=cs':=by exact g_) (hones:∀ c∈cs',c.one=true:=by exact c_) (hsz:cs'.length=size:=by rfl) (hle:off + size≤cs.length:=by exact le_) (hp:aput cs off cs'=cs2:=by exact v_) :
  aL_ P ops Kk (⟨none,.store t ad x,ty,po,af,none⟩ :: rest) e σ:=fQ_ rfl rfl rfl ha hx hh ht hs hcs hones hsz hle hp h
theorem ds_ (h:dRun P ops s0 Kk r (upd e d a) σ) (ho:ops[i]?=some ⟨some d,op,ty,po,af,none⟩:=by exact o_) (ha:aval P op (aev e) s0=some a:=by exact v_):dRun P ops s0 Kk (.op i 0 r) e σ:=dR_S ho rfl rfl ha h
theorem er_ {rs:List ResultVar} {v:AVal} (σ':Store) (hq:Q v σ') (h:aret P rs e σ=some v:=by exact v_) (hs:σ'.Wk σ:=by exact sub_):aEnd P rs Q .ret e σ:=aK_ h hs hq
end
section
variable {P:Program} {n id:Nat} {l:List Oper} {Q:Exit→Env→Store→Prop} {e:Env} {σ:Store} {y x:Code}
theorem r_ (h:aL_ P l.toArray (Q .normal) l e σ) (hd:l.all (cQ_ n l.toArray)=true:=by kernel_rfl):awp P n (.region id l.toArray false) Q e σ:=cK_ hd h
theorem rr_ (h:aL_ P l.toArray (gp_ (awp P n y Q) Q .normal) l e σ) (hd:l.all (cQ_ n l.toArray)=true:=by kernel_rfl):awp P n (.seq (.region id l.toArray false) y) Q e σ:=ac_ (cK_ hd h)
theorem cd_ {c:Operand} {t:Bool} {p q:Prop} (h1:p→awp P n x Q e σ) (h2:q→awp P n y Q e σ) (hc:aev e c=.lit (.bool t):=by exact v_) (e1:(t=true)=p:=by (try simp only [decide_eq_true_eq,decide_eq_false_iff_not,Bool.not_eq_true',Bool.not_eq_false',Bool.and_eq_true,Bool.or_eq_true,Bool.and_eq_false_iff,Bool.or_eq_false_iff,Bool.not_eq_eq_eq_not,Bool.not_true,Bool.not_false,Int.not_le,Int.not_lt,beq_iff_eq]);rfl) (e2:(t=false)=q:=by (try simp only [decide_eq_true_eq,decide_eq_false_iff_not,Bool.not_eq_true',Bool.not_eq_false',Bool.and_eq_true,Bool.or_eq_true,Bool.and_eq_false_iff,Bool.or_eq_false_iff,Bool.not_eq_eq_eq_not,Bool.not_true,Bool.not_false,Int.not_le,Int.not_lt,beq_iff_eq]);rfl):awp P n (.cond c x y) Q e σ:=df_ hc (fun h=>h1 (e1 ▸ h)) fun h=>h2 (e2 ▸ h)
theorem en_ {f:FuncId} {fn:Func} {c:Code} {args:List AVal} {R:AVal→Store→Prop} {rs:List ResultVar} {E:Env} (hf:P.funcs[f]?=some fn) (hnt:fn.ntmps=n) (hrs:fn.results=rs.toArray) (h:awp P n c (aEnd P rs R) E σ) (hb:fn.body=some c:=by rfl) (hn:args.length≤n:=by simp only [List.length_cons,List.length_nil];decide) (hE:dL_ 0 args=E:=by first | (simp only [fv_,gB_,Nat.reduceAdd];done) | (simp only [fv_,gB_,Nat.reduceAdd];rfl) | rfl):ACalls P f args σ R:=by
 subst hE
 exact ek_ hf hb hnt (by rw [hrs]) hn h
end
end Go.Proofs.YtcdidkliidjoeaaGreatDoor
end

section
set_option linter.all false
namespace Go.Ab
open Go.RowKit (Below)
section
variable {P:Program} {o:Oper} {α:Operand→AVal} {σ:Store} {Kk:AVal→Store→Prop}
theorem bf_ {x:Operand} {t e:TypeId} (ho:o.op=.call { callee:=.builtin .cap,args:=#[x],argTypes:=#[t] }) (ht:P.underlying t=some (.slice e)) (hx:α x=.lit (.slice none 0 0)) (hk:Kk (.lit (.int .i64 0)) σ):AOp P o α σ Kk:=by
 obtain ⟨dst,op,ty,pos,after,guard⟩:=o
 obtain rfl:op=_:=ho
 intro κ ev hI hxx
 have hv:=hxx x (by simp [Op.operands,Call.operands])
 rw [hx] at hv
 refine ay_ (s:=Builtin.cap_ #[t] ty #[ev x]) (by simp [execOp,resolve,invoke,builtin]) ⟨.int .i64 0,κ.w,?_,κ,.lit (.int .i64 0),σ,rfl,.refl κ,hI,.lit _,hk⟩
 rw [hv.litInv]
 simp [Builtin.cap_,run_underlying ht,goInt]
theorem b4_ {s x:Operand} {t tx e:TypeId} {sz by_ n:Nat} {k0 kx:IntKind}
  (ho:o.op=.call { callee:=.builtin .append,args:=#[s,x],argTypes:=#[t,tx] }) (hse:ad_ P t=some e) (hte:al_ P e=some (sz,by_)) (htx:P.underlying tx=some (.int kx))
  (hs:α s=.lit (.slice none 0 0)) (hx:α x=.lit (.int k0 (n:Int))) (hn:0 < n) (hlen:n * by_≤140737488355328)
  (hk:∀ o',σ.heap o'=none→Kk (.msl o' sz 0 n) (σ.set o' (.cells []))):AOp P o α σ Kk:=by
 obtain ⟨dst,op,ty,pos,after,guard⟩:=o
 obtain rfl:op=.call { callee:=.builtin .append,args:=#[s,x],argTypes:=#[t,tx] }:=ho
 intro κ ev hI hxx
 obtain ⟨i,z,hi,hz,hisz,hiby,hzs,hsz,hby⟩:=aB_ hte
 subst hisz
 subst hiby
 have hts:P.underlying t=some (.slice e):=by
  unfold ad_ at hse
  split at hse
  ·rename_i e' he';obtain rfl:=Option.some.inj hse;exact he'
  ·cases hse
 have hvs:=hxx s (by simp [Op.operands,Call.operands])
 have hvx:=hxx x (by simp [Op.operands,Call.operands])
 rw [hs] at hvs
 rw [hx] at hvx
 have hle47:n≤140737488355328:=Nat.le_trans (Nat.le_mul_of_pos_right _ hby) hlen
 have hold:(Builtin.firstCells i.size 0 (.slice none 0 0)).run P κ.w.drew=.ok ([]:List Value).toArray κ.w.drew:=by simp [Builtin.firstCells]
 have hrun:=Lib.run_append_grow_zeros κ.w t tx ty e i z k0 kx hts htx hi hz none 0 0 [] hold n hn hsz (by omega) (by omega) (by omega) (growslice_fits (by omega) (by simpa using hlen))
 simp only [Nat.zero_add] at hrun
 obtain ⟨o',ho',hfr⟩:=hI.fresh
 have hd:=hI.drew
 have hge:=grownCap_ge κ.w n 0 e
 have hcml:=grownCap_le_maxLen κ.w n 0 e (by simp only [maxLen];omega)
 obtain ⟨cap',hcap'⟩:∃ c,grownCap κ.w n 0 e=c:=⟨_,rfl⟩
 rw [hcap'] at hrun hge hcml
 generalize hcc:(([]:List Value).toArray ++ Builtin.zeroCells z.cells n ++ Builtin.zeroCells z.cells (cap' - n))=cc at hrun
 have hsize:cc.size=cap' * i.size:=by
  rw [← hcc]
  simp only [Array.size_append,List.size_toArray,size_zeroCells,hzs,List.length_nil,Nat.zero_add,← Nat.add_mul]
  congr 1;omega
 obtain ⟨κ',hw,hle,hρ,hI'⟩:=hd.2.alloc o' ho' (.cells []) (.cells cc e) fun κ' hle hh _=>⟨_,e,hh,by simp,fun j hj=>by simp at hj⟩
 have hheap:κ'.w.heap[κ.w.heap.size]?=some (.cells cc e (0,0)):=by rw [hw];exact Go.heap_alloc_new κ.w.drew _
 refine ay_ (s:=Builtin.append_ #[t,tx] ty #[ev s,ev x]) (by simp [execOp,resolve,invoke,builtin]) ⟨_,_,by rw [hvs.litInv,hvx.litInv];exact hrun,κ',.msl o' i.size 0 n,_,hw,hd.1.trans hle,hI',.msl o' i.size 0 n κ.w.heap.size cap' _ e hρ hge (by unfold World.shape?;rw [hheap]) ⟨by rw [hsize];omega,hcml⟩,hk o' hfr⟩
theorem hc_ {s x:Operand} {t tx e:TypeId} {sz by_:Nat}
  (ho:o.op=.call { callee:=.builtin .append,args:=#[s,x],argTypes:=#[t,tx] }) (hse:ad_ P t=some e) (hte:al_ P e=some (sz,by_))
  (hs:(∃ so len,α s=.msl so sz 0 len)∨α s=.lit (.slice none 0 0)) (hx:ASrc P sz tx (α x) []) (hk:Kk (α s) σ):AOp P o α σ Kk:=by
 obtain ⟨dst,op,ty,pos,after,guard⟩:=o
 obtain rfl:op=.call { callee:=.builtin .append,args:=#[s,x],argTypes:=#[t,tx] }:=ho
 intro κ ev hI hxx
 obtain ⟨i,z,hi,hz,hisz,hiby,hzs,hsz,hby⟩:=aB_ hte
 have hts:P.underlying t=some (.slice e):=by
  unfold ad_ at hse
  split at hse
  ·rename_i e' he';obtain rfl:=Option.some.inj hse;exact he'
  ·cases hse
 have hvs:=hxx s (by simp [Op.operands,Call.operands])
 have hvx:=hxx x (by simp [Op.operands,Call.operands])
 obtain ⟨vs,_,hvsr,hsrc⟩:=hx.spec hvx
 have hv0:vs=[]:=List.eq_nil_of_length_eq_zero (by rw [← hvsr.1];rfl)
 subst hv0
 obtain ⟨a,n,cap,he,hnc⟩:∃ a n cap,ev s=.slice a n cap∧n≤cap:=by
  rcases hs with ⟨so,len,hs⟩ | hs
  ·rw [hs] at hvs
   generalize ev s=u at hvs
   cases hvs with
   |msl _ _ _ _ b cap n e hb hlen hs hn=>exact ⟨_,_,_,rfl,hlen⟩
  ·rw [hs] at hvs
   exact ⟨none,0,0,hvs.litInv,Nat.le_refl _⟩
 refine ay_ (s:=Builtin.append_ #[t,tx] ty #[ev s,ev x]) (by simp [execOp,resolve,invoke,builtin]) ⟨ev s,κ.w,?_,κ,α s,σ,rfl,.refl κ,hI,hvs,hk⟩
 rw [he]
 exact bW_ hts hi hisz hsrc a n cap hnc
def CBp (σ0 σ:Store) (sz:Nat) (l:List AVal) (a:AVal):Prop:=(a=.lit (.slice none 0 0)∧l=[]∧σ=σ0)∨∃ o,σ0.heap o=none∧a=.msl o sz 0 l.length∧σ=σ0.set o (.cells (flat l))
theorem CBp.sub {σ0 σ:Store} {sz:Nat} {l:List AVal} {a:AVal} (h:CBp σ0 σ sz l a):σ0.Sub σ:=by
 rcases h with ⟨_,_,rfl⟩ | ⟨o,ho,_,rfl⟩
 ·exact .refl _
 ·exact ⟨fun i x hx=>by rw [Store.set_ne _ _ (fun hh=>by rw [hh,ho] at hx;cases hx)];exact hx,fun _ _ h=>h⟩
theorem lI_ {σ0:Store} {o o':Nat} {x y:AObj} (ho:σ0.heap o=none):((σ0.set o x).delO (some o)).set o' y=σ0.set o' y:=by
 show ((σ0.set o x).del o).set o' y=_
 rw [Store.set_del ho]
theorem bb_ {σ0:Store} {s x:Operand} {t e:TypeId} {sz by_:Nat} {l l2:List AVal} {b:AVal}
  (ho:o.op=.call { callee:=.builtin .append,args:=#[s,x],argTypes:=#[t,t] }) (hse:ad_ P t=some e) (hte:al_ P e=some (sz,by_)) (hb:CBp σ0 σ sz l b) (hs:α s=b) (hsz:∀ y∈l,y.cells.length=sz)
  (hx:slOf (α x)=some (sz,l2)) (hone:∀ y∈l2,∀ c∈y.cells,c.one=true) (hlen:(l.length + l2.length) * by_≤140737488355328)
  (hk:∀ a' σ',CBp σ0 σ' sz (l ++ l2) a'→Kk a' σ'):AOp P o α σ Kk:=by
 subst hs
 have hts:P.underlying t=some (.slice e):=by
  unfold ad_ at hse
  split at hse
  ·rename_i e' he';obtain rfl:=Option.some.inj hse;exact he'
  ·cases hse
 by_cases hne:l2=[]
 ·subst hne
  refine hc_ ho hse hte ?_ (.inl ⟨⟨_,hts⟩,.inl hx,hone⟩) (hk _ _ (by rwa [List.append_nil]))
  rcases hb with ⟨h,_⟩ | ⟨o,_,h,_⟩
  ·exact .inr h
  ·exact .inl ⟨o,_,h⟩
 ·have hfl:=av_ hsz
  rcases hb with ⟨h,rfl,rfl⟩ | ⟨ob,hob,h,rfl⟩
  ·refine AOp_appendM ho hse hte (len:=0) (.inr ⟨h,rfl,rfl,rfl⟩) hx hne hone (by simpa using hlen) fun o' ho'=>hk _ _ (.inr ⟨o',ho',by simp,?_⟩)
   simp [Store.delO]
  ·refine AOp_appendM ho hse hte (.inl ⟨ob,flat l,h,Store.set_get ..,rfl,rfl,by rw [hfl];exact Nat.le_refl _⟩) hx hne hone hlen fun o' ho'=>hk _ _ (.inr ⟨o',?_,by simp,?_⟩)
   ·by_cases hh:o'=ob
    ·rw [hh];exact hob
    ·rwa [Store.set_ne _ _ hh] at ho'
   ·rw [lI_ hob,List.take_of_length_le (by rw [hfl];exact Nat.le_refl _),bU_]
theorem ACalls.wkA {f:FuncId} {args args':List AVal} {Q:AVal→Store→Prop} (h:ACalls P f args' σ Q) (hn:args.length=args'.length) (hw:∀ i (hi:i < args.length) (hi':i < args'.length),Wk args[i] args'[i]):ACalls P f args σ Q :=
 fun κ vs hI hs hv=>h κ vs hI (hs.trans hn) fun i hi=>(hv i (by omega)).wk (hw i (by omega) hi)
end
end Go.Ab
end

section
set_option linter.all false
namespace Go.Ab
open Go.RowKit (Below)
section
variable {P:Program} {o:Oper} {α:Operand→AVal} {σ:Store} {Kk:AVal→Store→Prop}
theorem Store.set_same {o:Nat} {x:AObj} (h:σ.heap o=some x):σ.set o x=σ:=by
 unfold Store.set
 have:(fun k=>if k=o then some x else σ.heap k)=σ.heap:=by
  funext k
  split
  ·rename_i hk;subst hk;exact h.symm
  ·rfl
 rw [this]
theorem AOp_clear {x:Operand} {t e:TypeId} {so sz off len:Nat} {z:Value} {cs:List AVal} (ho:o.op=.call { callee:=.builtin .clear,args:=#[x],argTypes:=#[t] }) (hse:ad_ P t=some e) (hz:a4_ P e=some z)
  (hzs:z.cells.size=sz) (hzo:∀ j,j < z.cells.size→(AVal.lit z.cells[j]!).one=true) (hx:α x=.msl so sz off len) (hh:σ.heap so=some (.cells cs)) (hle:off + len * sz≤cs.length)
  (hk:∀ zs:List AVal,zs.length=len * sz→Kk (.tup []) (σ.set so (.cells (aput cs off zs)))):AOp P o α σ Kk:=by
 obtain ⟨dst,op,ty,pos,after,guard⟩:=o
 obtain rfl:op=_:=ho
 intro κ ev hI hxx
 have hts:P.underlying t=some (.slice e):=by
  unfold ad_ at hse
  split at hse
  ·rename_i e' he';obtain rfl:=Option.some.inj hse;exact he'
  ·cases hse
 have hv:=hxx x (by simp [Op.operands,Call.operands])
 rw [hx] at hv
 obtain ⟨b,cap,hev,hb⟩:∃ b cap,ev x=.slice (some ⟨b,off,none⟩) len cap∧κ.ρ so=some b:=by
  generalize ev x=u at hv
  cases hv with
  |msl _ _ _ _ b cap n el hb hlc hsh hcap=>exact ⟨b,cap,rfl,hb⟩
 have hnil:∀ κ':K,Rv κ' (.tup []) (.tuple #[]):=fun κ'=>.tup [] #[] rfl (fun i hi=>by simp at hi)
 by_cases h0:len=0
 ·subst h0
  refine ay_ (s:=Builtin.clear_ #[t] ty #[ev x]) (by simp [execOp,resolve,invoke,builtin]) ⟨.tuple #[],κ.w,?_,κ,.tup [],σ,rfl,.refl κ,hI,hnil κ,?_⟩
  ·rw [hev];simp [Builtin.clear_,run_underlying hts]
  ·have:=hk [] (by simp)
   rw [hZ_ _ _ (by omega),Store.set_same hh] at this
   exact this
 ·have hzl:(Builtin.zeroCells z.cells len).size=len * z.cells.size:=by simp [Builtin.zeroCells]
  obtain ⟨w',h1,h2,h3⟩:=a8_ (P:=P) (b:=b) (off:=off) (i:=so) ((Builtin.zeroCells z.cells len).toList.map .lit) (Builtin.zeroCells z.cells len).toList 0 κ σ cs hI hh hb (by simp) (fun k hk hk'=>by
   rw [List.getElem_map];exact .lit _) (fun a ha=>by
   obtain ⟨c,hc,rfl⟩:=List.mem_map.1 ha
   rw [Array.mem_toList_iff] at hc
   obtain ⟨k,hk,rfl⟩:=Array.mem_iff_getElem.1 hc
   rw [hzl] at hk
   have hpos:0 < z.cells.size:=by rcases Nat.eq_zero_or_pos z.cells.size with h | h;rw [h] at hk;simp at hk;exact h
   have:(Builtin.zeroCells z.cells len)[k]'(by rw [hzl];exact hk)=z.cells[k % z.cells.size]!:=by simp [Builtin.zeroCells]
   rw [this]
   exact hzo _ (Nat.mod_lt _ hpos)) (by simp [hzl,hzs];omega)
  refine ay_ (s:=Builtin.clear_ #[t] ty #[ev x]) (by simp [execOp,resolve,invoke,builtin]) ⟨.tuple #[],w',?_,{ κ with w:=w' },.tup [],_,rfl,h2,h3,hnil _,?_⟩
  ·rw [hev]
   obtain ⟨m,rfl⟩:=Nat.exists_eq_succ_of_ne_zero h0
   simp only [Builtin.clear_,Sem.run_bind,List.getElem?_toArray,List.getElem?_cons_zero,Sem.run_pure,Result.andThen_ok,run_underlying hts,az_ hz]
   simp only [Nat.succ_eq_add_one] at h1
   simp [h1]
  ·rw [Nat.add_zero]
   exact hk _ (by simp [hzl,hzs])
end
end Go.Ab
end

section
set_option linter.all false
namespace Go.Ab
open Go.RowKit (Below)
section
variable {P:Program} {o:Oper} {α:Operand→AVal} {σ:Store} {Kk:AVal→Store→Prop}
theorem hA_ {κ:K} {so sz off len cap:Nat} {e:TypeId} {v:Value} (h:Rv κ (.mslc so sz off len cap e) v):∃ b,v=.slice (some ⟨b,off,none⟩) len cap∧κ.ρ so=some b∧len≤cap∧κ.w.shape? b=some (e,off + cap * sz)∧cap≤maxLen:=by
 cases h with
 |mslc _ _ _ _ _ _ b n hb hlen hs hn=>obtain ⟨rfl,hcm⟩:=hn;exact ⟨b,rfl,hb,hlen,hs,hcm⟩
theorem dx_ {t e:TypeId} (hse:ad_ P t=some e):P.underlying t=some (.slice e):=by
 unfold ad_ at hse
 split at hse
 ·rename_i e' he';obtain rfl:=Option.some.inj hse;exact he'
 ·cases hse
theorem i4_ {κ:K} {t e:TypeId} {ti:TypeInfo} (ht:P.underlying t=some (.slice e)) (hti:P.info? e=some ti) {lo hi:Option Operand} {ev:Operand→Value} {b off len cap l h:Nat} (hf:∀ y,(lo=some y∨hi=some y)→Rv κ (α y) (ev y)) (hl:alow (lo.map α)=some l) (hh:eu_ len (hi.map α)=some h) (h1:l≤h) (h2:h≤cap) :
  (Instr.sliceAt t (.slice (some ⟨b,off,none⟩) len cap) (lo.map ev) (hi.map ev) none).run P κ.w=.ok (.slice (if cap=l then some ⟨b,off,none⟩ else some ⟨b,off + l * ti.size,none⟩) (h - l) (cap - l)) κ.w:=by
 unfold Instr.sliceAt Instr.slice
 simp only [Sem.run_bind,run_underlying ht,Result.andThen_ok]
 rw [aP_ (α:=α) hf hl hh h1 h2]
 simp only [Result.andThen_ok,ar_ hti,Sem.run_pure,Option.map_some,a6_]
theorem iJ_ {x:Operand} {t e e':TypeId} {lo hi:Option Operand} {so sz by_ off len cap l h:Nat} (ho:o.op=.slice t x lo hi none) (hse:ad_ P t=some e) (hte:al_ P e=some (sz,by_)) (hx:α x=.mslc so sz off len cap e') (hl:alow (lo.map α)=some l) (hh:eu_ len (hi.map α)=some h) (h1:l≤h) (h2:h≤cap) (h0:l=0∨l < cap) (hk:Kk (.mslc so sz (off + l * sz) (h - l) (cap - l) e') σ):AOp P o α σ Kk:=by
 obtain ⟨dst,op,ty,pos,after,guard⟩:=o
 obtain rfl:op=_:=ho
 intro κ ev hI hxx
 have hv:=hxx x (by simp [Op.operands])
 rw [hx] at hv
 obtain ⟨b,hev,hb,hlc,hs,hcm⟩:=hA_ hv
 obtain ⟨i,z,hi',_,hsz,_⟩:=aB_ hte
 have hr:=i4_ (P:=P) (α:=α) (κ:=κ) (ev:=ev) (b:=b) (off:=off) (dx_ hse) hi' (fun y hy=>hxx y (by simp only [Op.operands];rcases hy with rfl | rfl <;> simp)) hl hh h1 h2
 have hif:(if cap=l then some (⟨b,off,none⟩:Addr) else some ⟨b,off + l * i.size,none⟩)=some ⟨b,off + l * sz,none⟩:=by
  rw [hsz]
  split
  ·rename_i hcl
   rcases h0 with h0 | h0
   ·subst h0;simp
   ·omega
  ·rfl
 rw [hif] at hr
 refine ay_ (s:=Instr.sliceAt t (ev x) (lo.map ev) (hi.map ev) (none.map ev)) rfl ⟨_,κ.w,by rw [hev];exact hr,κ,.mslc so sz (off + l * sz) (h - l) (cap - l) e',σ,rfl,.refl κ,hI,.mslc so sz _ _ _ e' b _ hb (by omega) hs ⟨?_,by omega⟩,hk⟩
 rw [Nat.add_assoc,← Nat.add_mul,show l + (cap - l)=cap by omega]
theorem jb_ {x y:Operand} {t t2 e e':TypeId} {d sz by_ off cap:Nat} (ho:o.op=.call { callee:=.builtin .copy,args:=#[x,y],argTypes:=#[t,t2] }) (hse:ad_ P t=some e) (hte:al_ P e=some (sz,by_)) (hx:(∃ k,α x=.own k sz [])∨α x=.mslc d sz off 0 cap e') (hy:α y=.lit (.slice none 0 0)) (hk:Kk (.lit (.int .i64 0)) σ):AOp P o α σ Kk:=by
 obtain ⟨dst,op,ty,pos,after,guard⟩:=o
 obtain rfl:op=_:=ho
 intro κ ev hI hxx
 obtain ⟨i,z,hi,hz,hisz,hiby,hzs,hsz,hby⟩:=aB_ hte
 have hts:=dx_ hse
 have hvx:=hxx x (by simp [Op.operands,Call.operands])
 have hvy:=hxx y (by simp [Op.operands,Call.operands])
 rw [hy] at hvy
 obtain ⟨a,c,hev⟩:∃ a c,ev x=.slice a 0 c:=by
  rcases hx with ⟨k,hx⟩ | hx
  ·rw [hx] at hvx
   obtain ⟨a,cap,us2,hev2,_⟩:=cs_ (hvx.wk (.own1 _ _ _))
   exact ⟨a,cap,hev2⟩
  ·rw [hx] at hvx
   obtain ⟨b,hev,_⟩:=hA_ hvx
   exact ⟨_,_,hev⟩
 have hl:∀ (q:Addr),(loadCells q 0).run P κ.w=.ok #[] κ.w:=fun q=>by simpa using run_loadCells_list (P:=P) κ.w q [] (by simp)
 refine ay_ (s:=Builtin.copy_ #[t,t2] ty #[ev x,ev y]) (by simp [execOp,resolve,invoke,builtin]) ⟨.int .i64 0,κ.w,?_,κ,.lit (.int .i64 0),σ,rfl,.refl κ,hI,.lit _,hk⟩
 rw [hev,hvy.litInv]
 cases a <;> simp [Builtin.copy_,run_underlying hts,Builtin.lenOf,Builtin.firstCells,ar_ hi,storeCells,hl,goInt]
theorem ff_ {f:FuncId} {x:Operand} {ts ps:Array TypeId} {t e:TypeId} {n:Nat} (ho:o.op=.call { callee:=.value (.func f),args:=#[x],argTypes:=ts }) (he:bL_ P f=some (Extern.BytealgMakeNoZero.makeNoZero ps #[t])) (ht:P.underlying t=some (.slice e)) (hf:α (.func f)=.lit (.func (.func f) #[] #[]))
  (hx:α x=.lit (.int .i64 (n:Int))) (hn:n≤1099511627776) (hk:∀ o' c,σ.heap o'=none→n≤c→c≤maxLen→Kk (.mslc o' 1 0 n c e) (σ.set o' (.cells []))):AOp P o α σ Kk:=by
 obtain ⟨dst',op,ty,pos,after,guard⟩:=o
 obtain rfl:op=_:=ho
 intro κ ev hI hxx
 have hfv:Rv κ (α (.func f)) (ev (.func f)):=hxx (.func f) (by simp [Op.operands,Call.operands])
 rw [hf] at hfv
 have hvx:=hxx x (by simp [Op.operands,Call.operands])
 rw [hx] at hvx
 obtain ⟨cs,hrun,hc1,hc2⟩:=Lib.run_makeNoZero (P:=P) κ.w ps t e ht n (by omega)
 have hmx:n≤maxLen:=by simp only [maxLen];omega
 have hd:=hI.drew
 have hd2:=hd.2.drew
 obtain ⟨o',ho',hfr⟩:=hI.fresh
 obtain ⟨κ',hw,hle,hρ,hI'⟩:=hd2.2.alloc o' ho' (.cells []) (.cells cs e) fun κ' hle hh _=>⟨_,e,hh,Nat.zero_le _,fun j hj=>absurd hj (by simp)⟩
 have hheap:κ'.w.heap[κ.w.heap.size]?=some (.cells cs e (0,0)):=by rw [hw];exact Go.heap_alloc_new κ.w.drew.drew _
 have hr:(execOp ev ⟨dst',.call { callee:=.value (.func f),args:=#[x],argTypes:=ts },ty,pos,after,guard⟩).run P κ.w=.ok (.value (.slice (some ⟨κ.w.heap.size,0,none⟩) n cs.size)) (κ.w.drew.drew.alloc (.cells cs e)):=by
  simp only [execOp,resolve,Sem.run_bind,hfv.litInv,Deferred.ofValue,Sem.run_pure,Result.andThen_ok,invoke]
  rw [fH_ he]
  simp [hvx.litInv,hrun]
 rw [hr]
 exact ⟨κ',.mslc o' 1 0 n cs.size e,_,hw,hd.1.trans (hd2.1.trans hle),hI',.mslc o' 1 0 n cs.size e κ.w.heap.size _ hρ hc1 (by unfold World.shape?;rw [hheap]) (by omega),hk o' cs.size hfr hc1 (hc2 hmx)⟩
theorem lq_ {x:Operand} {e:TypeId} {so sz cap:Nat} {cs:List AVal} (ho:o.op=.assign x∨o.op=.move x) (hx:α x=.mslc so sz 0 0 cap e) (hh:σ.heap so=some (.cells cs)) (hc:cap≤maxLen) (hk:∀ t',σ.tok t'=none→Kk (.own t' sz []) ((σ.del so).newTok none t' (e,sz))):AOp P o α σ Kk:=by
 intro κ ev hI hxx
 have hv:=hxx x (by rcases ho with ho | ho <;> (rw [ho];simp [Op.operands]))
 rw [hx] at hv
 have he:(execOp ev o).run P κ.w=.ok (.value (ev x)) κ.w:=by
  obtain ⟨dst,op,ty,pos,after,guard⟩:=o
  rcases ho with ho | ho <;> (obtain rfl:op=_:=ho;simp [execOp])
 rw [he]
 obtain ⟨b,hev,hb,_,hs,hcm⟩:=hA_ hv
 obtain ⟨b',hb',hbase,hIb,c,e2,hheap,hl,hR⟩:=hI.heap so _ hh
 rw [hb] at hb'
 obtain rfl:=Option.some.inj hb'
 have hce:e2=e∧c.size=cap * sz:=by
  unfold World.shape? at hs
  rw [hheap] at hs
  simp only [Option.some.injEq,Prod.mk.injEq] at hs
  exact ⟨hs.1,by omega⟩
 obtain ⟨rfl,hcz⟩:=hce
 obtain ⟨t',ht',htok'⟩:=hI.freshTok
 obtain ⟨κ',hκ⟩:∃ κ':K,κ'={ κ with τ:=fun i=>if i=t' then some (ev x) else κ.τ i }:=⟨_,rfl⟩
 have hle:κ.Le κ':=by
  rw [hκ]
  refine ⟨rfl,Below.refl _ _,fun _ _ h=>h,fun _ _ h=>h,fun t v h=>?_,fun _=>Nat.le_refl _,fun _ _ _ _ h=>h,Nat.le_refl _,fun _ _=>rfl⟩
  show (if t=t' then _ else _)=_
  rw [if_neg (fun hh'=>by rw [hh',ht'] at h;cases h)]
  exact h
 have hw:κ'.w=κ.w:=by rw [hκ]
 have hτ:κ'.τ t'=some (ev x):=by rw [hκ];simp
 have hτo:∀ t,t≠t'→κ'.τ t=κ.τ t:=fun t ht=>by rw [hκ];simp [ht]
 have hρ:κ'.ρ=κ.ρ:=by rw [hκ]
 have hII:κ'.I=κ.I:=by rw [hκ]
 have hb0:κ'.base=κ.base:=by rw [hκ]
 have htb:an_ (ev x)=some b:=by rw [hev];rfl
 have hold:∀ i y,(σ.del so).heap i=some y→i≠so∧σ.heap i=some y:=fun i y hy=>by
  by_cases hi:i=so
  ·rw [hi,Store.del_get] at hy;cases hy
  ·rw [Store.del_ne _ hi] at hy;exact ⟨hi,hy⟩
 have htk:∀ t q,((σ.del so).newTok none t' (e2,sz)).tok t=some q→(t=t'∧q=(e2,sz))∨(t≠t'∧σ.tok t=some q):=fun t q hq=>by
  simp only [Store.newTok] at hq
  by_cases ht:t=t'
  ·rw [if_pos ht] at hq;exact .inl ⟨ht,(Option.some.inj hq).symm⟩
  ·rw [if_neg ht] at hq;simp at hq;exact .inr ⟨ht,hq⟩
 have htok1:db_ κ' (e2,sz) (ev x):=by
  refine ⟨0,[],⟨by simp,.inr ⟨b,cap,c,(0,0),hev,by rw [hb0];exact hbase,by rw [hw];exact hheap,.inl rfl,Nat.zero_le _,hc,hcz,by simp⟩⟩,fun q hq=>?_⟩
  rw [htb] at hq
  obtain rfl:=Option.some.inj hq
  rw [hII,hIb];simp
 have hI':Inv κ' ((σ.del so).newTok none t' (e2,sz)):=by
  refine ⟨hI.glob.le hle,by rw [hb0,hw];exact hI.base,fun i y hy=>?_,fun i i' y y' k hy hy'=>?_,fun t q hq=>?_,fun t u q q' v v' k hq hq' hv1 hv2 hk1 hk2=>?_,fun t q v k i y hq hv1 hk1 hy=>?_,by rw [hρ];exact hI.frO,?_,fun k hk=>by rw [hII];exact hI.frI k (by rw [← hw];exact hk)⟩
  ·obtain ⟨_,hy'⟩:=hold i y hy
   obtain ⟨k,hk,hkb,hkI,hR'⟩:=hI.heap i y hy'
   exact ⟨k,by rw [hρ];exact hk,by rw [hb0];exact hkb,by rw [hII];exact hkI,hR'.mono hle (by rw [hw])⟩
  ·rw [hρ];exact hI.inj i i' y y' k (hold i y hy).2 (hold i' y' hy').2
  ·rcases htk t q hq with ⟨rfl,rfl⟩ | ⟨ht,hq⟩
   ·exact ⟨_,hτ,htok1⟩
   ·obtain ⟨v,hv1,hok⟩:=hI.tok t q hq
    exact ⟨v,by rw [hτo t ht];exact hv1,hok.mono hle fun k _=>⟨by rw [hw],by rw [hII]⟩⟩
  ·rcases htk t q hq with ⟨rfl,rfl⟩ | ⟨ht,hq0⟩
   ·rcases htk u q' hq' with ⟨rfl,rfl⟩ | ⟨hu,hq1⟩
    ·rfl
    ·exfalso
     rw [hτ] at hv1
     obtain rfl:=Option.some.inj hv1
     rw [htb] at hk1
     obtain rfl:=Option.some.inj hk1
     rw [hτo u hu] at hv2
     exact hI.tokobj u q' v' b so _ hq1 hv2 hk2 hh hb
   ·rcases htk u q' hq' with ⟨rfl,rfl⟩ | ⟨hu,hq1⟩
    ·exfalso
     rw [hτ] at hv2
     obtain rfl:=Option.some.inj hv2
     rw [htb] at hk2
     obtain rfl:=Option.some.inj hk2
     rw [hτo t ht] at hv1
     exact hI.tokobj t q v b so _ hq0 hv1 hk1 hh hb
    ·rw [hτo t ht] at hv1
     rw [hτo u hu] at hv2
     exact hI.tokinj t u q q' v v' k hq0 hq1 hv1 hv2 hk1 hk2
  ·obtain ⟨hi,hy'⟩:=hold i y hy
   rw [hρ]
   rcases htk t q hq with ⟨rfl,rfl⟩ | ⟨ht,hq⟩
   ·rw [hτ] at hv1
    obtain rfl:=Option.some.inj hv1
    rw [htb] at hk1
    obtain rfl:=Option.some.inj hk1
    intro hib
    exact hi (hI.inj i so y _ b hy' hh hib hb)
   ·rw [hτo t ht] at hv1
    exact hI.tokobj t q v k i y hq hv1 hk1 hy'
  ·obtain ⟨N,hN⟩:=hI.frT
   refine ⟨N + t' + 1,fun t ht=>?_⟩
   rw [hτo t (by omega)]
   exact hN t (by omega)
 refine ⟨κ',.own t' sz [],_,hw,hle,hI',.own t' sz [] _ ?_ hτ,hk t' htok'⟩
 rw [hev]
 exact .sl sz [] false b 0 cap (fun _=>undef) (Nat.zero_le _) (by simp) (by simp) (fun k hk=>absurd hk (by simp [flat])) (fun k hk=>absurd hk (by simp [flat]))
end
end Go.Ab
end

section
set_option linter.all false
namespace Go.Ab
section
variable {P:Program} {ops:Array Oper} {s0:Store} {Kk:Env→Store→Prop} {o:Oper} {i:Nat} {r:DT} {e:Env} {σ:Store}
end
end Go.Ab
end

section
set_option linter.all false
namespace Go.Ab
section
variable {S S0 σ:Store} {o i:Nat} {x y z:AObj}
end
end Go.Ab
end

section
set_option linter.all false
namespace Go.Ab
open Go.RowKit (Below)
open Go.ChangeShapes Go.WideShapes
inductive Sh where
 |int (k:IntKind)
 |bool
 |str
 |sl (g:Bool) (e:Sh)
 |unit
 |pair (a b:Sh)
def Sh.size:Sh→Nat
 |.unit=>0
 |.pair a b=>a.size + b.size
 |_=>1
def Sh.ok:Sh→List AVal→Prop
 |.int k,cs=>∃ n,cs=[.lit (.int k n)]∧(Lit.int k n).wf=true
 |.bool,cs=>∃ b,cs=[.lit (.bool b)]
 |.str,cs=>∃ s,cs=[.lit (.string s)]∧s.size≤maxLen
 |.sl g e,cs=>∃ l:List AVal,cs=[.sl e.size l false]∧l.length≤maxLen∧∀ x∈l,∃ c,e.ok c∧(if g then x=.agg c else c=[x])
 |.unit,cs=>cs=[]
 |.pair a b,cs=>∃ c d,cs=c ++ d∧a.ok c∧b.ok d
def Sh.okv (s:Sh) (g:Bool) (a:AVal):Prop:=∃ c,s.ok c∧(if g then a=.agg c else c=[a])
def d9_ (sh:TypeId→Option Sh) (P:Program):List Field→Nat→Option Sh
 |[],_=>some .unit
 |f :: fs,off=>if f.offset=off then match sh f.type with
   |some s=>if s.size=P.cellsOf f.type then (d9_ sh P fs (off + s.size)).map (.pair s) else none
   |none=>none
  else none
def ol_ (s:Sh):Nat→Sh
 |0=>.unit
 |n + 1=>.pair s (ol_ s n)
def cq_ (P:Program):Nat→TypeId→Option Sh
 |0,_=>none
 |d + 1,t=>match P.underlying t with
  |some .bool=>some .bool
  |some (.int k)=>some (.int k)
  |some .string=>some .str
  |some (.slice e)=>match cq_ P d e with
   |some s=>if s.size=P.cellsOf e∧0 < s.size∧(aggB P e=false→s.size=1) then some (.sl (aggB P e) s) else none
   |none=>none
  |some (.struct fs)=>match d9_ (cq_ P d) P fs.toList 0 with
   |some s=>if s.size=P.cellsOf t then some s else none
   |none=>none
  |some (.array n e)=>match cq_ P d e with
   |some s=>if s.size=P.cellsOf e∧P.cellsOf t=n * s.size then some (ol_ s n) else none
   |none=>none
  |_=>none
theorem Sh.ok_length:∀ {s:Sh} {cs:List AVal},s.ok cs→cs.length=s.size
 |.int k,cs,h=>by obtain ⟨n,rfl,_⟩:=h;rfl
 |.bool,cs,h=>by obtain ⟨n,rfl⟩:=h;rfl
 |.str,cs,h=>by obtain ⟨n,rfl,_⟩:=h;rfl
 |.sl g e,cs,h=>by obtain ⟨n,rfl,_⟩:=h;rfl
 |.unit,cs,h=>by obtain rfl:cs=[]:=h;rfl
 |.pair a b,cs,h=>by
  obtain ⟨c,d,rfl,h1,h2⟩:=h
  simp [Sh.size,Sh.ok_length h1,Sh.ok_length h2]
theorem io_ {p:Nat→AVal→Prop}:∀ (n:Nat),(∀ i,i < n→∃ x,p i x)→∃ l:List AVal,l.length=n∧∀ i (hi:i < l.length),p i l[i]
 |0,_=>⟨[],rfl,fun i hi=>by simp at hi⟩
 |n + 1,h=>by
  obtain ⟨l,hl,hp⟩:=io_ n fun i hi=>h i (by omega)
  obtain ⟨x,hx⟩:=h n (by omega)
  refine ⟨l ++ [x],by simp [hl],fun i hi=>?_⟩
  by_cases hlt:i < l.length
  ·rw [List.getElem_append_left hlt];exact hp i hlt
  ·have:i=n:=by simp at hi;omega
   subst this
   rw [List.getElem_append_right (by omega)]
   simpa [hl] using hx
section
variable {H:Type} {enc:TypeId × Value→H} {P:Program} {κ:K} {held:Bool}
theorem cells?_at {w:World} {base:Nat} {a:Addr} {n:Nat} {cs:List Value} (h:w.cells? base a n=some cs):cs.length=n∧∀ i (hi:i < cs.length),w.cell? (a.add i)=some cs[i]:=by
 unfold World.cells? at h
 split at h
 ·have hl:cs.length=n:=by
   have:=mapM_len h
   simpa using this
  refine ⟨hl,fun i hi=>?_⟩
  have:=mapM_at h i (by simpa [hl] using hi) hi
  simpa using this
 ·cases h
where
 mapM_len {α β:Type} {f:α→Option β}:∀ {l:List α} {r:List β},l.mapM f=some r→r.length=l.length
  |[],r,h=>by simp at h;subst h;rfl
  |x :: l,r,h=>by
   rw [List.mapM_cons] at h
   obtain ⟨y,_,h2⟩:=Option.bind_eq_some_iff.1 h
   obtain ⟨ys,h3,h4⟩:=Option.bind_eq_some_iff.1 h2
   obtain rfl:=Option.some.inj h4
   simp [mapM_len h3]
 mapM_at {α β:Type} {f:α→Option β}:∀ {l:List α} {r:List β},l.mapM f=some r→∀ i (hi:i < l.length) (hj:i < r.length),f l[i]=some r[i]
  |[],r,h,i,hi,_=>by simp at hi
  |x :: l,r,h,i,hi,hj=>by
   rw [List.mapM_cons] at h
   obtain ⟨y,h1,h2⟩:=Option.bind_eq_some_iff.1 h
   obtain ⟨ys,h3,h4⟩:=Option.bind_eq_some_iff.1 h2
   obtain rfl:=Option.some.inj h4
   cases i with
   |zero=>simpa using h1
   |succ i=>simpa using mapM_at h3 i (by simpa using hi) (by simpa using hj)
def oN_ (enc:TypeId × Value→H) (P:Program) (κ:K) (held:Bool) (d:Nat):Prop :=
 ∀ (t:TypeId) (s:Sh) (fuel:Nat) (cs:List Value) (x:DataW H × List MemPlace),cq_ P d t=some s→DataW.trod enc P κ.w 0 (fun _=>true) held fuel t cs=some x→∃ av,s.ok av∧RvC κ av cs
theorem e1_ {d:Nat} (ih:oN_ enc P κ held d) {n:Nat} {cs:List Value}:∀ (fs:List Field) (off:Nat) (s:Sh),d9_ (cq_ P d) P fs off=some s→off + s.size≤cs.length →
  (∀ (i:Nat) (f:Field),fs[i]?=some f→∃ y,DataW.trod enc P κ.w 0 (fun _=>true) held n f.type ((cs.drop f.offset).take (P.cellsOf f.type))=some y)→∃ av,s.ok av∧RvC κ av ((cs.drop off).take s.size)
 |[],off,s,hs,_,_=>by
  obtain rfl:=Option.some.inj hs
  exact ⟨[],rfl,by simp [Sh.size],fun i hi=>by simp at hi⟩
 |f :: fs,off,s,hs,hle,hf=>by
  unfold d9_ at hs
  split at hs
  ·rename_i ho
   split at hs
   ·rename_i s1 h1
    split at hs
    ·rename_i hsz
     obtain ⟨s2,h2,rfl⟩:=Option.map_eq_some_iff.1 hs
     simp only [Sh.size] at hle ⊢
     obtain ⟨y,hy⟩:=hf 0 f rfl
     obtain ⟨av,ha1,ha2⟩:=ih f.type s1 n _ y h1 hy
     obtain ⟨bs,hb1,hb2⟩:=e1_ ih fs (off + s1.size) s2 h2 (by omega) fun i g hg=>hf (i + 1) g (by simpa using hg)
     refine ⟨av ++ bs,⟨av,bs,rfl,ha1,hb1⟩,?_⟩
     have e:(cs.drop off).take (s1.size + s2.size)=(cs.drop f.offset).take (P.cellsOf f.type) ++ (cs.drop (off + s1.size)).take s2.size:=by
      rw [List.take_add,ho,← hsz,List.drop_drop]
     rw [e]
     exact ha2.append hb2
    ·cases hs
   ·cases hs
  ·cases hs
theorem it_ {s:Sh} {cs:List Value}:∀ (n off:Nat),(∀ i,i < n→∃ av,s.ok av∧RvC κ av ((cs.drop (off + i * s.size)).take s.size))→∃ av,(ol_ s n).ok av∧RvC κ av ((cs.drop off).take (n * s.size))
 |0,off,_=>⟨[],rfl,by simp,fun i hi=>by simp at hi⟩
 |n + 1,off,h=>by
  obtain ⟨av,ha1,ha2⟩:=h 0 (by omega)
  obtain ⟨bs,hb1,hb2⟩:=it_ n (off + s.size) fun i hi=>by
   have:=h (i + 1) (by omega)
   rwa [show off + (i + 1) * s.size=off + s.size + i * s.size by rw [Nat.succ_mul];omega] at this
  refine ⟨av ++ bs,⟨av,bs,rfl,ha1,hb1⟩,?_⟩
  have e:(cs.drop off).take ((n + 1) * s.size)=(cs.drop (off + 0 * s.size)).take s.size ++ (cs.drop (off + s.size)).take (n * s.size):=by
   rw [show (n + 1) * s.size=s.size + n * s.size by rw [Nat.succ_mul];omega,List.take_add,List.drop_drop];simp
  rw [e]
  exact ha2.append hb2
theorem Sh.ok_one {d:Nat} {t:TypeId} {s:Sh} {av:List AVal} (hs:cq_ P d t=some s) (hg:aggB P t=false) (h:s.ok av):∃ x,av=[x]∧x.cells=[x]:=by
 cases d with
 |zero=>cases hs
 |succ d =>
  unfold cq_ at hs
  split at hs
  ·obtain rfl:=Option.some.inj hs;obtain ⟨b,rfl⟩:=h;exact ⟨_,rfl,rfl⟩
  ·obtain rfl:=Option.some.inj hs;obtain ⟨b,rfl,_⟩:=h;exact ⟨_,rfl,rfl⟩
  ·obtain rfl:=Option.some.inj hs;obtain ⟨b,rfl,_⟩:=h;exact ⟨_,rfl,rfl⟩
  ·split at hs
   ·split at hs
    ·obtain rfl:=Option.some.inj hs;obtain ⟨b,rfl,_⟩:=h;exact ⟨_,rfl,rfl⟩
    ·cases hs
   ·cases hs
  ·rename_i fs ht;simp [aggB,ht] at hg
  ·rename_i fs ht;simp [aggB,ht] at hg
  ·cases hs
theorem rk_ (hI:∀ b off v,κ.w.cell? ⟨b,off,none⟩=some v→off < κ.I b):∀ d,oN_ enc P κ held d
 |0=>fun t s fuel cs x hs _=>by cases hs
 |d + 1=>fun t s fuel cs x hs hx=>by
  have ih:=rk_ hI d
  have hs0:=hs
  unfold cq_ at hs
  split at hs
  ·rename_i ht
   obtain rfl:=Option.some.inj hs
   obtain ⟨b,rfl,_⟩:=DataW.trod_bool ht hx
   exact ⟨_,⟨b,rfl⟩,.one (.lit _)⟩
  ·rename_i k ht
   obtain rfl:=Option.some.inj hs
   obtain ⟨b,rfl,_,hw⟩:=DataW.trod_int ht hx
   exact ⟨_,⟨b,rfl,hw⟩,.one (.lit _)⟩
  ·rename_i ht
   obtain rfl:=Option.some.inj hs
   obtain ⟨b,rfl,_,hw⟩:=DataW.trod_string ht hx
   exact ⟨_,⟨b,rfl,hw⟩,.one (.lit _)⟩
  ·rename_i e ht
   split at hs
   ·rename_i s1 h1
    split at hs
    ·rename_i hc
     obtain ⟨hsz,hpos,hone⟩:=hc
     obtain rfl:=Option.some.inj hs
     rcases DataW.trod_slice ht hx with ⟨rfl,_⟩ | ⟨a,len,cap,elems,rest,n,_,rfl,_,_,hl,hm,hlen,hel,hsp,_⟩
     ·exact ⟨_,⟨[],rfl,by simp,by simp⟩,.one (.slNil _ _)⟩
     ·have each:∀ i,i < cap→∃ cs' y,κ.w.cells? 0 (a.add (i * P.cellsOf e)) (P.cellsOf e)=some cs'∧DataW.trod enc P κ.w 0 (fun _=>true) held n e cs'=some y:=by
       intro i hi
       by_cases hil:i < len
       ·have:=hel i hil
        rw [List.getElem?_eq_getElem (by omega)] at this
        obtain ⟨cs',q1,q2⟩:=Option.bind_eq_some_iff.1 this
        exact ⟨cs',_,q1,q2⟩
       ·obtain ⟨hr,hj⟩:=hsp rfl
        have:=hj (i - len) (by omega)
        rw [show len + (i - len)=i by omega,List.getElem?_eq_getElem (by omega)] at this
        obtain ⟨cs',q1,q2⟩:=Option.bind_eq_some_iff.1 this
        exact ⟨cs',_,q1,q2⟩
      by_cases hcap:cap=0
      ·subst hcap
       obtain rfl:len=0:=by omega
       exact ⟨_,⟨[],rfl,by simp,by simp⟩,.one (.slE _ _ a)⟩
      ·have hspot:a.spot=none:=by
        obtain ⟨cs',y,q1,_⟩:=each 0 (by omega)
        obtain ⟨r1,r2⟩:=cells?_at q1
        have:=r2 0 (by omega)
        rw [Nat.zero_mul] at this
        exact World.cell?_spot (by simpa [Addr.add] using this)
       obtain ⟨b,off,spot⟩:=a
       subst hspot
       have each':∀ i,i < len→∃ x:AVal,x.cells.length=s1.size∧(∃ c,s1.ok c∧(if aggB P e then x=.agg c else c=[x])) ∧
         ∀ j (hj:j < x.cells.length),∃ v,κ.w.cell? ⟨b,off + (i * s1.size + j),none⟩=some v∧Rv κ x.cells[j] v:=by
        intro i hi
        obtain ⟨cs',y,q1,q2⟩:=each i (by omega)
        obtain ⟨r1,r2⟩:=cells?_at q1
        obtain ⟨av,ha,hr⟩:=ih e s1 n cs' y h1 q2
        have hal:=Sh.ok_length ha
        obtain ⟨x,hxc,hxo⟩:∃ x:AVal,x.cells=av∧(∃ c,s1.ok c∧(if aggB P e then x=.agg c else c=[x])):=by
         cases hg:aggB P e with
         |true=>exact ⟨.agg av,rfl,av,ha,by simp⟩
         |false =>
          obtain ⟨x,rfl,hx⟩:=Sh.ok_one h1 hg ha
          exact ⟨x,hx,[x],ha,by simp⟩
        refine ⟨x,by rw [hxc];exact hal,hxo,fun j hj=>?_⟩
        have hj':j < cs'.length:=by rw [← hr.1,← hxc];exact hj
        refine ⟨cs'[j],?_,?_⟩
        ·have:=r2 j hj'
         rw [← hsz] at this
         rw [← this]
         simp only [Addr.add]
         congr 1
         by_cases h0:i * s1.size=0
         ·rw [if_pos h0,h0]
          by_cases hj0:j=0
          ·simp [hj0]
          ·simp [hj0]
         ·rw [if_neg h0]
          by_cases hj0:j=0
          ·simp [hj0]
          ·simp [hj0];omega
        ·have:=hr.2 j (by rw [← hxc];exact hj) hj'
         simp only [hxc]
         exact this
       obtain ⟨l,hll,hlp⟩:=io_ len each'
       have hszl:∀ x∈l,x.cells.length=s1.size:=fun x hx=>by
        obtain ⟨i,hi,rfl⟩:=List.getElem_of_mem hx
        exact (hlp i hi).1
       refine ⟨[.sl s1.size l false],⟨l,rfl,by omega,fun x hx=>?_⟩,.one ?_⟩
       ·obtain ⟨i,hi,rfl⟩:=List.getElem_of_mem hx
        exact (hlp i hi).2.1
       ·have at_:∀ k (hk:k < (flat l).length),∃ v,κ.w.cell? ⟨b,off + k,none⟩=some v∧Rv κ (flat l)[k] v:=by
         intro k hk
         obtain ⟨hi,hj,e1⟩:=hq_ hszl k hk
         obtain ⟨v,hv1,hv2⟩:=(hlp _ hi).2.2 _ hj
         rw [show k / s1.size * s1.size + k % s1.size=k by rw [Nat.mul_comm];exact Nat.div_add_mod k s1.size] at hv1
         exact ⟨v,hv1,by rw [e1];exact hv2⟩
        have:=Rv.sl (κ:=κ) s1.size l false b off cap (fun k=>(κ.w.cell? ⟨b,off + k,none⟩).getD undef) (by omega) (by simp) hszl
         (fun k hk=>by obtain ⟨v,hv1,_⟩:=at_ k hk;exact ⟨hI _ _ _ hv1,by simp [hv1]⟩)
         (fun k hk=>by obtain ⟨v,hv1,hv2⟩:=at_ k hk;simpa [hv1] using hv2)
        rwa [hll] at this
    ·cases hs
   ·cases hs
  ·rename_i fs ht
   split at hs
   ·rename_i s1 h1
    split at hs
    ·rename_i hc
     obtain rfl:=Option.some.inj hs
     obtain ⟨xs,n,_,_,hcl,hxl,hf⟩:=DataW.trod_struct ht hx
     obtain ⟨av,ha,hr⟩:=e1_ (cs:=cs) (n:=n) ih fs.toList 0 s1 h1 (by omega) fun i f hfi=>by
      have hfi':fs[i]?=some f:=by simpa using hfi
      have:=hf i f hfi'
      have hlt:i < xs.length:=by rw [hxl];exact (Array.getElem?_eq_some_iff.1 hfi').1
      rw [List.getElem?_eq_getElem hlt] at this
      exact ⟨_,this⟩
     refine ⟨av,ha,?_⟩
     rw [List.drop_zero,List.take_of_length_le (by omega)] at hr
     exact hr
    ·cases hs
   ·cases hs
  ·rename_i n e ht
   split at hs
   ·rename_i s1 h1
    split at hs
    ·rename_i hc
     obtain rfl:=Option.some.inj hs
     obtain ⟨xs,m,_,_,hcl,hxl,hf⟩:=DataW.trod_array ht hx
     obtain ⟨av,ha,hr⟩:=it_ (κ:=κ) (s:=s1) (cs:=cs) n 0 fun i hi=>by
      have:=hf i hi
      rw [List.getElem?_eq_getElem (by omega),← hc.1] at this
      rw [Nat.zero_add]
      exact ih e s1 m _ _ h1 this
     refine ⟨av,ha,?_⟩
     rw [List.drop_zero,List.take_of_length_le (by rw [hcl,hc.2];omega)] at hr
     exact hr
    ·cases hs
   ·cases hs
  ·cases hs
theorem f8_ (hI:∀ b off v,κ.w.cell? ⟨b,off,none⟩=some v→off < κ.I b) {d base:Nat} {r:Reach} {W:World} {t:TypeId} {s:Sh} {g:Bool} {v:Value} {x:DataW H} {ps:List MemPlace} (hs:cq_ P d t=some s) (hg:aggB P t=g)
  (hval:Value.okWide P W r base t v) (h:DataW.Trod enc P κ.w 0 (fun _=>true) held t v x ps):∃ a,Rv κ a v∧s.okv g a:=by
 subst hg
 obtain ⟨fuel,hf⟩:=h
 obtain ⟨av,ha,hr⟩:=rk_ hI d t s fuel _ _ hs hf
 cases hg:aggB P t with
 |true =>
  have:∃ cs,v=.agg cs:=by
   unfold Value.okWide at hval
   unfold aggB at hg
   split at hval <;> simp_all
   ·obtain ⟨cs,rfl,_⟩:=hval;exact ⟨cs,rfl⟩
   ·obtain ⟨cs,rfl,_⟩:=hval;exact ⟨cs,rfl⟩
  obtain ⟨cs,rfl⟩:=this
  refine ⟨.agg av,.agg av cs ?_ fun i hi=>?_,av,ha,by simp⟩
  ·have:=hr.1;simpa [Value.cells] using this.symm
  ·have hl:av.length=cs.size:=by have:=hr.1;simpa [Value.cells] using this
   have:=hr.2 i hi (by simp [Value.cells];omega)
   simpa [Value.cells,show i < cs.size by omega] using this
 |false =>
  obtain ⟨x,rfl,hx⟩:=Sh.ok_one hs hg ha
  have hv:v.cells=#[v]:=by
   unfold Value.okWide at hval
   unfold aggB at hg
   split at hval
   ·simp_all
   ·simp_all
   ·unfold Cell.okWide at hval
    split at hval <;> first | rfl | skip
    unfold Cell.ok at hval
    split at hval <;> first | rfl | exact hval.elim
  refine ⟨x,?_,[x],ha,by simp⟩
  have:=hr.2 0 (by simp) (by rw [hv];simp)
  simpa [hv] using this
def kOf (W:World):K:={ w:=W,base:=W.heap.size,ρ:=fun _=>none,τ:=fun _=>none,I:=fun b=>match W.heap[b]? with | some (.cells c _ _)=>c.size | _=>0 }
def s0:Store:={ heap:=fun _=>none,tok:=fun _=>none }
theorem hs_ (W:World):∀ b off v,(kOf W).w.cell? ⟨b,off,none⟩=some v→off < (kOf W).I b:=by
 intro b off v h
 simp only [kOf,World.cell?] at *
 cases hb:W.heap[b]? with
 |none=>simp [hb] at h
 |some o =>
  rw [hb] at h
  cases o <;> simp_all
  have:=(Array.getElem?_eq_some_iff.1 h).1
  omega
theorem nT_ (W:World) (hG:Glob W W.heap.size):Inv (kOf W) s0 where
 glob:=hG
 base:=Nat.le_refl _
 heap o x e:=by cases e
 inj o o' x x' b e:=by cases e
 tok t sz e:=by cases e
 tokinj t t' sz sz' v v' b e:=by cases e
 tokobj t sz v b o x e:=by cases e
 frO:=⟨0,fun _ _=>rfl⟩
 frT:=⟨0,fun _ _=>rfl⟩
 frI b hb:=by
  have hb':W.heap.size≤b:=hb
  simp [kOf,Array.getElem?_eq_none hb']
theorem gx_ {f:FuncId} {av:List AVal} {vs:Array Value} {W:World} (h:ACalls P f av s0 fun v _=>v=rB_ true) (hn:vs.size=av.length) (hr:∀ i (hi:i < av.length),Rv (kOf W) av[i] (vs.getD i undef))
  (hG:Glob W W.heap.size:=by intro p hp;cases hp):Calls P f vs W (fun e w'=>e=.returned (.bool true)∧Below W.heap.size W w'):=by
 have:=h (kOf W) vs (nT_ W hG) hn hr
 refine this.mono fun e w' ⟨cv,he,κ',a,σ',hw,hle,_,hv,ha⟩=>?_
 subst ha
 obtain rfl:=hv.litInv
 subst hw
 exact ⟨he,hle.below⟩
end
end Go.Ab
end
