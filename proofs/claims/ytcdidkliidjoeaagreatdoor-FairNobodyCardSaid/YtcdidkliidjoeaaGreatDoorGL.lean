/-
  RECKONING made for the kernel: numbers that are not below zero,by the kernel's own numbers;all else by the layer's word; AN INTERPRETER over the layer's values,made for the kernel: closed constants,recursors,continuations; The interpreter's operations are sound; Rows that are not written any more,and values freed of names at the end of a call; A call that is given nothing with a name: what it makes is laid beside what is there; Is what was there still there: heaps compared. Own work (an AI agent).
-/
import Derived.Test.YtcdidkliidjoeaaGreatDoorGI
import Derived.Test.YtcdidkliidjoeaaGreatDoorGC

section
set_option linter.all false
set_option maxRecDepth 100000
namespace Go.Nb
open Go.Ab Go.RowKit
noncomputable section
inductive Ev where
 |nil
 |cons (k:Nat) (v:AVal) (r:Ev)
inductive Hp where
 |nil
 |node (l r:Hp) (v:Option AObj)
inductive Tk where
 |nil
 |cons (k:Nat) (e sz:Nat) (r:Tk)
inductive Ex where
 |nor
 |exit (b:Nat)
 |ret
inductive Res where
 |bad (n:Nat)
 |ok (v:AVal) (h:Hp) (t:Tk) (n:Nat)
def e6_ (x:Nat) (f:Nat→Option Value):Option Value:=Nat.rec (motive:=fun _=>Option Value) (f 0) (fun m _=>f (Nat.succ m)) x
theorem dz_ (x:Nat) (f:Nat→Option Value):e6_ x f=f x:=by cases x <;> rfl
def vI:Value→(IntKind→Int→Res)→Res→Res :=
 @Value.rec (fun _=>(IntKind→Int→Res)→Res→Res) (fun _=>Unit) (fun _=>Unit) (fun _ _ g=>g) (fun k n f _=>f k n) (fun _ _ _ g=>g) (fun _ _ _ _ g=>g) (fun _ _ g=>g) (fun _ _ g=>g) (fun _ _ _ _ g=>g) (fun _ _ g=>g) (fun _ _ g=>g) (fun _ _ _ _ _ _ g=>g) (fun _ g=>g) (fun _ _ _ _ g=>g) (fun _ g=>g) (fun _ _ _ g=>g) (fun _ _ _ g=>g) (fun _ _=>()) () (fun _ _ _ _=>())
def aL:AVal→(Value→Res)→Res→Res :=
 @AVal.rec (fun _=>(Value→Res)→Res→Res) (fun _=>Unit) (fun _ g=>g) (fun v f _=>f v) (fun _ _ _ g=>g) (fun _ _ _ g=>g) (fun _ _ _ _ _ g=>g) (fun _ _ _ _ _ g=>g) (fun _ _ _ _ _ g=>g) (fun _ _ _ g=>g) (fun _ _ _ g=>g) (fun _ _ g=>g) (fun _ _ _ _ _ _ g=>g) (fun _ _ _ _ g=>g) (fun _ _ _ _ g=>g) (fun _ _ _ _ g=>g) (fun _ _ _ _ _ _ _ g=>g) () (fun _ _ _ _=>())
def iN:Int→(Nat→Res)→Res→Res:=@Int.rec (fun _=>(Nat→Res)→Res→Res) (fun n f _=>f n) (fun _ _ g=>g)
def aN (a:AVal) (f:IntKind→Nat→Res) (g:Res):Res:=aL a (fun v=>vI v (fun k n=>iN n (fun m=>f k m) g) g) g
theorem so_ (n:Int) (f:Nat→Res) (g:Res):(∃ m:Nat,n=(m:Int)∧iN n f g=f m)∨iN n f g=g:=by
 cases n with
 |ofNat m=>exact .inl ⟨m,rfl,rfl⟩
 |negSucc m=>exact .inr rfl
theorem ni_ (a:AVal) (f:IntKind→Nat→Res) (g:Res):(∃ k,∃ m:Nat,a=.lit (.int k m)∧aN a f g=f k m)∨aN a f g=g:=by
 cases a with
 |lit v =>
  cases v with
  |int k n =>
   rcases so_ n (fun m=>f k m) g with ⟨m,h1,h2⟩ | h
   ·exact .inl ⟨k,m,by rw [h1],h2⟩
   ·exact .inr h
  |_=>exact .inr rfl
 |_=>exact .inr rfl
def aRf:AVal→(Nat→Nat→Res)→Res→Res :=
 @AVal.rec (fun _=>(Nat→Nat→Res)→Res→Res) (fun _=>Unit) (fun _ g=>g) (fun _ _ g=>g) (fun _ _ _ g=>g) (fun _ _ _ g=>g) (fun _ _ _ _ _ g=>g) (fun _ _ _ _ _ g=>g) (fun _ _ _ _ _ g=>g) (fun o off f _=>f o off) (fun _ _ _ g=>g) (fun _ _ g=>g) (fun _ _ _ _ _ _ g=>g) (fun _ _ _ _ g=>g) (fun _ _ _ _ g=>g) (fun _ _ _ _ g=>g) (fun _ _ _ _ _ _ _ g=>g) () (fun _ _ _ _=>())
theorem mD_ (a:AVal) (f:Nat→Nat→Res) (g:Res):(∃ o off,a=.ref o off∧aRf a f g=f o off)∨aRf a f g=g:=by
 cases a with
 |ref o off=>exact .inl ⟨o,off,rfl,rfl⟩
 |_=>exact .inr rfl
def nthK:List AVal→Nat→(AVal→Res)→Res→Res:=@List.rec AVal (fun _=>Nat→(AVal→Res)→Res→Res) (fun _ _ g=>g) (fun a _ ih i f g=>Nat.rec (f a) (fun j _=>ih j f g) i)
theorem kn_ (f:AVal→Res) (g:Res):∀ (cs:List AVal) (i:Nat),nthK cs i f g=match cs[i]? with
  |some a=>f a
  |none=>g
 |[],i=>rfl
 |a :: cs,0=>rfl
 |a :: cs,i + 1=>by rw [List.getElem?_cons_succ];exact kn_ f g cs i
def setK:List AVal→Nat→AVal→(List AVal→Res)→Res→Res:=@List.rec AVal (fun _=>Nat→AVal→(List AVal→Res)→Res→Res) (fun _ _ _ g=>g) (fun a r ih i v f g=>Nat.rec (f (v :: r)) (fun j _=>ih j v (fun l=>f (a :: l)) g) i)
theorem kT_ (v:AVal) (g:Res):∀ (cs:List AVal) (i:Nat) (f:List AVal→Res),(i < cs.length∧setK cs i v f g=f (aput cs i [v]))∨setK cs i v f g=g
 |[],i,f=>.inr rfl
 |a :: cs,0,f=>.inl ⟨Nat.succ_pos _,by unfold aput;rfl⟩
 |a :: cs,i + 1,f=>by
  rcases kT_ v g cs i (fun l=>f (a :: l)) with ⟨h1,h2⟩ | h
  ·refine .inl ⟨Nat.succ_lt_succ h1,(show setK (a :: cs) (i + 1) v f g=f (a :: aput cs i [v]) from h2).trans ?_⟩
   unfold aput
   simp only [List.length_cons,List.length_nil,List.take_succ_cons,List.cons_append,Nat.zero_add]
   rw [show i + 1 + 1=(i + 1) + 1 from rfl,List.drop_succ_cons]
  ·exact .inr h
def bV_:List AVal→(List AVal→Res)→Res:=@List.rec AVal (fun _=>(List AVal→Res)→Res) (fun f=>f []) (fun a _ ih f=>ih fun l=>f (a :: l))
theorem aE_:∀ (cs:List AVal) (f:List AVal→Res),bV_ cs f=f cs
 |[],f=>rfl
 |a :: cs,f=>aE_ cs fun l=>f (a :: l)
def appN:List AVal→List AVal→Nat→(List AVal→Nat→Res)→Res:=@List.rec AVal (fun _=>List AVal→Nat→(List AVal→Nat→Res)→Res) (fun l2 c f=>f l2 c) (fun a _ ih l2 c f=>ih l2 (Nat.add c 1) fun r n=>f (a :: r) n)
theorem jl_ (l2:List AVal):∀ (l:List AVal) (c:Nat) (f:List AVal→Nat→Res),appN l l2 c f=f (l ++ l2) (c + l.length)
 |[],c,f=>rfl
 |a :: l,c,f=>by
  have h:=jl_ l2 l (Nat.add c 1) fun r n=>f (a :: r) n
  have e:Nat.add c 1 + l.length=c + (a :: l).length:=by show c + 1 + l.length=c + (l.length + 1);omega
  rw [e] at h
  exact h
def mr_:List AVal→Nat→(List AVal→Res)→Res→Res:=@List.rec AVal (fun _=>Nat→(List AVal→Res)→Res→Res) (fun n f g=>Nat.rec (f []) (fun _ _=>g) n) (fun a r ih n f g=>Nat.rec (f (a :: r)) (fun m _=>ih m f g) n)
theorem ei_ (f:List AVal→Res) (g:Res):∀ (cs:List AVal) (n:Nat),(n≤cs.length→mr_ cs n f g=f (cs.drop n))∧(cs.length < n→mr_ cs n f g=g)
 |[],0=>⟨fun _=>rfl,fun h=>(by cases h)⟩
 |[],n + 1=>⟨fun h=>(by cases h),fun _=>rfl⟩
 |a :: cs,0=>⟨fun _=>rfl,fun h=>(by cases h)⟩
 |a :: cs,n + 1=>⟨fun h=>(ei_ f g cs n).1 (Nat.le_of_succ_le_succ h),fun h=>(ei_ f g cs n).2 (Nat.lt_of_succ_lt_succ h)⟩
def h7_:List AVal→Nat→(List AVal→Res)→Res→Res:=@List.rec AVal (fun _=>Nat→(List AVal→Res)→Res→Res) (fun n f g=>Nat.rec (f []) (fun _ _=>g) n) (fun a _ ih n f g=>Nat.rec (f []) (fun m _=>ih m (fun l=>f (a :: l)) g) n)
theorem dk_ (g:Res):∀ (cs:List AVal) (n:Nat) (f:List AVal→Res),(n≤cs.length→h7_ cs n f g=f (cs.take n))∧(cs.length < n→h7_ cs n f g=g)
 |[],0,f=>⟨fun _=>rfl,fun h=>(by cases h)⟩
 |[],n + 1,f=>⟨fun h=>(by cases h),fun _=>rfl⟩
 |a :: cs,0,f=>⟨fun _=>rfl,fun h=>(by cases h)⟩
 |a :: cs,n + 1,f=>⟨fun h=>(dk_ g cs n (fun l=>f (a :: l))).1 (Nat.le_of_succ_le_succ h),fun h=>(dk_ g cs n (fun l=>f (a :: l))).2 (Nat.lt_of_succ_lt_succ h)⟩
def gr_ (cs:List AVal) (off size:Nat) (agg:Bool) (f:AVal→Res) (g:Res):Res:=Bool.rec (nthK cs off f g) (mr_ cs off (fun r=>h7_ r size (fun l=>f (.agg l)) g) g) agg
theorem jk_ (cs:List AVal) (off size:Nat) (agg:Bool) (f:AVal→Res) (c:Nat):gr_ cs off size agg f (.bad c)=match apart cs off size agg with
  |some a=>f a
  |none=>.bad c:=by
 cases agg with
 |false=>exact kn_ f _ cs off
 |true =>
  unfold apart
  simp only [if_true]
  show mr_ cs off (fun r=>h7_ r size (fun l=>f (.agg l)) (.bad c)) (.bad c)=_
  by_cases h1:off≤cs.length
  ·rw [(ei_ _ _ cs off).1 h1]
   by_cases h2:off + size≤cs.length
   ·rw [if_pos h2,(dk_ _ (cs.drop off) size _).1 (by rw [List.length_drop];omega)]
   ·rw [if_neg h2,(dk_ _ (cs.drop off) size _).2 (by rw [List.length_drop];omega)]
  ·rw [(ei_ _ _ cs off).2 (by omega),if_neg (by omega)]
def iy_ (cs:List AVal) (off:Nat) (vs:List AVal) (f:List AVal→Res):Res:=match vs with
 |[a]=>setK cs off a f (.bad 7)
 |vs=>Bool.rec (.bad 7) (bV_ (aput cs off vs) f) (Nat.ble (Nat.add off vs.length) cs.length)
def Res.fine:Res→Prop
 |.ok _ _ _ _=>True
 |.bad _=>False
theorem hP_ {cs vs:List AVal} {off:Nat} {f:List AVal→Res} {R:Res} (hR:R.fine) (h:iy_ cs off vs f=R):off + vs.length≤cs.length∧f (aput cs off vs)=R:=by
 unfold iy_ at h
 split at h
 ·rename_i a
  rcases kT_ a (.bad 7) cs off f with ⟨h1,h2⟩ | h1
  ·exact ⟨h1,h2.symm.trans h⟩
  ·rw [h1] at h;subst h;exact hR.elim
 ·cases hb:Nat.ble (Nat.add off vs.length) cs.length with
  |false=>rw [hb] at h;subst h;exact hR.elim
  |true=>rw [hb] at h;exact ⟨Nat.le_of_ble_eq_true hb,(aE_ _ f).symm.trans h⟩
def ey_:Option AObj→(List AVal→Res)→Res→Res:=@Option.rec AObj (fun _=>(List AVal→Res)→Res→Res) (fun _ g=>g) (@AObj.rec (fun _=>(List AVal→Res)→Res→Res) (fun cs f _=>f cs) (fun _ _ g=>g) (fun _ _ g=>g) (fun _ _ _ _ _ g=>g))
theorem gy_ (x:Option AObj) (f:List AVal→Res) (g:Res):(∃ cs,x=some (.cells cs)∧ey_ x f g=f cs)∨ey_ x f g=g:=by
 rcases x with _ | x
 ·exact .inr rfl
 ·cases x with
  |cells cs=>exact .inl ⟨cs,rfl,rfl⟩
  |_=>exact .inr rfl
def lim:IntKind→Nat:=@IntKind.rec (fun _=>Nat) 128 32768 2147483648 9223372036854775808 256 65536 4294967296 18446744073709551616
def wid:IntKind→Nat:=@IntKind.rec (fun _=>Nat) 8 16 32 64 8 16 32 64
def uns:IntKind→Bool:=@IntKind.rec (fun _=>Bool) false false false false true true true true
def kno:IntKind→Nat:=@IntKind.rec (fun _=>Nat) 0 1 2 3 4 5 6 7
theorem nZ_ {a b:IntKind} (h:Nat.beq (kno a) (kno b)=true):a=b:=by cases a <;> cases b <;> first | rfl | cases h
theorem mA_ (k:IntKind) (x:Nat) (h:x < lim k):k.wrap (x:Int)=(x:Int):=by
 cases k <;> simp [IntKind.wrap,IntKind.bits,IntKind.signed,lim] at h ⊢ <;> omega
theorem mB_ (k:IntKind) (x:Nat) (h:uns k=true):k.wrap (x:Int)=((x % lim k:Nat):Int):=by
 cases k <;> simp [uns] at h <;> simp [IntKind.wrap,IntKind.bits,IntKind.signed,lim] <;> omega
theorem iF_ (k:IntKind):wid k=k.bits:=by cases k <;> rfl
def nrm (k:IntKind) (x:Nat) (f:Nat→Option Value) (g:Option Value):Option Value:=Bool.rec (Bool.rec g (e6_ (Nat.mod x (lim k)) f) (uns k)) (e6_ x f) (Nat.ble (Nat.succ x) (lim k))
theorem px_ (k:IntKind) (x:Nat) (f:Nat→Option Value) (g:Option Value):(∃ m:Nat,k.wrap (x:Int)=(m:Int)∧nrm k x f g=f m)∨nrm k x f g=g:=by
 unfold nrm
 cases h:Nat.ble (Nat.succ x) (lim k) with
 |true=>exact .inl ⟨x,mA_ k x (Nat.le_of_ble_eq_true h),dz_ x f⟩
 |false =>
  cases hu:uns k with
  |true=>exact .inl ⟨x % lim k,mB_ k x hu,dz_ _ f⟩
  |false=>exact .inr rfl
def vN (k:IntKind) (m:Nat):Option Value:=some (.int k (.ofNat m))
def vBo (b:Bool):Option Value:=Bool.rec (some (.bool false)) (some (.bool true)) b
theorem fM_ (b:Bool):vBo b=some (.bool b):=by cases b <;> rfl
abbrev Bt:=IntKind→IntKind→Nat→Nat→Option Value→Option Value
def cS_ (k k':IntKind) (r slow:Option Value):Option Value:=Bool.rec slow r (Nat.beq (kno k) (kno k'))
def bAdd:Bt:=fun k k' a b slow=>cS_ k k' (nrm k (Nat.add a b) (vN k) slow) slow
def bSub:Bt:=fun k k' a b slow=>cS_ k k' (Bool.rec slow (nrm k (Nat.sub a b) (vN k) slow) (Nat.ble b a)) slow
def bMul:Bt:=fun k k' a b slow=>cS_ k k' (nrm k (Nat.mul a b) (vN k) slow) slow
def bQuo:Bt:=fun k k' a b slow=>cS_ k k' (Bool.rec (nrm k (Nat.div a b) (vN k) slow) slow (Nat.beq b 0)) slow
def bRem:Bt:=fun k k' a b slow=>cS_ k k' (Bool.rec (e6_ (Nat.mod a b) (vN k)) slow (Nat.beq b 0)) slow
def inK (k:IntKind) (a b:Nat) (r slow:Option Value):Option Value:=Bool.rec slow (Bool.rec slow r (Nat.ble (Nat.succ b) (lim k))) (Nat.ble (Nat.succ a) (lim k))
def bAnd:Bt:=fun k k' a b slow=>cS_ k k' (inK k a b (nrm k (Nat.land a b) (vN k) slow) slow) slow
def bOr:Bt:=fun k k' a b slow=>cS_ k k' (inK k a b (nrm k (Nat.lor a b) (vN k) slow) slow) slow
def bXor:Bt:=fun k k' a b slow=>cS_ k k' (inK k a b (nrm k (Nat.xor a b) (vN k) slow) slow) slow
def bShl:Bt:=fun k _ a b slow=>Bool.rec slow (nrm k (Nat.mul a (Nat.pow 2 b)) (vN k) slow) (Nat.ble b (wid k))
def bShr:Bt:=fun k _ a b slow=>Bool.rec slow (e6_ (Nat.div a (Nat.pow 2 b)) (vN k)) (Nat.ble b (wid k))
def sd_:Bt:=fun _ _ _ _ slow=>slow
def bEql:Bt:=fun k k' a b slow=>cS_ k k' (vBo (Nat.beq a b)) slow
def bNeq:Bt:=fun k k' a b slow=>cS_ k k' (vBo (Bool.rec true false (Nat.beq a b))) slow
def bLss:Bt:=fun k k' a b slow=>cS_ k k' (vBo (Nat.ble (Nat.succ a) b)) slow
def bLeq:Bt:=fun k k' a b slow=>cS_ k k' (vBo (Nat.ble a b)) slow
def bGtr:Bt:=fun k k' a b slow=>cS_ k k' (vBo (Nat.ble (Nat.succ b) a)) slow
def bGeq:Bt:=fun k k' a b slow=>cS_ k k' (vBo (Nat.ble b a)) slow
def bOp:BinOp→Bt:=@BinOp.rec (fun _=>Bt) bAdd bSub bMul bQuo bRem bAnd bOr bXor bShl bShr sd_ bEql bNeq bLss bLeq bGtr bGeq
theorem a9_ {k k':IntKind} {r slow:Option Value} (h:k=k'→r=slow):cS_ k k' r slow=slow:=by
 unfold cS_
 cases hb:Nat.beq (kno k) (kno k') with
 |false=>rfl
 |true=>exact h (nZ_ hb)
theorem jU_ {k:IntKind} {a b:Nat} {r slow:Option Value} (h:a < lim k→b < lim k→r=slow):inK k a b r slow=slow:=by
 unfold inK
 cases ha:Nat.ble (Nat.succ a) (lim k) with
 |false=>rfl
 |true =>
  cases hb:Nat.ble (Nat.succ b) (lim k) with
  |false=>rfl
  |true=>exact h (Nat.le_of_ble_eq_true ha) (Nat.le_of_ble_eq_true hb)
theorem dp_ {k:IntKind} {x:Nat} {slow:Option Value} (h:slow=some (.int k (k.wrap (x:Int)))):nrm k x (vN k) slow=slow:=by
 rcases px_ k x (vN k) slow with ⟨m,h1,h2⟩ | h2
 ·rw [h2,h,h1];rfl
 ·exact h2
theorem pr_ (k:IntKind):lim k≤2 ^ k.bits:=by cases k <;> decide
theorem cL_ (k:IntKind) (a:Nat) (h:a < lim k):(BitVec.ofInt k.bits (a:Int)).toNat=a:=by
 rw [BitVec.ofInt_natCast,BitVec.toNat_ofNat]
 exact Nat.mod_eq_of_lt (Nat.lt_of_lt_of_le h (pr_ k))
theorem js_ (x y : Nat) : Nat.beq x y = decide ((x : Int) = (y : Int)) := by
  rw [Bool.eq_iff_iff, decide_eq_true_eq]
  exact ⟨fun h => by rw [Nat.eq_of_beq_eq_true h], fun h => by have h' : x = y := by omega
                                                               subst h'; exact Nat.beq_refl x⟩
theorem ju_ (x y:Nat):Nat.ble x y=decide ((x:Int)≤(y:Int)):=by
 rw [Bool.eq_iff_iff,decide_eq_true_eq]
 exact ⟨fun h=>by have:=Nat.le_of_ble_eq_true h;omega,fun h=>Nat.ble_eq_true_of_le (by omega)⟩
theorem jv_ (x y:Nat):Nat.ble (Nat.succ x) y=decide ((x:Int) < (y:Int)):=by
 rw [Bool.eq_iff_iff,decide_eq_true_eq]
 exact ⟨fun h=>by have:=Nat.le_of_ble_eq_true h;omega,fun h=>Nat.ble_eq_true_of_le (by omega)⟩
theorem o2_ (b:BinOp) (k k':IntKind) (x y:Nat):bOp b k k' x y (aint b k x k' y)=aint b k x k' y:=by
 cases b with
 |add=>exact a9_ fun h=>by subst h;exact dp_ (by simp [aint])
 |sub =>
  refine a9_ fun h=>?_
  subst h
  cases hb:Nat.ble y x with
  |false=>rfl
  |true =>
   have:=Nat.le_of_ble_eq_true hb
   exact dp_ (by simp only [aint,if_true];rw [show ((Nat.sub x y:Nat):Int)=(x:Int) - y from Int.ofNat_sub this])
 |mul=>exact a9_ fun h=>by subst h;exact dp_ (by simp [aint])
 |quo =>
  refine a9_ fun h=>?_
  subst h
  cases hb:Nat.beq y 0 with
  |true=>rfl
  |false =>
   have:y≠0:=Nat.ne_of_beq_eq_false hb
   exact dp_ (by simp only [aint,if_true];rw [if_neg (by omega)];rfl)
 |rem =>
  refine a9_ fun h=>?_
  subst h
  cases hb:Nat.beq y 0 with
  |true=>rfl
  |false =>
   have:y≠0:=Nat.ne_of_beq_eq_false hb
   show e6_ (Nat.mod x y) (vN k)=_
   rw [dz_]
   simp only [aint,if_true];rw [if_neg (by omega)];rfl
 |and =>
  refine a9_ fun h=>?_
  subst h
  exact jU_ fun h1 h2=>dp_ (by simp only [aint,if_true,BitVec.toNat_and,cL_ k _ h1,cL_ k _ h2];rfl)
 |or =>
  refine a9_ fun h=>?_
  subst h
  exact jU_ fun h1 h2=>dp_ (by simp only [aint,if_true,BitVec.toNat_or,cL_ k _ h1,cL_ k _ h2];rfl)
 |xor =>
  refine a9_ fun h=>?_
  subst h
  exact jU_ fun h1 h2=>dp_ (by simp only [aint,if_true,BitVec.toNat_xor,cL_ k _ h1,cL_ k _ h2];rfl)
 |shl =>
  show (Bool.rec _ _ (Nat.ble y (wid k)):Option Value)=_
  cases hb:Nat.ble y (wid k) with
  |false=>rfl
  |true =>
   have:=Nat.le_of_ble_eq_true hb
   rw [iF_] at this
   refine dp_ ?_
   simp only [aint]
   rw [if_neg (by omega),Int.toNat_natCast,Nat.min_eq_left this]
   simp
 |shr =>
  show (Bool.rec _ _ (Nat.ble y (wid k)):Option Value)=_
  cases hb:Nat.ble y (wid k) with
  |false=>rfl
  |true =>
   have:=Nat.le_of_ble_eq_true hb
   rw [iF_] at this
   show e6_ _ (vN k)=_
   rw [dz_]
   simp only [aint]
   rw [if_neg (by omega),Int.toNat_natCast,Nat.min_eq_left this]
   unfold vN
   congr 2
   have e:(2:Int) ^ y=((2 ^ y:Nat):Int):=by simp
   rw [e,Int.fdiv_eq_ediv_of_nonneg _ (Int.natCast_nonneg _)]
   rfl
 |andNot=>rfl
 |eql=>exact a9_ fun h=>by subst h;rw [fM_,js_];simp only [aint,if_true]
 |neq =>
  refine a9_ fun h=>?_
  subst h
  rw [fM_]
  simp only [aint,if_true]
  rw [← js_]
  cases Nat.beq x y <;> rfl
 |lss=>exact a9_ fun h=>by subst h;rw [fM_,jv_];simp only [aint,if_true]
 |leq=>exact a9_ fun h=>by subst h;rw [fM_,ju_];simp only [aint,if_true]
 |gtr=>exact a9_ fun h=>by subst h;rw [fM_,jv_];simp only [aint,if_true]
 |geq=>exact a9_ fun h=>by subst h;rw [fM_,ju_];simp only [aint,if_true]
end
end Go.Nb
end

section
set_option linter.all false
set_option maxRecDepth 100000
namespace Go.Nb
open Go.Ab Go.RowKit
noncomputable section
def lk (t:Nat) (e:Ev):AVal:=Ev.rec .any (fun k v _ ih=>Bool.rec ih v (Nat.beq k t)) e
def look (o:Nat) (h:Hp):Option AObj:=Hp.rec (motive:=fun _=>Nat→Option AObj) (fun _=>none) (fun _ _ v a b o=>Bool.rec (Bool.rec (b (Nat.sub (Nat.div o 2) 1)) (a (Nat.div o 2)) (Nat.beq (Nat.mod o 2) 1)) v (Nat.beq o 0)) h o
def sing (x:AObj) (d o:Nat):Hp:=Nat.rec (motive:=fun _=>Nat→Hp) (fun _=>.nil) (fun _ ih o=>Bool.rec (Bool.rec (.node .nil (ih (Nat.sub (Nat.div o 2) 1)) none) (.node (ih (Nat.div o 2)) .nil none) (Nat.beq (Nat.mod o 2) 1)) (.node .nil .nil (some x)) (Nat.beq o 0)) d o
def put (o:Nat) (x:AObj) (h:Hp):Hp:=Hp.rec (motive:=fun _=>Nat→Hp) (fun o=>sing x (Nat.succ o) o) (fun l r v a b o=>Bool.rec (Bool.rec (.node l (b (Nat.sub (Nat.div o 2) 1)) v) (.node (a (Nat.div o 2)) r v) (Nat.beq (Nat.mod o 2) 1)) (.node l r (some x)) (Nat.beq o 0)) h o
def hdel (o:Nat) (h:Hp):Hp:=Hp.rec (motive:=fun _=>Nat→Hp) (fun _=>.nil) (fun l r v a b o=>Bool.rec (Bool.rec (.node l (b (Nat.sub (Nat.div o 2) 1)) v) (.node (a (Nat.div o 2)) r v) (Nat.beq (Nat.mod o 2) 1)) (.node l r none) (Nat.beq o 0)) h o
def tok (o:Nat) (e:Tk):Option (TypeId × Nat):=Tk.rec none (fun k a b _ ih=>Bool.rec ih (some (a,b)) (Nat.beq k o)) e
def tdel (o:Nat) (e:Tk):Tk:=Tk.rec .nil (fun k a b _ ih=>Bool.rec (.cons k a b ih) ih (Nat.beq k o)) e
def evC (v:Value) (_:Ev):AVal:=ofConst v
def evG (g:Nat) (_:Ev):AVal:=.lit (.pointer (some ⟨g,0,none⟩))
def evF (f:Nat) (_:Ev):AVal:=.lit (.func (.func f) #[] #[])
def ev (x:Operand):Ev→AVal:=Operand.rec (motive:=fun _=>Ev→AVal) lk evC evG evF x
def env (e:Ev):Env:=fun t=>lk t e
def store (h:Hp) (t:Tk):Store:=⟨fun o=>look o h,fun o=>tok o t⟩
def toSt (h:Hp) (t:Tk) (n:Nat):NSt:=⟨store h t,fun o=>n≤o⟩
structure Md where
 ne:Nat→Bool
 wr:Bool
 pu:Nat→Bool
abbrev K1:=AVal→Hp→Tk→Nat→Res
abbrev Ko:=Ev→Hp→Tk→Nat→Res
abbrev Kx:=Ex→Ev→Hp→Tk→Nat→Res
abbrev Cl:=Nat→List AVal→Hp→Tk→Nat→Res
def opt {α:Type} (c:Nat) (x:Option α) (K:α→Res):Res:=Option.rec (.bad c) K x
def iff (c:Nat) (b:Bool) (r:Res):Res:=Bool.rec (.bad c) r b
def cd (b:Bool) (x y:Res):Res:=Bool.rec y x b
section
variable (P:Program)
def kAny (op:Op) (e:Ev) (h:Hp) (t:Tk) (n:Nat) (K:K1):Res:=opt (100 + Op.ctorIdx op) (aval P op (fun x=>ev x e) (store h t)) fun a=>K a h t n
def pn_ (x:Operand) (e:Ev) (h:Hp) (t:Tk) (n:Nat) (K:K1):Res:=K (ev x e) h t n
def kBox (v:AVal) (h:Hp) (t:Tk) (n:Nat) (K:K1):Res:=iff 2 v.solid (bV_ v.cells fun l=>K (.ref n 0) (put n (.cells l) h) t (n + 1))
def kMap (h:Hp) (t:Tk) (n:Nat) (K:K1):Res:=K (.map n) (put n (.map []) h) t (n + 1)
def eO_ (a:AVal):Option (List AVal):=match a with
 |.agg (.lit (.pointer none) :: r)=>some r
 |_=>none
def dn_ (l:List Value):Option (List Value):=match l with
 |.pointer none :: r=>some r
 |_=>none
def iX_ (ty:TypeId) (v:AVal) (h:Hp) (t:Tk) (n:Nat) (K:K1):Res:=Option.rec (kBox v h t n K) (fun r=>K (.ref n 0) (put n (.cells (.nilp n ty (r.length + 1) :: r)) h) t (n + 1)) (eO_ v)
def f0_ (ty:TypeId) (h:Hp) (t:Tk) (n:Nat) (K:K1):Res:=opt 3 (a4_ P ty) fun z=>Option.rec (bV_ (aO_ z) fun l=>K (.ref n 0) (put n (.cells l) h) t (n + 1)) (fun r=>K (.ref n 0) (put n (.cells (.nilp n ty (r.length + 1) :: r.map .lit)) h) t (n + 1)) (dn_ z.cells.toList)
def nr_ (a:AVal) (K:Nat→Nat→Res):Res:=match a with
 |.ref o off=>K o off
 |_=>.bad 4
def ci_ (x:Option AObj) (K:List AVal→Res):Res:=match x with
 |some (.cells cs)=>K cs
 |_=>.bad 5
def cG_ (ty:TypeId) (ad v:AVal) (h:Hp) (t:Tk) (n:Nat) (K:K1):Res :=
 nr_ ad fun o off=>ci_ (look o h) fun cs=>opt 6 (aQ_ P ty) fun p=>iff 7 (v.solid && v.cells.all AVal.one && Nat.beq v.cells.length p.1) (iy_ cs off v.cells fun l=>K .any (put o (.cells l) h) t n)
def gM_ (ty:TypeId) (m:Nat) (ps:List (Nat × Operand)) (e:Ev) (h:Hp) (t:Tk) (n:Nat) (K:K1):Res :=
 opt 8 (ad_ P ty) fun el=>opt 9 (al_ P el) fun p=>iff 10 (Nat.beq ps.length m && decide (ps.map (·.1)=List.range' 0 ps.length) && Nat.ble (m * p.1) 16777216 && ps.all fun q=>(ev q.2 e).solid && Nat.beq (ev q.2 e).cells.length p.1) (bV_ (ps.map fun q=>ev q.2 e) fun l=>K (.sl p.1 l true) h t n)
def ou_ (sz:Nat) (tx:TypeId) (v:AVal):Option (List AVal):=match P.underlying tx with
 |some (.slice _)=>match v with
  |.lit (.slice none 0 0)=>some []
  |v=>match slOf v with
   |some p=>bif Nat.beq p.1 sz && p.2.all (fun y=>y.cells.all AVal.one) then some p.2 else none
   |none=>none
 |some .string=>match v with
  |.lit (.string s)=>bif Nat.beq sz 1 then some (aj_ s) else none
  |_=>none
 |_=>none
def upK (n:Nat) (f:Nat→Res):Res:=Nat.rec (motive:=fun _=>Res) (f 1) (fun m _=>f (Nat.succ (Nat.succ m))) n
theorem ng_ (n:Nat) (f:Nat→Res):upK n f=f (n + 1):=by cases n <;> rfl
def pl_ (el sz by_:Nat) (x:AVal) (l2:List AVal) (h:Hp) (t:Tk) (n:Nat) (K:K1):Res:=match x with
 |.lit (.slice none 0 0)=>iff 11 (Nat.ble (l2.length * by_) 140737488355328) (bV_ l2 fun l=>upK n fun m=>K (.own n sz l) h (.cons n el sz t) m)
 |.sl s l true=>iff 75 (Nat.beq s sz && Nat.ble ((l.length + l2.length) * by_) 140737488355328) (bV_ (l ++ l2) fun l=>K (.sl sz l false) h t n)
 |.own k s l=>opt 12 (tok k t) fun p=>iff 13 (Nat.beq p.1 el && Nat.beq p.2 sz && Nat.beq s sz) (appN l l2 0 fun r c=>iff 159 (Nat.ble ((c + l2.length) * by_) 140737488355328) (upK n fun m=>K (.own n sz r) h (.cons n el sz (tdel k t)) m))
 |_=>.bad 14
def kApp (ty tx:TypeId) (x y:AVal) (h:Hp) (t:Tk) (n:Nat) (K:K1):Res :=
 opt 15 (ad_ P ty) fun el=>opt 16 (al_ P el) fun p=>opt 17 (ou_ P p.1 tx y) fun l2=>pl_ el p.1 p.2 x l2 h t n K
def mR_ (sz by_:Nat) (x:AVal) (l2:List AVal) (h:Hp) (t:Tk) (n:Nat) (K:K1):Res:=match x with
 |.lit (.slice none 0 0)=>iff 110 (Nat.ble (l2.length * by_) 140737488355328) (bV_ (flat l2) fun l=>K (.msl n sz 0 l2.length) (put n (.cells l) h) t (n + 1))
 |.sl s [] true=>iff 111 (Nat.beq s sz && Nat.ble (l2.length * by_) 140737488355328) (bV_ (flat l2) fun l=>K (.msl n sz 0 l2.length) (put n (.cells l) h) t (n + 1))
 |.msl so s off len=>ci_ (look so h) fun cs=>iff 112 (Nat.beq s sz && Nat.beq off 0 && Nat.ble (len * sz) cs.length && Nat.ble ((len + l2.length) * by_) 140737488355328) (bV_ (cs.take (len * sz) ++ flat l2) fun l=>K (.msl n sz 0 (len + l2.length)) (put n (.cells l) (hdel so h)) t (n + 1))
 |_=>.bad 113
def pm_ (ty tx:TypeId) (x y:AVal) (h:Hp) (t:Tk) (n:Nat) (K:K1):Res :=
 opt 15 (ad_ P ty) fun el=>opt 16 (al_ P el) fun p=>opt 114 (slOf y) fun q=>iff 115 (Nat.beq ty tx && Nat.beq q.1 p.1 && q.2.all (fun y=>y.cells.all AVal.one) && !q.2.isEmpty) (mR_ p.1 p.2 x q.2 h t n K)
def written (wr:Bool) (x y:AVal):Bool:=match x with
 |.msl _ _ _ _=>true
 |.lit _=>wr && (match slOf y with | some (_,_ :: _)=>true | _=>false)
 |.sl _ [] true=>wr && (match slOf y with | some (_,_ :: _)=>true | _=>false)
 |_=>false
def nK_ (wr:Bool) (ty tx:TypeId) (x y:AVal) (h:Hp) (t:Tk) (n:Nat) (K:K1):Res:=Bool.rec (kApp P ty tx x y h t n K) (pm_ P ty tx x y h t n K) (written wr x y)
def iY_ (ty:TypeId) (x y:AVal) (h:Hp) (t:Tk) (n:Nat) (K:K1):Res:=match x,y with
 |.lit (.int _ a),.lit (.int _ b)=>opt 116 (ad_ P ty) fun el=>opt 117 (al_ P el) fun p=>opt 118 (a4_ P el) fun z =>
  iff 119 (Nat.beq p.1 1 && decide (a=b) && decide (a=(a.toNat:Int)) && Nat.ble (p.2 * a.toNat) 281474976710656 && z.oneCell') (bV_ (List.replicate a.toNat (.lit z)) fun l=>K (.msl n 1 0 a.toNat) (put n (.cells l) h) t (n + 1))
 |_,_=>.bad 120
def kUns (p:TypeId) (i:Nat) (h:Hp) (K:TypeId × Nat→Res):Res:=match look i h with
 |some (.cells (.nilp j e m :: _))=>iff 72 (Nat.beq j i) (K (e,m))
 |_=>.bad 73
def unb1 (a:AVal):Option UInt8:=match a with
 |.lit (.int .u8 z)=>Bool.rec none (some (UInt8.ofNat z.toNat)) (decide (z=((UInt8.ofNat z.toNat).toNat:Int)))
 |_=>none
def unbL (l:List AVal):Option (List UInt8):=List.rec (motive:=fun _=>Option (List UInt8)) (some []) (fun a _ r=>match unb1 a,r with
 |some b,some r=>some (b :: r)
 |_,_=>none) l
def jZ_ (src dst:TypeId) (x:Operand) (e:Ev) (h:Hp) (t:Tk) (n:Nat) (K:K1):Res:=match P.underlying src,P.underlying dst,ev x e with
 |some .string,some (.slice el),.lit (.string s)=>match P.underlying el with
  |some (.int .u8)=>K (.sl 1 (aj_ s) false) h t n
  |_=>.bad 18
 |some (.pointer p),some .unsafePointer,.ref i 0=>kUns p i h fun m=>iff 70 (Nat.ble 1 m.2 && (((P.info? p).map fun j=>j.size == 0) == some false)) (K (.ref i 0) h t n)
 |some .unsafePointer,some (.pointer p),.ref i 0=>kUns p i h fun m=>iff 71 ((P.info? p).isSome && liesAt P P.depth m.1 (m.2 / P.cellsOf m.1) 0 p 1) (K (.ref i 0) h t n)
 |some (.slice el),some .string,.own _ 1 l=>(match P.underlying el with
  |some (.int .u8)=>opt 180 (unbL l) fun bs=>K (.lit (.string ⟨⟨bs⟩⟩)) h t n
  |_=>.bad 181)
 |_,_,_=>kAny P (.convert src dst x) e h t n K
def gL_ (src dst:TypeId) (x:Operand) (e:Ev) (h:Hp) (t:Tk) (n:Nat) (K:K1):Res:=match P.underlying src,P.underlying dst,ev x e with
 |some .string,some (.slice el),.lit (.string s)=>match P.underlying el with
  |some (.int .u8)=>iff 76 (Nat.ble s.size 1099511627776) (bV_ (aj_ s) fun l=>K (.own n 1 l) h (.cons n el 1 t) (n + 1))
  |_=>.bad 18
 |_,_,_=>jZ_ P src dst x e h t n K
def oy_ (l:Nat):List UInt8→(List UInt8→Res)→Res:=Nat.rec (motive:=fun _=>List UInt8→(List UInt8→Res)→Res) (fun r K=>K r) (fun _ ih r K=>List.rec (motive:=fun _=>Res) (.bad 193) (fun _ t _=>ih t K) r) l
def pg_ (l:Nat):List UInt8→(List UInt8→Res)→Res:=Nat.rec (motive:=fun _=>List UInt8→(List UInt8→Res)→Res) (fun _ K=>K []) (fun _ ih r K=>List.rec (motive:=fun _=>Res) (.bad 194) (fun a t _=>ih t fun q=>K (a :: q)) r) l
def kSub (lo hi:Option AVal) (s:ByteArray) (K:AVal→Res):Res:=opt 190 (alow lo) fun l=>Option.rec (motive:=fun _=>Res) (oy_ l s.data.toList fun r=>K (.lit (.string ⟨⟨r⟩⟩))) (fun x=>opt 191 (bI_ x) fun h=>iff 192 (Nat.ble l h) (oy_ l s.data.toList fun r=>pg_ (h - l) r fun q=>K (.lit (.string ⟨⟨q⟩⟩)))) hi
def eJ_ (ty:TypeId) (x:Operand) (lo hi mx:Option Operand) (e:Ev) (h:Hp) (t:Tk) (n:Nat) (K:K1):Res:=match P.underlying ty,lo,hi,mx,ev x e with
 |some (.array m el),none,none,none,.ref so off=>ci_ (look so h) fun cs=>opt 152 (aQ_ P el) fun p=>iff 153 (Nat.ble (off + m * p.1) cs.length && (Nat.ble 1 m && Nat.ble m 1000000)) (K (.msl so p.1 off m) h t n)
 |some (.slice _),lo,some hi,some mo,.lit (.slice none 0 0)=>opt 132 (ad_ P ty) fun el=>opt 133 (aQ_ P el) fun _=>opt 134 (alow (lo.map (aev (env e)))) fun a=>opt 135 (bI_ (aev (env e) hi)) fun b=>opt 136 (bI_ (aev (env e) mo)) fun c=>iff 137 (Nat.beq a 0 && (Nat.beq b 0 && Nat.beq c 0)) (K (.lit (.slice none 0 0)) h t n)
 |some .string,lo,hi,none,.lit (.string s)=>kSub (lo.map fun y=>ev y e) (hi.map fun y=>ev y e) s fun a=>K a h t n
 |_,_,_,_,_=>kAny P (.slice ty x lo hi mx) e h t n K
def dm_ (s d:TypeId) (x:Operand) (e:Ev) (h:Hp) (t:Tk) (n:Nat) (K:K1):Res:=match ev x e with
 |.msl so _ _ _=>ci_ (look so h) fun cs=>opt 150 (aval P (.convert s d x) (fun y=>fz so cs (ev y e)) (store (hdel so h) t)) fun a=>match a with
  |.lit v=>K (.lit v) h t n
  |_=>.bad 151
 |_=>gL_ P s d x e h t n K
def ie_ (ty:TypeId) (v:AVal) (h:Hp) (t:Tk) (n:Nat) (K:K1):Res:=match P.underlying ty,v with
 |some .string,.lit (.string s)=>K (.ref n 0) (put n (.raw (.stringIter s 0)) h) t (n + 1)
 |_,_=>.bad 77
def nS_ (v:AVal) (h:Hp) (t:Tk) (n:Nat) (K:K1):Res:=nr_ v fun i off=>iff 78 (Nat.beq off 0) (match look i h with
 |some (.raw (.stringIter b p))=>cd (Nat.ble (Nat.succ p) b.size) (K (.tup [.lit (.bool true),.lit (.int .i64 p),.lit (.int .i32 (fJ_ b p))]) (put i (.raw (.stringIter b (p + i5_ b p))) h) t n) (K (.tup [.lit (.bool false)]) h t n)
 |_=>.bad 79)
def res1 (r:Res) (K:K1):Res:=Res.rec (fun m=>.bad m) (fun v h t n=>K v h t n) r
def kVal (call:Cl) (fv:AVal) (args:List AVal) (h:Hp) (t:Tk) (n:Nat) (K:K1):Res:=match fv with
 |.lit (.func (.func f) a b)=>iff 19 (isGo P f && Nat.beq a.toList.length 0 && Nat.beq b.toList.length 0) (res1 (call f args h t n) K)
 |.fn (.func f) first cap=>iff 19 (isGo P f) (res1 (call f (first ++ args ++ cap) h t n) K)
 |_=>.bad 20
def kInv (call:Cl) (xv:AVal) (name:String) (args:List AVal) (h:Hp) (t:Tk) (n:Nat) (K:K1):Res:=match xv with
 |.iface ty a=>opt 90 (jj_ P ty name) fun m=>opt 91 (iN_ P (store h t) ty m.2 a) fun r=>iff 92 (isGo P m.1) (res1 (call m.1 (r :: args) h t n) K)
 |_=>.bad 93
def lS_ (d:TypeDesc) (v:Value):Bool:=match d,v with
 |.bool,.bool _=>true
 |.int k,.int k' _=>decide (k'=k)
 |.string,.string _=>true
 |_,_=>false
def nq_ (x:Option AObj) (K:List (Value × AVal)→Res):Res:=match x with
 |some (.map kvs)=>K kvs
 |_=>.bad 94
def gT_ (ty:TypeId) (m k:AVal) (h:Hp) (K:Nat→Value→List (Value × AVal)→Res):Res:=match P.underlying ty with
 |some (.map kt _)=>match P.underlying kt,m,k with
  |some kd,.map mo,.lit kv=>nq_ (look mo h) fun kvs=>iff 95 (lS_ kd kv && kvs.all fun p=>lS_ kd p.1) (K mo kv kvs)
  |_,_,_=>.bad 96
 |_=>.bad 97
def kUpd (ty:TypeId) (m k x:AVal) (h:Hp) (t:Tk) (n:Nat) (K:K1):Res:=gT_ P ty m k h fun mo kv kvs=>K .any (put mo (.map (cR_ kv x kvs)) h) t n
def kDel (ty:TypeId) (m k:AVal) (h:Hp) (t:Tk) (n:Nat) (K:K1):Res:=gT_ P ty m k h fun mo kv kvs=>K (.tup []) (put mo (.map (d2_ kv kvs)) h) t n
def nM_ (ty t2:TypeId) (x y:AVal) (h:Hp) (t:Tk) (n:Nat) (K:K1):Res:=match x,y with
 |.msl so 1 off len,.lit (.string b)=>ci_ (look so h) fun cs=>opt 154 (ad_ P ty) fun el=>opt 155 (al_ P el) fun p=>iff 156 (Nat.beq p.1 1 && (Nat.ble (off + len) cs.length && Nat.ble b.size len)) (bV_ (aput cs off (aj_ b)) fun l=>K (.lit (.int .i64 (b.size:Int))) (put so (.cells l) h) t n)
 |_,_=>.bad 157
def jX_ (ty:TypeId) (x:AVal) (h:Hp) (t:Tk) (n:Nat) (K:K1):Res:=match x with
 |.msl so sz off len=>ci_ (look so h) fun cs=>opt 145 (ad_ P ty) fun el=>opt 146 (a4_ P el) fun z=>iff 147 (Nat.beq z.cells.size sz && (z.cells.toList.all (fun v=>(AVal.lit v).one) && Nat.beq (off + len * sz) cs.length)) (bV_ (cs.take off) fun l=>K (.tup []) (put so (.cells l) h) t n)
 |_=>.bad 148
mutual
def rows:AVal→List Nat
 |.agg l=>hJ_ l
 |.tup l=>hJ_ l
 |.msl so _ _ _=>[so]
 |_=>[]
def hJ_:List AVal→List Nat
 |[]=>[]
 |a :: l=>rows a ++ hJ_ l
end
noncomputable def frz (h:Hp):List Nat→List Nat→AVal→AVal
 |[],_,a=>a
 |o :: os,done,a=>match done.any (Nat.beq o),look o h with
  |false,some (.cells cs)=>frz h os (o :: done) (fz o cs a)
  |_,_=>frz h os done a
def fu_:List Nat→Hp→Hp
 |[],h=>h
 |o :: os,h=>hdel o (fu_ os h)
def kFrz (call:Cl) (f:Nat) (args:List AVal) (h:Hp) (t:Tk) (n:Nat) (K:K1):Res:=match frz h (hJ_ args) [] (.tup args) with
 |.tup l=>iff 161 (isGo P f) (Res.rec (fun m=>.bad m) (fun v _ _ _=>K v (fu_ (hJ_ args) h) t n) (call f l .nil .nil 0))
 |_=>.bad 160
def kNe (l:List Operand) (e:Ev) (h:Hp) (t:Tk) (n:Nat) (K:K1):Res:=match l with
 |[x]=>K (ev x e) h t n
 |_=>.bad 74
def lZ_ (ty:TypeId) (v:AVal) (h:Hp) (t:Tk) (n:Nat) (K:K1):Res:=match P.underlying ty with
 |some (.pointer _)=>match v with
  |.own k s l=>opt 80 (tok k t) fun p=>iff 81 (Nat.beq s 1 && Nat.beq p.2 1) (K (.sdp k l) h t n)
  |.lit (.slice none 0 0)=>K (.sdp 0 []) h t n
  |_=>.bad 82
 |_=>.bad 83
def kStr (t0:TypeId) (x y:AVal) (h:Hp) (t:Tk) (n:Nat) (K:K1):Res:=match x,y with
 |.sdp k l,.lit (.int .i64 z)=>opt 84 (unbL l) fun bs=>match P.underlying t0 with
  |some (.pointer el)=>iff 85 (Nat.beq (P.cellsOf el) 1 && decide (z=(bs.length:Int)) && Nat.ble bs.length 9223372036854775807 && (Nat.beq bs.length 0 || (tok k t == some (el,1)))) (K (.lit (.string ⟨⟨bs⟩⟩)) h (tdel k t) n)
  |_=>.bad 86
 |_,_=>.bad 87
def lenU (l:List UInt8):Nat:=List.rec (motive:=fun _=>Nat) 0 (fun _ _ ih=>Nat.succ ih) l
def natK (x:Nat) (f:Nat→Res):Res:=Nat.rec (motive:=fun _=>Res) (f 0) (fun m _=>f (Nat.succ m)) x
def kLen (c:Call) (e:Ev) (h:Hp) (t:Tk) (n:Nat) (K:K1):Res:=match c.args.toList,c.argTypes[0]? with
 |[x],some ty=>(match P.underlying ty,ev x e with
  |some .string,.lit (.string s)=>natK (lenU s.data.toList) fun m=>K (.lit (.int .i64 (.ofNat m))) h t n
  |_,_=>kAny P (.call c) e h t n K)
 |_,_=>kAny P (.call c) e h t n K
def lW_ (ne:Md) (call:Cl) (ty0:TypeId) (c:Call) (e:Ev) (h:Hp) (t:Tk) (n:Nat) (K:K1):Res:=match c.callee with
 |.value (.func f)=>Bool.rec (Bool.rec (kVal P call (ev (.func f) e) (c.args.toList.map fun x=>ev x e) h t n K) (kFrz P call f (c.args.toList.map fun x=>ev x e) h t n K) (ne.pu f && !(hJ_ (c.args.toList.map fun x=>ev x e)).isEmpty)) (kNe c.args.toList e h t n K) (ne.ne f)
 |.value f=>kVal P call (ev f e) (c.args.toList.map fun x=>ev x e) h t n K
 |.builtin .append=>match c.args.toList,c.argTypes.toList with
  |[x,y],[ty,tx]=>nK_ P ne.wr ty tx (ev x e) (ev y e) h t n K
  |_,_=>.bad 21
 |.invoke x name=>kInv P call (ev x e) name (c.args.toList.map fun x=>ev x e) h t n K
 |.builtin .copy=>match c.args.toList,c.argTypes.toList with
  |[x,y],[ty,t2]=>nM_ P ty t2 (ev x e) (ev y e) h t n K
  |_,_=>.bad 158
 |.builtin .clear=>match c.args.toList,c.argTypes.toList with
  |[x],[ty]=>jX_ P ty (ev x e) h t n K
  |_,_=>.bad 149
 |.builtin .delete=>match c.args.toList,c.argTypes.toList with
  |[m,k],[ty,_]=>kDel P ty (ev m e) (ev k e) h t n K
  |_,_=>.bad 98
 |.builtin .unsafeSliceData=>match c.args.toList,c.argTypes.toList with
  |[x],[_]=>lZ_ P ty0 (ev x e) h t n K
  |_,_=>.bad 88
 |.builtin .unsafeString=>match c.args.toList,c.argTypes.toList with
  |[x,y],[t0,_]=>kStr P t0 (ev x e) (ev y e) h t n K
  |_,_=>.bad 89
 |.builtin .len=>kLen P c e h t n K
 |_=>kAny P (.call c) e h t n K
def opK (ne:Md) (call:Cl) (ty0:TypeId) (op:Op) (e:Ev) (h:Hp) (t:Tk) (n:Nat) (K:K1):Res:=match op with
 |.move x=>pn_ x e h t n K
 |.assign x=>pn_ x e h t n K
 |.box ty x=>iX_ ty (ev x e) h t n K
 |.alloc ty=>f0_ P ty h t n K
 |.makeMap ty none=>kMap h t n K
 |.store ty ad x=>cG_ P ty (ev ad e) (ev x e) h t n K
 |.buildSlice ty m ps=>gM_ P ty m ps.toList e h t n K
 |.convert s d x=>dm_ P s d x e h t n K
 |.range ty x=>ie_ P ty (ev x e) h t n K
 |.next x true=>nS_ (ev x e) h t n K
 |.call c=>lW_ P ne call ty0 c e h t n K
 |.mapUpdate ty m k x=>kUpd P ty (ev m e) (ev k e) (ev x e) h t n K
 |.makeSlice ty x y=>iY_ P ty (ev x e) (ev y e) h t n K
 |op=>kAny P op e h t n K
abbrev Qt:=Program→Md→Cl→TypeId→Ev→Hp→Tk→Nat→K1→Res
def qv (c:Nat) (r:Option AVal) (h:Hp) (t:Tk) (n:Nat) (K:K1):Res:=opt c r fun a=>K a h t n
def vB:Value→(Bool→Res)→Res→Res :=
 @Value.rec (fun _=>(Bool→Res)→Res→Res) (fun _=>Unit) (fun _=>Unit) (fun b f _=>f b) (fun _ _ _ g=>g) (fun _ _ _ g=>g) (fun _ _ _ _ g=>g) (fun _ _ g=>g) (fun _ _ g=>g) (fun _ _ _ _ g=>g) (fun _ _ g=>g) (fun _ _ g=>g) (fun _ _ _ _ _ _ g=>g) (fun _ g=>g) (fun _ _ _ _ g=>g) (fun _ g=>g) (fun _ _ _ g=>g) (fun _ _ _ g=>g) (fun _ _=>()) () (fun _ _ _ _=>())
def aB (a:AVal) (f:Bool→Res) (g:Res):Res:=aL a (fun v=>vB v f g) g
theorem oO_ (a:AVal) (f:Bool→Res) (g:Res):(∃ b,a=.lit (.bool b)∧aB a f g=f b)∨((∀ b,a≠.lit (.bool b))∧aB a f g=g):=by
 cases a with
 |lit v =>
  cases v with
  |bool b=>exact .inl ⟨b,rfl,rfl⟩
  |_=>exact .inr ⟨fun b h=>(by cases h),rfl⟩
 |_=>exact .inr ⟨fun b h=>(by cases h),rfl⟩
def of_ (slow:Res) (x y:AVal) (b:BinOp) (h:Hp) (t:Tk) (n:Nat) (K:K1):Res:=aN x (fun k a=>aN y (fun k' m=>opt 113 (bOp b k k' a m (aint b k a k' m)) fun v=>K (.lit v) h t n) slow) slow
def kB_ (P:Program) (slow:Res) (ty:TypeId) (x:AVal) (h:Hp) (t:Tk) (n:Nat) (K:K1):Res:=aRf x (fun o off=>Option.rec slow (fun p=>ey_ (look o h) (fun cs=>gr_ cs off p.1 p.2 (fun a=>K a h t n) (.bad 108)) slow) (aQ_ P ty)) slow
def lR_ (P:Program) (s d:TypeId):Option IntKind:=match P.underlying s,P.underlying d with
 |some _,some (.int k)=>some k
 |_,_=>none
def kz_ (P:Program) (slow:Res) (s d:TypeId) (x:AVal) (h:Hp) (t:Tk) (n:Nat) (K:K1):Res:=aN x (fun _ m=>Option.rec slow (fun k=>opt 115 (nrm k m (vN k) (some (.int k (k.wrap m)))) fun v=>K (.lit v) h t n) (lR_ P s d)) slow
def vOne:Value→Bool :=
 @Value.rec (fun _=>Bool) (fun _=>Unit) (fun _=>Unit) (fun _=>true) (fun _ _=>true) (fun _ _=>true) (fun _ _ _=>true) (fun _=>true) (fun _=>true) (fun _ _ _=>true) (fun _=>true) (fun _=>true) (fun _ _ _ _ _=>true) true (fun _ _ _=>true) true (fun _ _=>false) (fun _ _=>false) (fun _ _=>()) () (fun _ _ _ _=>())
def one1:AVal→Bool :=
 @AVal.rec (fun _=>Bool) (fun _=>Unit) false vOne (fun _ _=>false) (fun _ _=>false) (fun _ _ _ _=>true) (fun _ _ _ _=>true) (fun _ _ _ _=>true) (fun _ _=>true) (fun _ _=>true) (fun _=>true) (fun _ _ _ _ _=>true) (fun _ _ _=>true) (fun _ _ _=>true) (fun _ _ _=>true) (fun _ _ _ _ _ _=>true) () (fun _ _ _ _=>())
theorem oa_ (a:AVal):one1 a=a.one:=by
 cases a with
 |lit v=>cases v <;> rfl
 |_=>rfl
theorem kq_ {a:AVal} (h:a.one=true):a.solid=true:=by
 cases a with
 |lit v=>cases v <;> first | rfl | cases h
 |_=>first | rfl | cases h
def hF_ (P:Program) (slow:Res) (ty:TypeId) (ad x:AVal) (h:Hp) (t:Tk) (n:Nat) (K:K1):Res:=Bool.rec slow (aRf ad (fun o off=>Option.rec slow (fun p=>Bool.rec slow (ey_ (look o h) (fun cs=>setK cs off x (fun l=>K .any (put o (.cells l) h) t n) (.bad 7)) slow) (Nat.beq 1 p.1)) (aQ_ P ty)) slow) (one1 x)
def h4_ (a:AVal) (f:AVal→Res):Res:=match a with
 |.agg l=>bV_ l fun l=>f (.agg l)
 |a=>f a
theorem jx_ (a:AVal) (f:AVal→Res):h4_ a f=f a:=by
 unfold h4_
 split
 ·rw [aE_]
 ·rfl
def pF_ (c a b:AVal) (h:Hp) (t:Tk) (n:Nat) (K:K1):Res:=aB c (fun v=>K (dZ_ v a b) h t n) (.bad 102)
def pD_ (x:Operand):Qt:=fun P ne call ty0 e h t n K=>K (ev x e) h t n
def kx_ (x:Operand):Qt:=fun P ne call ty0 e h t n K=>K (ev x e) h t n
def oi_ (c:Operand) (a:Operand) (b:Operand):Qt:=fun P ne call ty0 e h t n K=>pF_ (ev c e) (ev a e) (ev b e) h t n K
def mZ_ (ty:TypeId):Qt:=fun P ne call ty0 e h t n K=>f0_ P ty h t n K
def qBox (ty:TypeId) (x:Operand):Qt:=fun P ne call ty0 e h t n K=>iX_ ty (ev x e) h t n K
def m0_ (ty:TypeId) (ps:Array (Nat × Operand)):Qt:=fun P ne call ty0 e h t n K=>opt 105 (dT_ P ty (ps.toList.map fun p=>(p.1,ev p.2 e))) fun a=>h4_ a fun a=>K a h t n
def eW_ (ty:TypeId) (m:Nat) (ps:Array (Nat × Operand)):Qt:=fun P ne call ty0 e h t n K=>gM_ P ty m ps.toList e h t n K
def kA_ (ty:TypeId) (m:Operand) (k:Operand) (x:Operand):Qt:=fun P ne call ty0 e h t n K=>kAny P (.insert ty m k x) e h t n K
def og_ (ty:TypeId) (x:Operand):Qt:=fun P ne call ty0 e h t n K=>kB_ P (qv 108 (bT_ P (store h t) ty (ev x e)) h t n K) ty (ev x e) h t n K
def kE_ (ty:TypeId) (ad:Operand) (x:Operand):Qt:=fun P ne call ty0 e h t n K=>hF_ P (cG_ P ty (ev ad e) (ev x e) h t n K) ty (ev ad e) (ev x e) h t n K
def m7_ (g:Nat):Qt:=fun P ne call ty0 e h t n K=>kAny P (.ready g) e h t n K
def m8_ (g:Nat):Qt:=fun P ne call ty0 e h t n K=>kAny P (.waits g) e h t n K
def g0_ (x:Operand):Qt:=fun P ne call ty0 e h t n K=>qv 112 (anil (ev x e)) h t n K
def seqU (a:List UInt8):List UInt8→Bool:=List.rec (motive:=fun _=>List UInt8→Bool) (fun b=>List.rec (motive:=fun _=>Bool) true (fun _ _ _=>false) b) (fun x _ ih b=>List.rec (motive:=fun _=>Bool) false (fun y m _=>Bool.rec false (ih m) (Nat.beq x.toNat y.toNat)) b) a
def nv_ (c:Bool) (f:Bool→Res):Res:=Bool.rec (f false) (f true) c
def ms_ (b:BinOp) (x y:AVal) (h:Hp) (t:Tk) (n:Nat) (K:K1) (r:Res):Res:=match b,x,y with
 |.eql,.lit (.string p),.lit (.string q)=>nv_ (seqU p.data.toList q.data.toList) fun c=>K (.lit (.bool c)) h t n
 |.neq,.lit (.string p),.lit (.string q)=>nv_ (seqU p.data.toList q.data.toList) fun c=>K (.lit (.bool (!c))) h t n
 |_,_,_=>r
def iq_ (b:BinOp) (ty:TypeId) (x:Operand) (y:Operand) (yt:TypeId):Qt:=fun P ne call ty0 e h t n K=>of_ (ms_ b (ev x e) (ev y e) h t n K (qv 113 (abin P (store h t) b ty (a1_ x || a1_ y) (ev x e) (ev y e)) h t n K)) (ev x e) (ev y e) b h t n K
def pJ_ (b:UnOp) (ty:TypeId) (x:Operand):Qt:=fun P ne call ty0 e h t n K=>qv 114 (jn_ b (ev x e)) h t n K
def f5_ (s:TypeId) (d:TypeId) (x:Operand):Qt:=fun P ne call ty0 e h t n K=>kz_ P (dm_ P s d x e h t n K) s d (ev x e) h t n K
def bJ_ (d:TypeId) (x:Operand):Qt:=fun P ne call ty0 e h t n K=>kAny P (.sliceToArrayPointer d x) e h t n K
def cY_ (ty:TypeId) (x:Operand):Qt:=fun P ne call ty0 e h t n K=>kAny P (.makeInterface ty x) e h t n K
def gY_ (f:Fn) (a:Array Operand) (c:Array Operand):Qt:=fun P ne call ty0 e h t n K=>kAny P (.makeFunc f a c) e h t n K
def is_ (ty:TypeId) (r:Option Operand):Qt:=fun P ne call ty0 e h t n K=>Option.rec (kMap h t n K) (fun y=>kAny P (.makeMap ty (some y)) e h t n K) r
def gX_ (ty:TypeId) (x:Operand):Qt:=fun P ne call ty0 e h t n K=>kAny P (.makeChan ty x) e h t n K
def fD_ (ty:TypeId) (x:Operand) (y:Operand):Qt:=fun P ne call ty0 e h t n K=>iY_ P ty (ev x e) (ev y e) h t n K
def pI_ (ty:TypeId) (x:Operand) (lo:Option Operand) (hi:Option Operand) (mx:Option Operand):Qt:=fun P ne call ty0 e h t n K=>kAny P (.slice ty x lo hi mx) e h t n K
def fB_ (ty:TypeId) (x:Operand) (i:Nat):Qt:=fun P ne call ty0 e h t n K=>qv 123 (bO_ P ty (ev x e) i) h t n K
def m3_ (ty:TypeId) (x:Operand) (i:Nat):Qt:=fun P ne call ty0 e h t n K=>qv 124 (fo_ P ty (ev x e) i) h t n K
def fC_ (ty:TypeId) (x:Operand) (i:Operand):Qt:=fun P ne call ty0 e h t n K=>qv 125 (bP_ P ty (ev x e) (ev i e)) h t n K
def m4_ (ty:TypeId) (x:Operand) (i:Operand):Qt:=fun P ne call ty0 e h t n K=>qv 126 (fp_ P ty (ev x e) (ev i e)) h t n K
def kC_ (ty:TypeId) (x:Operand) (i:Operand) (b:Bool):Qt:=fun P ne call ty0 e h t n K=>kAny P (.lookup ty x i b) e h t n K
def fE_ (ty:TypeId) (m:Operand) (k:Operand) (x:Operand):Qt:=fun P ne call ty0 e h t n K=>kUpd P ty (ev m e) (ev k e) (ev x e) h t n K
def gZ_ (ty:TypeId) (m:Operand) (k:Operand):Qt:=fun P ne call ty0 e h t n K=>kAny P (.mapEntry ty m k) e h t n K
def eX_ (ty:TypeId) (m:Operand) (s:Operand) (x:Operand):Qt:=fun P ne call ty0 e h t n K=>kAny P (.entryStore ty m s x) e h t n K
def m6_ (ty:TypeId) (x:Operand):Qt:=fun P ne call ty0 e h t n K=>ie_ P ty (ev x e) h t n K
def pE_ (x:Operand) (b:Bool):Qt:=fun P ne call ty0 e h t n K=>cd b (nS_ (ev x e) h t n K) (kAny P (.next x b) e h t n K)
def m2_ (x:Operand):Qt:=fun P ne call ty0 e h t n K=>kAny P (.entry x) e h t n K
def eY_ (x:Operand) (ty:TypeId) (t2:TypeId) (b:Bool):Qt:=fun P ne call ty0 e h t n K=>kAny P (.typeAssert x ty t2 b) e h t n K
def ir_ (x:Operand) (i:Nat):Qt:=fun P ne call ty0 e h t n K=>kAny P (.extract x i) e h t n K
def pC_ (c:Call):Qt:=fun P ne call ty0 e h t n K=>lW_ P ne call ty0 c e h t n K
def qGo (c:Call):Qt:=fun P ne call ty0 e h t n K=>kAny P (.go c) e h t n K
def m1_ (c:Call):Qt:=fun P ne call ty0 e h t n K=>kAny P (.defer c) e h t n K
def m5_ (x:Operand):Qt:=fun P ne call ty0 e h t n K=>kAny P (.panic x) e h t n K
def pH_ (c:Operand) (x:Operand):Qt:=fun P ne call ty0 e h t n K=>kAny P (.send c x) e h t n K
def pG_ (ty:TypeId) (c:Operand) (b:Bool):Qt:=fun P ne call ty0 e h t n K=>kAny P (.recv ty c b) e h t n K
def kD_ (cs:Array SelectCase) (b:Bool):Qt:=fun P ne call ty0 e h t n K=>kAny P (.select cs b) e h t n K
def opQ:Op→Qt:=@Op.rec (fun _=>Qt) pD_ kx_ oi_ mZ_ qBox m0_ eW_ kA_ og_ kE_ m7_ m8_ g0_ iq_ pJ_ f5_ bJ_ cY_ gY_ is_ gX_ fD_ pI_ fB_ m3_ fC_ m4_ kC_ fE_ gZ_ eX_ m6_ pE_ m2_ eY_ ir_ pC_ qGo m1_ m5_ pH_ pG_ kD_
def vNil:Value→Bool:=fun v=>match v with
 |.slice none 0 0=>true
 |_=>false
def nilC (x:Operand):Bool:=match x with
 |.const v=>vNil v
 |_=>false
def n8_ (a:AVal):Option Bool:=match a with
 |.lit (.slice none 0 0)=>some true
 |.msl _ _ _ _=>some false
 |.sl _ (_ :: _) _=>some false
 |.own _ _ (_ :: _)=>some false
 |_=>none
def j4_ (P:Program) (b:BinOp) (ty:TypeId) (x:AVal) (h:Hp) (t:Tk) (n:Nat) (K:K1):Res:=opt 127 (n8_ x) fun c=>opt 128 (ad_ P ty) fun _=>match b with
 |.eql=>K (.lit (.bool c)) h t n
 |.neq=>K (.lit (.bool !c)) h t n
 |_=>.bad 129
def sy_ (b:BinOp) (ty:TypeId) (x:Operand) (y:Operand) (yt:TypeId):Qt:=fun P ne call ty0 e h t n K=>Bool.rec (iq_ b ty x y yt P ne call ty0 e h t n K) (j4_ P b ty (ev x e) h t n K) (nilC y)
def oj_ (ty:TypeId) (x:Operand) (lo:Option Operand) (hi:Option Operand) (mx:Option Operand):Qt:=fun P ne call ty0 e h t n K=>eJ_ P ty x lo hi mx e h t n K
def opN:Op→Qt:=@Op.rec (fun _=>Qt) pD_ kx_ oi_ mZ_ qBox m0_ eW_ kA_ og_ kE_ m7_ m8_ g0_ sy_ pJ_ f5_ bJ_ cY_ gY_ is_ gX_ fD_ oj_ fB_ m3_ fC_ m4_ kC_ fE_ gZ_ eX_ m6_ pE_ m2_ eY_ ir_ pC_ qGo m1_ m5_ pH_ pG_ kD_
def dput (d:Option Nat) (v:AVal) (e:Ev):Ev:=Option.rec e (fun k=>.cons k v e) d
def pd_ (ne:Md) (ops:Array Oper) (call:Cl) (o:Oper) (e:Ev) (h:Hp) (t:Tk) (n:Nat) (K:K1) (g:Nat × Bool):Res :=
 opt 22 ((ops[g.1]?).bind (·.dst)) fun d=>match lk d e with
  |.lit (.bool b)=>cd (b == g.2) (opN o.op P ne call o.type e h t n K) (K (.lit undef) h t n)
  |.lit _=>K (.lit undef) h t n
  |_=>.bad 23
def hO_ (ne:Md) (ops:Array Oper) (call:Cl) (o:Oper) (e:Ev) (h:Hp) (t:Tk) (n:Nat) (K:K1):Res:=Option.rec (opN o.op P ne call o.type e h t n K) (fun g=>pd_ P ne ops call o e h t n K g) o.guard
def opsK (ne:Md) (ops:Array Oper) (call:Cl) (l:List Oper):Ev→Hp→Tk→Nat→Ko→Res :=
 List.rec (motive:=fun _=>Ev→Hp→Tk→Nat→Ko→Res) (fun e h t n K=>K e h t n) (fun o _ ih e h t n K=>hO_ P ne ops call o e h t n fun a h t n=>ih (dput o.dst a e) h t n K) l
end
end
noncomputable def isVal:Op→Bool:=@Op.rec (fun _=>Bool) (fun _=>true) (fun _=>true) (fun _ _ _=>true) (fun _=>false) (fun _ _=>false) (fun _ _=>true) (fun _ _ _=>false) (fun _ _ _ _=>false) (fun _ _=>true) (fun _ _ _=>false) (fun _=>false) (fun _=>false) (fun _=>true) (fun _ _ _ _ _=>true) (fun _ _ _=>true) (fun _ _ _=>false) (fun _ _=>false) (fun _ _=>true) (fun _ _ _=>true) (fun _ _=>false) (fun _ _=>false) (fun _ _ _=>false) (fun _ _ _ _ _=>true) (fun _ _ _=>true) (fun _ _ _=>true) (fun _ _ _=>true) (fun _ _ _=>true) (fun _ _ _ _=>true) (fun _ _ _ _=>false) (fun _ _ _=>false) (fun _ _ _ _=>false) (fun _ _=>false) (fun _ _=>false) (fun _=>false) (fun _ _ _ _=>true) (fun _ _=>true) (fun _=>false) (fun _=>false) (fun _=>false) (fun _=>false) (fun _ _=>false) (fun _ _ _=>false) (fun _ _=>false)
theorem kS_:∀ a b:List UInt8,seqU a b=decide (a=b)
 |[],[]=>rfl
 |[],y :: m=>rfl
 |x :: l,[]=>rfl
 |x :: l,y :: m=>by
  show (Bool.rec false (seqU l m) (Nat.beq x.toNat y.toNat):Bool)=_
  cases hb:Nat.beq x.toNat y.toNat with
  |true =>
   obtain rfl:x=y:=UInt8.toNat_inj.1 (Nat.eq_of_beq_eq_true hb)
   show seqU l m=_
   rw [kS_ l m]
   simp
  |false =>
   have hne:x≠y:=fun e=>by rw [e] at hb;rw [Nat.beq_refl] at hb;cases hb
   show false=_
   simp [hne]
theorem kR_ (p q:ByteArray):seqU p.data.toList q.data.toList=decide (p=q):=by
 rw [kS_]
 congr 1
 obtain ⟨⟨p⟩⟩:=p
 obtain ⟨⟨q⟩⟩:=q
 simp
theorem h3_ (c:Bool) (f:Bool→Res):nv_ c f=f c:=by cases c <;> rfl
theorem mt_ (P:Program) (b:BinOp) (ty:TypeId) (c:Bool) (x y:AVal) (h:Hp) (t:Tk) (n:Nat) (K:K1):ms_ b x y h t n K (qv 113 (abin P (store h t) b ty c x y) h t n K)=qv 113 (abin P (store h t) b ty c x y) h t n K:=by
 unfold ms_
 split
 ·rw [h3_,kR_];rfl
 ·rw [h3_,kR_];rfl
 ·rfl
theorem ky_ (P:Program) (ne:Md) (call:Cl) (ty0:TypeId) (b:BinOp) (ty:TypeId) (x y:Operand) (yt:TypeId) (e:Ev) (h:Hp) (t:Tk) (n:Nat) (K:K1):iq_ b ty x y yt P ne call ty0 e h t n K=opK P ne call ty0 (.binOp b ty x y yt) e h t n K:=by
 have slow:opK P ne call ty0 (.binOp b ty x y yt) e h t n K=qv 113 (abin P (store h t) b ty (a1_ x || a1_ y) (ev x e) (ev y e)) h t n K:=rfl
 rw [slow]
 show of_ (ms_ b (ev x e) (ev y e) h t n K _) (ev x e) (ev y e) b h t n K=_
 rw [mt_]
 unfold of_
 rcases ni_ (ev x e) (fun k a=>aN (ev y e) (fun k' m=>opt 113 (bOp b k k' a m (aint b k a k' m)) fun v=>K (.lit v) h t n) (qv 113 (abin P (store h t) b ty (a1_ x || a1_ y) (ev x e) (ev y e)) h t n K)) (qv 113 (abin P (store h t) b ty (a1_ x || a1_ y) (ev x e) (ev y e)) h t n K) with ⟨k,a,h1,h2⟩ | h2
 ·rw [h2]
  rcases ni_ (ev y e) (fun k' m=>opt 113 (bOp b k k' a m (aint b k a k' m)) fun v=>K (.lit v) h t n) (qv 113 (abin P (store h t) b ty (a1_ x || a1_ y) (ev x e) (ev y e)) h t n K) with ⟨k',m,h3,h4⟩ | h4
  ·rw [h4,h1,h3,o2_]
   show opt 113 (aint b k a k' m) (fun v=>K (.lit v) h t n)=opt 113 ((aint b k a k' m).map AVal.lit) fun a=>K a h t n
   cases aint b k a k' m <;> rfl
  ·exact h4
 ·exact h2
theorem mf_ (P:Program) (ne:Md) (call:Cl) (ty0:TypeId) (ty:TypeId) (x:Operand) (e:Ev) (h:Hp) (t:Tk) (n:Nat) (K:K1):og_ ty x P ne call ty0 e h t n K=opK P ne call ty0 (.load ty x) e h t n K:=by
 have slow:opK P ne call ty0 (.load ty x) e h t n K=qv 108 (bT_ P (store h t) ty (ev x e)) h t n K:=rfl
 rw [slow]
 show kB_ P _ ty (ev x e) h t n K=_
 unfold kB_
 rcases mD_ (ev x e) (fun o off=>Option.rec (qv 108 (bT_ P (store h t) ty (ev x e)) h t n K) (fun p=>ey_ (look o h) (fun cs=>gr_ cs off p.1 p.2 (fun a=>K a h t n) (.bad 108)) (qv 108 (bT_ P (store h t) ty (ev x e)) h t n K)) (aQ_ P ty)) (qv 108 (bT_ P (store h t) ty (ev x e)) h t n K) with ⟨o,off,h1,h2⟩ | h2
 ·rw [h2]
  cases ht:aQ_ P ty with
  |none=>rfl
  |some p =>
   show ey_ (look o h) (fun cs=>gr_ cs off p.1 p.2 (fun a=>K a h t n) (.bad 108)) _=_
   rcases gy_ (look o h) (fun cs=>gr_ cs off p.1 p.2 (fun a=>K a h t n) (.bad 108)) (qv 108 (bT_ P (store h t) ty (ev x e)) h t n K) with ⟨cs,h3,h4⟩ | h4
   ·rw [h4,jk_,h1]
    have hl:bT_ P (store h t) ty (.ref o off)=apart cs off p.1 p.2:=by
     unfold bT_
     rw [ht]
     show (match look o h with
      |some (.cells cs)=>apart cs off p.1 p.2
      |_=>none)=_
     rw [h3]
    rw [hl]
    unfold qv opt
    cases apart cs off p.1 p.2 <;> rfl
   ·exact h4
 ·exact h2
theorem me_ (P:Program) (ne:Md) (call:Cl) (ty0:TypeId) (s d:TypeId) (x:Operand) (e:Ev) (h:Hp) (t:Tk) (n:Nat) (K:K1):f5_ s d x P ne call ty0 e h t n K=dm_ P s d x e h t n K:=by
 show kz_ P _ s d (ev x e) h t n K=_
 unfold kz_
 rcases ni_ (ev x e) (fun _ m=>Option.rec (dm_ P s d x e h t n K) (fun k=>opt 115 (nrm k m (vN k) (some (.int k (k.wrap m)))) fun v=>K (.lit v) h t n) (lR_ P s d)) (dm_ P s d x e h t n K) with ⟨k0,m,h1,h2⟩ | h2
 ·rw [h2]
  cases hi:lR_ P s d with
  |none=>rfl
  |some k =>
   show opt 115 (nrm k m (vN k) (some (.int k (k.wrap m)))) (fun v=>K (.lit v) h t n)=_
   rw [dp_ rfl]
   unfold lR_ at hi
   split at hi
   ·rename_i ds k' hs hd
    obtain rfl:=Option.some.inj hi
    have hk:dm_ P s d x e h t n K=kAny P (.convert s d x) e h t n K:=by
     unfold dm_
     rw [h1]
     show gL_ P s d x e h t n K=_
     unfold gL_ jZ_
     rw [hs,hd,h1]
     cases ds <;> rfl
    rw [hk]
    show _=opt 115 (b0_ P s d (ev x e)) fun a=>K a h t n
    rw [h1]
    unfold b0_
    rw [hs,hd]
    cases ds <;> rfl
   ·cases hi
 ·exact h2
theorem kF_ (P:Program) (ne:Md) (call:Cl) (ty0:TypeId) (ty:TypeId) (ad x:Operand) (e:Ev) (h:Hp) (t:Tk) (n:Nat) (K:K1):kE_ ty ad x P ne call ty0 e h t n K=cG_ P ty (ev ad e) (ev x e) h t n K:=by
 show hF_ P _ ty (ev ad e) (ev x e) h t n K=_
 generalize ev ad e=ad
 generalize ev x e=x
 unfold hF_
 rw [oa_]
 cases hone:x.one with
 |false=>rfl
 |true =>
  show aRf ad _ _=_
  rcases mD_ ad (fun o off=>Option.rec (cG_ P ty ad x h t n K) (fun p=>Bool.rec (cG_ P ty ad x h t n K) (ey_ (look o h) (fun cs=>setK cs off x (fun l=>K .any (put o (.cells l) h) t n) (.bad 7)) (cG_ P ty ad x h t n K)) (Nat.beq 1 p.1)) (aQ_ P ty)) (cG_ P ty ad x h t n K) with ⟨o,off,h1,h2⟩ | h2
  ·rw [h2]
   cases ht:aQ_ P ty with
   |none=>rfl
   |some p =>
    show (Bool.rec _ _ (Nat.beq 1 p.1):Res)=_
    cases hb:Nat.beq 1 p.1 with
    |false=>rfl
    |true =>
     rcases gy_ (look o h) (fun cs=>setK cs off x (fun l=>K .any (put o (.cells l) h) t n) (.bad 7)) (cG_ P ty ad x h t n K) with ⟨cs,h3,h4⟩ | h4
     ·refine h4.trans ?_
      rw [h1]
      show _=ci_ (look o h) fun cs=>opt 6 (aQ_ P ty) fun p=>iff 7 (x.solid && x.cells.all AVal.one && Nat.beq x.cells.length p.1) (iy_ cs off x.cells fun l=>K .any (put o (.cells l) h) t n)
      rw [h3,ht,AVal.one_cells hone,kq_ hone]
      show _=iff 7 (true && (x.one && true) && Nat.beq 1 p.1) _
      rw [hone,hb]
      rfl
     ·exact h4
  ·exact h2
theorem mh_ (P:Program) (ne:Md) (call:Cl) (ty0:TypeId) (c a b:Operand) (e:Ev) (h:Hp) (t:Tk) (n:Nat) (K:K1):oi_ c a b P ne call ty0 e h t n K=opK P ne call ty0 (.pick c a b) e h t n K:=by
 show aB (ev c e) (fun v=>K (dZ_ v (ev a e) (ev b e)) h t n) (.bad 102)=opt 102 (match ev c e with
  |.lit (.bool t)=>some (dZ_ t (ev a e) (ev b e))
  |_=>none) fun a=>K a h t n
 rcases oO_ (ev c e) (fun v=>K (dZ_ v (ev a e) (ev b e)) h t n) (.bad 102) with ⟨v,h1,h2⟩ | ⟨h1,h2⟩
 ·rw [h2,h1];rfl
 ·rw [h2]
  have:(match ev c e with
   |.lit (.bool t)=>some (dZ_ t (ev a e) (ev b e))
   |_=>none)=none:=by
   split
   ·rename_i v hv;exact absurd hv (h1 v)
   ·rfl
  rw [this];rfl
theorem mY_ (P:Program) (ne:Md) (call:Cl) (ty0:TypeId) (op:Op) (e:Ev) (h:Hp) (t:Tk) (n:Nat) (K:K1):opQ op P ne call ty0 e h t n K=opK P ne call ty0 op e h t n K:=by
 cases op
 case binOp b ty x y yt=>exact ky_ P ne call ty0 b ty x y yt e h t n K
 case pick c a b=>exact mh_ P ne call ty0 c a b e h t n K
 case load ty x=>exact mf_ P ne call ty0 ty x e h t n K
 case convert s d x=>exact me_ P ne call ty0 s d x e h t n K
 case store ty ad x=>exact kF_ P ne call ty0 ty ad x e h t n K
 case build ty ps =>
  show opt 105 (dT_ P ty (ps.toList.map fun p=>(p.1,ev p.2 e))) (fun a=>h4_ a fun a=>K a h t n)=opt 105 (dT_ P ty (ps.toList.map fun p=>(p.1,ev p.2 e))) fun a=>K a h t n
  congr 1
  funext a
  exact jx_ a _
 case makeMap ty r=>cases r <;> rfl
 case next x b=>cases b <;> rfl
 all_goals rfl
theorem ks_ (P:Program) (ne:Md) (call:Cl) (ty0:TypeId) (op:Op) (e:Ev) (h:Hp) (t:Tk) (n:Nat) (K:K1):opN op P ne call ty0 e h t n K=opK P ne call ty0 op e h t n K ∨
  (∃ b ty x y yt,op=.binOp b ty x y yt∧nilC y=true∧opN op P ne call ty0 e h t n K=j4_ P b ty (ev x e) h t n K) ∨
  ∃ ty x lo hi mx,op=.slice ty x lo hi mx∧opN op P ne call ty0 e h t n K=eJ_ P ty x lo hi mx e h t n K:=by
 rw [← mY_]
 cases op
 case binOp b ty x y yt =>
  cases hn:nilC y with
  |false =>
   refine .inl ?_
   show (Bool.rec _ _ (nilC y):Res)=_
   rw [hn];rfl
  |true =>
   refine .inr (.inl ⟨b,ty,x,y,yt,rfl,hn,?_⟩)
   show (Bool.rec _ _ (nilC y):Res)=_
   rw [hn]
 case slice ty x lo hi mx=>exact .inr (.inr ⟨ty,x,lo,hi,mx,rfl,rfl⟩)
 all_goals exact .inl rfl
theorem kt_ (P:Program) (ne:Md) (call:Cl) (ty0:TypeId) (op:Op) (e:Ev) (h:Hp) (t:Tk) (n:Nat) (K:K1) (hv:isVal op=true):∃ c,opQ op P ne call ty0 e h t n K=opt c (aval P op (fun x=>ev x e) (store h t)) fun a=>K a h t n:=by
 rw [mY_]
 cases op <;> first | (cases hv;done) | exact ⟨_,rfl⟩ | exact ⟨0,rfl⟩
theorem ao_ {a b:Nat} (h:Nat.beq a b=true):a=b:=Nat.eq_of_beq_eq_true h
theorem dg_ {a b:Nat} (h:Nat.beq a b=false):a≠b:=Nat.ne_of_beq_eq_false h
theorem ke_ (t k:Nat) (v:AVal) (r:Ev):lk t (.cons k v r)=if k=t then v else lk t r:=by
 show (Bool.rec (lk t r) v (Nat.beq k t):AVal)=_
 cases h:Nat.beq k t with
 |true=>rw [if_pos (ao_ h)]
 |false=>rw [if_neg (dg_ h)]
theorem ba_ (o k a b:Nat) (r:Tk):tok o (.cons k a b r)=if k=o then some (a,b) else tok o r:=by
 show (Bool.rec (tok o r) (some (a,b)) (Nat.beq k o):Option (TypeId × Nat))=_
 cases h:Nat.beq k o with
 |true=>rw [if_pos (ao_ h)]
 |false=>rw [if_neg (dg_ h)]
theorem a7_ (o:Nat):look o .nil=none:=rfl
theorem aF_ (o:Nat) (l r:Hp) (v:Option AObj):look o (.node l r v)=if o=0 then v else if o % 2=1 then look (o / 2) l else look (o / 2 - 1) r:=by
 show (Bool.rec (Bool.rec (look (o / 2 - 1) r) (look (o / 2) l) (Nat.beq (o % 2) 1)) v (Nat.beq o 0):Option AObj)=_
 cases h:Nat.beq o 0 with
 |true=>rw [if_pos (ao_ h)]
 |false =>
  rw [if_neg (dg_ h)]
  cases h2:Nat.beq (o % 2) 1 with
  |true=>rw [if_pos (ao_ h2)]
  |false=>rw [if_neg (dg_ h2)]
theorem kU_ (x:AObj) (d o:Nat):sing x (d + 1) o=if o=0 then .node .nil .nil (some x) else if o % 2=1 then .node (sing x d (o / 2)) .nil none else .node .nil (sing x d (o / 2 - 1)) none:=by
 show (Bool.rec (Bool.rec (.node .nil (sing x d (o / 2 - 1)) none) (.node (sing x d (o / 2)) .nil none) (Nat.beq (o % 2) 1)) (.node .nil .nil (some x)) (Nat.beq o 0):Hp)=_
 cases h:Nat.beq o 0 with
 |true=>rw [if_pos (ao_ h)]
 |false =>
  rw [if_neg (dg_ h)]
  cases h2:Nat.beq (o % 2) 1 with
  |true=>rw [if_pos (ao_ h2)]
  |false=>rw [if_neg (dg_ h2)]
theorem oe_ (o:Nat) (x:AObj):put o x .nil=sing x (o + 1) o:=rfl
theorem md_ (o:Nat) (x:AObj) (l r:Hp) (v:Option AObj):put o x (.node l r v)=if o=0 then .node l r (some x) else if o % 2=1 then .node (put (o / 2) x l) r v else .node l (put (o / 2 - 1) x r) v:=by
 show (Bool.rec (Bool.rec (.node l (put (o / 2 - 1) x r) v) (.node (put (o / 2) x l) r v) (Nat.beq (o % 2) 1)) (.node l r (some x)) (Nat.beq o 0):Hp)=_
 cases h:Nat.beq o 0 with
 |true=>rw [if_pos (ao_ h)]
 |false =>
  rw [if_neg (dg_ h)]
  cases h2:Nat.beq (o % 2) 1 with
  |true=>rw [if_pos (ao_ h2)]
  |false=>rw [if_neg (dg_ h2)]
theorem eN_ (x:AObj):∀ (d o i:Nat),o < d→look i (sing x d o)=if i=o then some x else none
 |0,o,i,h=>by omega
 |d + 1,o,i,h=>by
  rw [kU_]
  by_cases ho:o=0
  ·rw [if_pos ho,aF_,ho]
   by_cases hi:i=0
   ·rw [if_pos hi,if_pos hi]
   ·rw [if_neg hi,if_neg hi,a7_,a7_];split <;> rfl
  ·rw [if_neg ho]
   by_cases hp:o % 2=1
   ·rw [if_pos hp,aF_,a7_,eN_ x d _ _ (by omega)]
    by_cases hi:i=0
    ·rw [if_pos hi,if_neg (by omega)]
    ·rw [if_neg hi]
     by_cases hq:i % 2=1
     ·rw [if_pos hq]
      by_cases h2:i=o
      ·rw [if_pos h2,if_pos (by omega)]
      ·rw [if_neg h2,if_neg (by omega)]
     ·rw [if_neg hq,if_neg (fun h2=>hq (by omega))]
   ·rw [if_neg hp,aF_,a7_,eN_ x d _ _ (by omega)]
    by_cases hi:i=0
    ·rw [if_pos hi,if_neg (by omega)]
    ·rw [if_neg hi]
     by_cases hq:i % 2=1
     ·rw [if_pos hq,if_neg (fun h2=>hp (by omega))]
     ·rw [if_neg hq]
      by_cases h2:i=o
      ·rw [if_pos h2,if_pos (by omega)]
      ·rw [if_neg h2,if_neg (by omega)]
theorem cn_ (x:AObj):∀ (h:Hp) (o i:Nat),look i (put o x h)=if i=o then some x else look i h
 |.nil,o,i=>by rw [oe_,eN_ x _ _ _ (by omega),a7_]
 |.node l r v,o,i=>by
  rw [md_,aF_ i l r v]
  by_cases ho:o=0
  ·rw [if_pos ho,aF_,ho]
   by_cases hi:i=0
   ·rw [if_pos hi,if_pos hi]
   ·rw [if_neg hi,if_neg hi,if_neg hi]
  ·rw [if_neg ho]
   by_cases hp:o % 2=1
   ·rw [if_pos hp,aF_,cn_ x l]
    by_cases hi:i=0
    ·rw [if_pos hi,if_neg (by omega),if_pos hi]
    ·rw [if_neg hi,if_neg hi]
     by_cases hq:i % 2=1
     ·rw [if_pos hq,if_pos hq]
      by_cases h2:i=o
      ·rw [if_pos h2,if_pos (by omega)]
      ·rw [if_neg h2,if_neg (by omega)]
     ·rw [if_neg hq,if_neg hq,if_neg (fun h2=>hq (by omega))]
   ·rw [if_neg hp,aF_,cn_ x r]
    by_cases hi:i=0
    ·rw [if_pos hi,if_neg (by omega),if_pos hi]
    ·rw [if_neg hi,if_neg hi]
     by_cases hq:i % 2=1
     ·rw [if_pos hq,if_pos hq,if_neg (fun h2=>hp (by omega))]
     ·rw [if_neg hq,if_neg hq]
      by_cases h2:i=o
      ·rw [if_pos h2,if_pos (by omega)]
      ·rw [if_neg h2,if_neg (by omega)]
theorem jS_ (o:Nat) (l r:Hp) (v:Option AObj):hdel o (.node l r v)=if o=0 then .node l r none else if o % 2=1 then .node (hdel (o / 2) l) r v else .node l (hdel (o / 2 - 1) r) v:=by
 show (Bool.rec (Bool.rec (.node l (hdel (o / 2 - 1) r) v) (.node (hdel (o / 2) l) r v) (Nat.beq (o % 2) 1)) (.node l r none) (Nat.beq o 0):Hp)=_
 cases h:Nat.beq o 0 with
 |true=>rw [if_pos (ao_ h)]
 |false =>
  rw [if_neg (dg_ h)]
  cases h2:Nat.beq (o % 2) 1 with
  |true=>rw [if_pos (ao_ h2)]
  |false=>rw [if_neg (dg_ h2)]
theorem br_:∀ (h:Hp) (o i:Nat),look i (hdel o h)=if i=o then none else look i h
 |.nil,o,i=>by
  show look i .nil=_
  rw [a7_];split <;> rfl
 |.node l r v,o,i=>by
  rw [jS_,aF_ i l r v]
  by_cases ho:o=0
  ·rw [if_pos ho,aF_,ho]
   by_cases hi:i=0
   ·rw [if_pos hi,if_pos hi]
   ·rw [if_neg hi,if_neg hi,if_neg hi]
  ·rw [if_neg ho]
   by_cases hp:o % 2=1
   ·rw [if_pos hp,aF_,br_ l]
    by_cases hi:i=0
    ·rw [if_pos hi,if_neg (by omega),if_pos hi]
    ·rw [if_neg hi,if_neg hi]
     by_cases hq:i % 2=1
     ·rw [if_pos hq,if_pos hq]
      by_cases h2:i=o
      ·rw [if_pos h2,if_pos (by omega)]
      ·rw [if_neg h2,if_neg (by omega)]
     ·rw [if_neg hq,if_neg hq,if_neg (fun h2=>hq (by omega))]
   ·rw [if_neg hp,aF_,br_ r]
    by_cases hi:i=0
    ·rw [if_pos hi,if_neg (by omega),if_pos hi]
    ·rw [if_neg hi,if_neg hi]
     by_cases hq:i % 2=1
     ·rw [if_pos hq,if_pos hq,if_neg (fun h2=>hp (by omega))]
     ·rw [if_neg hq,if_neg hq]
      by_cases h2:i=o
      ·rw [if_pos h2,if_pos (by omega)]
      ·rw [if_neg h2,if_neg (by omega)]
theorem dD_ (o i:Nat):∀ t:Tk,tok i (tdel o t)=if i=o then none else tok i t
 |.nil=>by show (none:Option (TypeId × Nat))=_;split <;> rfl
 |.cons k a b r=>by
  show tok i (Bool.rec (.cons k a b (tdel o r)) (tdel o r) (Nat.beq k o))=_
  cases hb:Nat.beq k o with
  |true =>
   have hk:=ao_ hb
   show tok i (tdel o r)=_
   rw [dD_ o i r,ba_,hk]
   by_cases h:i=o
   ·rw [if_pos h,if_pos h]
   ·rw [if_neg h,if_neg h,if_neg (Ne.symm h)]
  |false =>
   have hk:=dg_ hb
   show tok i (.cons k a b (tdel o r))=_
   rw [ba_,ba_,dD_ o i r]
   by_cases h:k=i
   ·rw [if_pos h,if_pos h,if_neg (fun hh=>hk (h.trans hh))]
   ·rw [if_neg h,if_neg h]
theorem ax_ (x:Operand) (e:Ev):ev x e=aev (env e) x:=by cases x <;> rfl
theorem dj_ (e:Ev):(fun x=>ev x e)=aev (env e):=funext fun x=>ax_ x e
theorem h6_ (k:Nat) (v:AVal) (e:Ev):env (.cons k v e)=upd (env e) k v:=funext fun j=>by
 show lk j (.cons k v e)=if j=k then v else lk j e
 rw [ke_]
 by_cases h:k=j
 ·rw [if_pos h,if_pos h.symm]
 ·rw [if_neg h,if_neg (Ne.symm h)]
theorem aI_ (d:Option Nat) (v:AVal) (e:Ev):env (dput d v e)=updo (env e) d v:=by
 cases d with
 |none=>rfl
 |some k=>exact h6_ k v e
theorem e4_ (h:Hp) (t:Tk) (o:Nat) (x:AObj):(store h t).set o x=store (put o x h) t:=by
 unfold store Store.set
 simp only [Store.mk.injEq,and_true]
 funext i
 rw [cn_]
theorem e3_ (h:Hp) (t:Tk) (o:Nat):(store h t).del o=store (hdel o h) t:=by
 unfold store Store.del
 simp only [Store.mk.injEq,and_true]
 funext i
 rw [br_]
theorem jM_ (n:Nat):(fun o=>n≤o∧o≠n)=fun o=>n + 1≤o:=funext fun o=>propext (by omega)
theorem b3_ (h:Hp) (t:Tk) (n:Nat) (x:AObj):(⟨(toSt h t n).st.set n x,fun o=>(toSt h t n).fr o∧o≠n⟩:NSt)=toSt (put n x h) t (n + 1):=by
 show (⟨(store h t).set n x,fun o=>n≤o∧o≠n⟩:NSt)=⟨_,_⟩
 rw [e4_,jM_]
theorem dY_ (h:Hp) (t:Tk) (n o:Nat) (x:AObj):(⟨(toSt h t n).st.set o x,(toSt h t n).fr⟩:NSt)=toSt (put o x h) t n:=by
 show (⟨(store h t).set o x,fun o=>n≤o⟩:NSt)=⟨_,_⟩
 rw [e4_]
theorem k7_ (h:Hp) (t t':Tk) (n:Nat) (old:Option Nat) (p:TypeId × Nat) (ht:∀ i,tok i t'=if i=n then some p else if some i=old then none else tok i t):(⟨(toSt h t n).st.newTok old n p,fun o=>(toSt h t n).fr o∧o≠n⟩:NSt)=toSt h t' (n + 1):=by
 have h1:(toSt h t n).st.newTok old n p=store h t':=by
  unfold toSt store Store.newTok
  simp only [Store.mk.injEq,true_and]
  funext i
  exact (ht i).symm
 have h2:(fun o=>(toSt h t n).fr o∧o≠n)=fun o=>n + 1≤o:=jM_ n
 rw [h1,h2];rfl
end Go.Nb
end

section
set_option linter.all false
set_option maxRecDepth 100000
namespace Go.Nb
open Go.Ab Go.RowKit
def PK (K:K1) (R:Res):AVal→NSt→Prop:=fun a s=>∃ h t n,s=toSt h t n∧K a h t n=R
def PO (K:Ko) (R:Res):Env→NSt→Prop:=fun e s=>∃ e' h t n,e=env e'∧s=toSt h t n∧K e' h t n=R
theorem ae_ {α:Type} {c:Nat} {x:Option α} {K:α→Res} {R:Res} (hR:R.fine) (h:opt c x K=R):∃ y,x=some y∧K y=R:=by
 cases x with
 |none=>subst h;exact hR.elim
 |some y=>exact ⟨y,rfl,h⟩
theorem af_ {c:Nat} {b:Bool} {r R:Res} (hR:R.fine) (h:iff c b r=R):b=true∧r=R:=by
 cases b with
 |false=>subst h;exact hR.elim
 |true=>exact ⟨rfl,h⟩
theorem fr_ {a:AVal} {K:Nat→Nat→Res} {R:Res} (hR:R.fine) (h:nr_ a K=R):∃ o off,a=.ref o off∧K o off=R:=by
 cases a with
 |ref o off=>exact ⟨o,off,rfl,h⟩
 |_=>subst h;exact hR.elim
theorem bo_ {x:Option AObj} {K:List AVal→Res} {R:Res} (hR:R.fine) (h:ci_ x K=R):∃ cs,x=some (.cells cs)∧K cs=R:=by
 unfold ci_ at h
 split at h
 ·exact ⟨_,rfl,h⟩
 ·subst h;exact hR.elim
section
variable {P:Program} {o:Oper} {e:Ev} {h:Hp} {t:Tk} {n:Nat} {K:K1} {R:Res}
def Does (P:Program) (o:Oper) (e:Ev) (h:Hp) (t:Tk) (n:Nat) (K:K1) (R:Res):Prop:=AOp P o (aev (env e)) (toSt h t n) (PK K R)
theorem fx_ (hR:R.fine) (hr:kAny P o.op e h t n K=R) {Q:AVal→NSt→Prop} (hQ:∀ a,K a h t n=R→Q a (toSt h t n)):AOp P o (aev (env e)) (toSt h t n) Q:=by
 obtain ⟨a,ha,hK⟩:=ae_ hR hr
 rw [dj_] at ha
 exact b5_ ha (hQ a hK)
theorem eI_ (hR:R.fine) (hr:kAny P o.op e h t n K=R):Does P o e h t n K R:=fx_ hR hr fun a hK=>⟨h,t,n,rfl,hK⟩
theorem nL_ (hR:R.fine) {ty:TypeId} {x:Operand} (ho:o.op=.box ty x) (hr:kBox (ev x e) h t n K=R):Does P o e h t n K R:=by
 obtain ⟨hs,hK⟩:=af_ hR hr
 rw [aE_] at hK
 rw [ax_] at hs hK
 exact AOp_box ho hs (Nat.le_refl n) ⟨_,_,_,b3_ h t n _,hK⟩
theorem dW_ {a:AVal} {r:List AVal} (h:eO_ a=some r):a=.agg (.lit (.pointer none) :: r):=by
 unfold eO_ at h
 split at h
 ·rw [Option.some.inj h]
 ·cases h
theorem do_ {l:List Value} {r:List Value} (h:dn_ l=some r):l=.pointer none :: r:=by
 unfold dn_ at h
 split at h
 ·rw [Option.some.inj h]
 ·cases h
theorem lV_ (hR:R.fine) {ty:TypeId} {x:Operand} (ho:o.op=.box ty x) (hr:iX_ ty (ev x e) h t n K=R):Does P o e h t n K R:=by
 unfold iX_ at hr
 cases hh:eO_ (ev x e) with
 |none=>rw [hh] at hr;exact nL_ hR ho hr
 |some r =>
  rw [hh] at hr
  exact AOp_boxP ho (by rw [← ax_];exact dW_ hh) (Nat.le_refl n) ⟨_,_,_,b3_ h t n _,hr⟩
theorem iW_ (hR:R.fine) {ty:TypeId} (ho:o.op=.alloc ty) (hr:f0_ P ty h t n K=R):Does P o e h t n K R:=by
 obtain ⟨z,hz,hr⟩:=ae_ hR hr
 cases hh:dn_ z.cells.toList with
 |none=>rw [hh] at hr;exact AOp_alloc ho hz (Nat.le_refl n) ⟨_,_,_,b3_ h t n _,(aE_ _ _).symm.trans hr⟩
 |some r=>rw [hh] at hr;exact AOp_allocP ho hz (do_ hh) (Nat.le_refl n) ⟨_,_,_,b3_ h t n _,hr⟩
theorem gO_ (hR:R.fine) {p:TypeId} {i:Nat} {K:TypeId × Nat→Res} (hr:kUns p i h K=R):∃ e m r,look i h=some (.cells (.nilp i e m :: r))∧K (e,m)=R:=by
 unfold kUns at hr
 split at hr
 ·rename_i j e m r hl
  obtain ⟨hj,hK⟩:=af_ hR hr
  rw [ao_ hj] at hl
  exact ⟨e,m,r,hl,hK⟩
 ·subst hr;exact hR.elim
theorem nR_ {ty:TypeId} (ho:o.op=.makeMap ty none) (hr:kMap h t n K=R):Does P o e h t n K R :=
 AOp_makeMap ho (Nat.le_refl n) ⟨_,_,_,b3_ h t n _,hr⟩
theorem ig_ (hR:R.fine) {ty:TypeId} {ad x:Operand} (ho:o.op=.store ty ad x) (hr:cG_ P ty (ev ad e) (ev x e) h t n K=R) {Q:AVal→NSt→Prop} (hQ:∀ a i off x,ev ad e=.ref i off→K a (put i x h) t n=R→Q a (toSt (put i x h) t n)):AOp P o (aev (env e)) (toSt h t n) Q:=by
 obtain ⟨i,off,ha,hr⟩:=fr_ hR hr
 obtain ⟨cs,hh,hr⟩:=bo_ hR hr
 obtain ⟨p,ht,hr⟩:=ae_ hR hr
 obtain ⟨hc,hK⟩:=af_ hR hr
 simp only [Bool.and_eq_true] at hc
 obtain ⟨⟨h1,h2⟩,h3⟩:=hc
 obtain ⟨h4,hK⟩:=hP_ hR hK
 have ha':=ha
 rw [ax_] at ha h1 h2 h3 h4 hK
 exact AOp_store (size:=p.1) (g:=p.2) ho ha hh ht h1 (fun c hc=>List.all_eq_true.1 h2 c hc) (ao_ h3) (by rw [← ao_ h3];exact h4) (by rw [dY_];exact hQ _ _ _ _ ha' hK)
theorem j8_ (hR:R.fine) {ty:TypeId} {ad x:Operand} (ho:o.op=.store ty ad x) (hr:cG_ P ty (ev ad e) (ev x e) h t n K=R):Does P o e h t n K R:=ig_ hR ho hr fun a i off x _ hK=>⟨_,_,_,rfl,hK⟩
theorem if_ (hR:R.fine) {ty:TypeId} {m:Nat} {parts:Array (Nat × Operand)} (ho:o.op=.buildSlice ty m parts) (hr:gM_ P ty m parts.toList e h t n K=R) {Q:AVal→NSt→Prop} (hQ:∀ a,K a h t n=R→Q a (toSt h t n)):AOp P o (aev (env e)) (toSt h t n) Q:=by
 obtain ⟨el,hel,hr⟩:=ae_ hR hr
 obtain ⟨p,hp,hr⟩:=ae_ hR hr
 obtain ⟨hc,hK⟩:=af_ hR hr
 simp only [Bool.and_eq_true,decide_eq_true_eq] at hc
 obtain ⟨⟨⟨h1,h2⟩,h3⟩,h4⟩:=hc
 rw [aE_] at hK
 simp only [ax_] at hK h4
 refine AOp_buildSlice (sz:=p.1) (by_:=p.2) ho hel hp (ao_ h1) h2 (fun q hq=>?_) (Nat.le_of_ble_eq_true h3) (hQ _ hK)
 have:=List.all_eq_true.1 h4 q hq
 simp only [Bool.and_eq_true] at this
 exact ⟨this.1,ao_ this.2⟩
theorem mv_ {sz:Nat} {tx:TypeId} {v:AVal} {l:List AVal} (hs:ou_ P sz tx v=some l):ASrc P sz tx v l:=by
 unfold ou_ at hs
 split at hs
 ·rename_i e' he
  split at hs
  ·exact .inl ⟨⟨e',he⟩,.inr ⟨rfl,(Option.some.inj hs).symm⟩,fun y hy=>by rw [← Option.some.inj hs] at hy;cases hy⟩
  ·split at hs
   ·rename_i v' _ _ p hp
    cases hb:(Nat.beq p.1 sz && p.2.all (fun y=>y.cells.all AVal.one)) with
    |false=>rw [hb] at hs;cases hs
    |true =>
     rw [hb] at hs
     obtain rfl:=Option.some.inj hs
     simp only [Bool.and_eq_true] at hb
     exact .inl ⟨⟨e',he⟩,.inl (by rw [hp,← ao_ hb.1]),fun y hy c hc=>List.all_eq_true.1 (List.all_eq_true.1 hb.2 y hy) c hc⟩
   ·cases hs
 ·rename_i he
  split at hs
  ·rename_i s
   cases hb:Nat.beq sz 1 with
   |false=>rw [hb] at hs;cases hs
   |true=>rw [hb] at hs;exact .inr ⟨he,ao_ hb,s,rfl,(Option.some.inj hs).symm⟩
  ·cases hs
 ·cases hs
theorem mS_ (hR:R.fine) {ty tx:TypeId} {x y:Operand} (ho:o.op=.call { callee:=.builtin .append,args:=#[x,y],argTypes:=#[ty,tx] }) (hr:kApp P ty tx (ev x e) (ev y e) h t n K=R)
  {Q:AVal→NSt→Prop} (hQ:∀ a t' n',(∀ i,(∀ k s l,ev x e=.own k s l→i≠k)→i≠n→tok i t'=tok i t)→K a h t' n'=R→Q a (toSt h t' n')):AOp P o (aev (env e)) (toSt h t n) Q:=by
 obtain ⟨el,hel,hr⟩:=ae_ hR hr
 obtain ⟨p,hp,hr⟩:=ae_ hR hr
 obtain ⟨l2,hl2,hr⟩:=ae_ hR hr
 have hsrc:=mv_ hl2
 rw [ax_] at hsrc hr
 rw [ax_] at hQ
 unfold pl_ at hr
 split at hr
 ·rename_i hx
  obtain ⟨hc,hK⟩:=af_ hR hr
  rw [aE_,ng_] at hK
  refine dF_ (sz:=p.1) (by_:=p.2) (m:=n) (l:=[]) (l2:=l2) (old:=none) ho hel hp (.inr ⟨hx,rfl,rfl⟩) hsrc (by simpa using Nat.le_of_ble_eq_true hc) (Nat.le_refl n) ?_
  rw [k7_ h t (.cons n el p.1 t) n none (el,p.1) (fun i=>by
   rw [ba_]
   by_cases hi:n=i
   ·rw [if_pos hi,if_pos hi.symm]
   ·rw [if_neg hi,if_neg (Ne.symm hi),if_neg (by simp)])]
  exact hQ _ _ _ (fun i _ hn=>by rw [ba_,if_neg (Ne.symm hn)]) hK
 ·rename_i s l hx
  obtain ⟨hc,hK⟩:=af_ hR hr
  rw [aE_] at hK
  simp only [Bool.and_eq_true] at hc
  exact AOp_appendTight (sz:=p.1) (by_:=p.2) ho hel hp (by rw [hx,ao_ hc.1]) hsrc (Nat.le_of_ble_eq_true hc.2) (hQ _ _ _ (fun _ _ _=>rfl) hK)
 ·rename_i k s l hx
  obtain ⟨q,hq,hr⟩:=ae_ hR hr
  obtain ⟨hc,hr⟩:=af_ hR hr
  rw [jl_,Nat.zero_add] at hr
  obtain ⟨h4,hK⟩:=af_ hR hr
  rw [ng_] at hK
  simp only [Bool.and_eq_true] at hc
  obtain ⟨⟨h1,h2⟩,h3⟩:=hc
  have hs:=ao_ h3
  have hq':tok k t=some (el,p.1):=by rw [hq,← ao_ h1,← ao_ h2]
  refine dF_ (sz:=p.1) (by_:=p.2) (m:=n) (l:=l) (l2:=l2) (old:=some k) ho hel hp (.inl ⟨k,by rw [hx,hs],hq',rfl⟩) hsrc (Nat.le_of_ble_eq_true h4) (Nat.le_refl n) ?_
  rw [k7_ h t (.cons n el p.1 (tdel k t)) n (some k) (el,p.1) (fun i=>by
   rw [ba_,dD_]
   by_cases hi:n=i
   ·rw [if_pos hi,if_pos hi.symm]
   ·rw [if_neg hi,if_neg (Ne.symm hi)]
    by_cases hk:i=k
    ·rw [if_pos hk,if_pos (by rw [hk])]
    ·rw [if_neg hk,if_neg (fun hh=>hk (Option.some.inj hh))])]
  exact hQ _ _ _ (fun i hk hn=>by rw [ba_,if_neg (Ne.symm hn),dD_,if_neg (hk _ _ _ hx)]) hK
 ·subst hr;exact hR.elim
theorem nJ_ (hR:R.fine) {ty tx:TypeId} {x y:Operand} (ho:o.op=.call { callee:=.builtin .append,args:=#[x,y],argTypes:=#[ty,tx] }) (hr:kApp P ty tx (ev x e) (ev y e) h t n K=R):Does P o e h t n K R:=mS_ hR ho hr fun a t' n' _ hK=>⟨h,t',n',rfl,hK⟩
theorem lT_ (hR:R.fine) {ty tx:TypeId} {x y:Operand} (ho:o.op=.call { callee:=.builtin .append,args:=#[x,y],argTypes:=#[ty,tx] }) (hr:pm_ P ty tx (ev x e) (ev y e) h t n K=R):Does P o e h t n K R:=by
 obtain ⟨el,hel,hr1⟩:=ae_ hR hr
 obtain ⟨p,hp,hr2⟩:=ae_ hR hr1
 obtain ⟨q,hq,hr3⟩:=ae_ hR hr2
 obtain ⟨hc,hr4⟩:=af_ hR hr3
 clear hr hr1 hr2 hr3
 simp only [Bool.and_eq_true] at hc
 obtain ⟨⟨⟨h1,h2⟩,h3⟩,h4⟩:=hc
 have hty:=ao_ h1
 subst hty
 have hne:q.2≠[]:=fun hh=>by rw [hh] at h4;cases h4
 rw [ax_] at hq hr4
 have hq':slOf (aev (env e) y)=some (p.1,q.2):=by rw [hq,← ao_ h2]
 have hone:∀ y∈q.2,∀ c∈y.cells,c.one=true:=fun y hy c hc=>List.all_eq_true.1 (List.all_eq_true.1 h3 y hy) c hc
 unfold mR_ at hr4
 split at hr4
 ·rename_i hx
  obtain ⟨hb,hK⟩:=af_ hR hr4
  rw [aE_] at hK
  refine AOp_appendM (sz:=p.1) (by_:=p.2) (m:=n) (len:=0) (base:=[]) (old:=none) ho hel hp (.inr ⟨hx,rfl,rfl,rfl⟩) hq' hne hone (by simpa using Nat.le_of_ble_eq_true hb) (Nat.le_refl n) ⟨put n (.cells (flat q.2)) h,t,n + 1,?_,by rw [Nat.zero_add];exact hK⟩
  rw [List.nil_append];exact b3_ h t n _
 ·rename_i s hx
  obtain ⟨hb,hK⟩:=af_ hR hr4
  rw [aE_] at hK
  simp only [Bool.and_eq_true] at hb
  exact AOp_copyM (sz:=p.1) (by_:=p.2) (m:=n) ho hel hp (by rw [hx,ao_ hb.1]) hq' hne (Nat.le_of_ble_eq_true hb.2) (Nat.le_refl n) ⟨_,_,_,b3_ h t n _,hK⟩
 ·rename_i so s off len hx
  obtain ⟨cs,hcs,hr5⟩:=bo_ hR hr4
  obtain ⟨hb,hK⟩:=af_ hR hr5
  rw [aE_] at hK
  simp only [Bool.and_eq_true] at hb
  obtain ⟨⟨⟨b1,b2⟩,b3⟩,b4⟩:=hb
  have hs:=ao_ b1
  have hoff:=ao_ b2
  refine AOp_appendM (sz:=p.1) (by_:=p.2) (m:=n) (len:=len) (base:=cs.take (len * p.1)) (old:=some so) ho hel hp (.inl ⟨so,cs,by rw [hx,hs,hoff],hcs,rfl,rfl,Nat.le_of_ble_eq_true b3⟩) hq' hne hone (Nat.le_of_ble_eq_true b4) (Nat.le_refl n) ⟨_,t,n + 1,?_,hK⟩
  show (⟨((store h t).del so).set n _,fun o=>n≤o∧o≠n⟩:NSt)=⟨_,_⟩
  rw [e3_,e4_,jM_]
 ·subst hr4;exact hR.elim
theorem lU_ (hR:R.fine) {wr:Bool} {ty tx:TypeId} {x y:Operand} (ho:o.op=.call { callee:=.builtin .append,args:=#[x,y],argTypes:=#[ty,tx] }) (hr:nK_ P wr ty tx (ev x e) (ev y e) h t n K=R):Does P o e h t n K R:=by
 unfold nK_ at hr
 cases hw:written wr (ev x e) (ev y e) with
 |false=>rw [hw] at hr;exact nJ_ hR ho hr
 |true=>rw [hw] at hr;exact lT_ hR ho hr
theorem j6_ (hR:R.fine) {ty:TypeId} {x y:Operand} (ho:o.op=.makeSlice ty x y) (hr:iY_ P ty (ev x e) (ev y e) h t n K=R) {Q:AVal→NSt→Prop} (hQ:∀ a x,K a (put n x h) t (n + 1)=R→Q a (toSt (put n x h) t (n + 1))):AOp P o (aev (env e)) (toSt h t n) Q:=by
 rw [ax_,ax_] at hr
 unfold iY_ at hr
 split at hr
 ·rename_i k1 a k2 b hx hy
  obtain ⟨el,hel,hr⟩:=ae_ hR hr
  obtain ⟨p,hp,hr⟩:=ae_ hR hr
  obtain ⟨z,hz,hr⟩:=ae_ hR hr
  obtain ⟨hc,hK⟩:=af_ hR hr
  rw [aE_] at hK
  simp only [Bool.and_eq_true,decide_eq_true_eq] at hc
  obtain ⟨⟨⟨⟨h1,h2⟩,h3⟩,h4⟩,h5⟩:=hc
  have hz1:z.cells=#[z]:=by cases z <;> first | rfl | cases h5
  exact AOp_makeSlice (by_:=p.2) (m:=n) (n:=a.toNat) ho hel (by rw [hp,← ao_ h1]) hz hz1 (by rw [hx,← h3]) (by rw [hy,← h2,← h3]) (Nat.le_of_ble_eq_true h4) (Nat.le_refl n) (by rw [b3_];exact hQ _ _ hK)
 ·subst hr;exact hR.elim
theorem l0_ (hR:R.fine) {ty:TypeId} {x y:Operand} (ho:o.op=.makeSlice ty x y) (hr:iY_ P ty (ev x e) (ev y e) h t n K=R):Does P o e h t n K R:=j6_ hR ho hr fun a x hK=>⟨_,_,_,rfl,hK⟩
theorem oA_ {a:AVal} {b:UInt8} (h:unb1 a=some b):a=.lit (.int .u8 (b.toNat:Int)):=by
 unfold unb1 at h
 split at h
 ·rename_i z
  cases hd:decide (z=((UInt8.ofNat z.toNat).toNat:Int)) with
  |false=>rw [hd] at h;cases h
  |true =>
   rw [hd] at h
   have hz:=of_decide_eq_true hd
   have hb:=Option.some.inj h
   rw [← hb,← hz]
 ·cases h
theorem hU_:∀ {l:List AVal} {bs:List UInt8},unbL l=some bs→aj_ ⟨⟨bs⟩⟩=l
 |[],bs,h=>by obtain rfl:=Option.some.inj (show some []=some bs from h);rfl
 |a :: l,bs,h=>by
  have h':(match unb1 a,unbL l with | some b,some r=>some (b :: r) | _,_=>none)=some bs:=h
  split at h'
  ·rename_i b r h1 h2
   obtain rfl:=Option.some.inj h'
   have:=hU_ h2
   rw [oA_ h1]
   unfold aj_ at this ⊢
   rw [← this];rfl
  ·cases h'
theorem j2_ (hR:R.fine) {src dst:TypeId} {x:Operand} (ho:o.op=.convert src dst x) (hr:jZ_ P src dst x e h t n K=R) {Q:AVal→NSt→Prop} (hQ:∀ a,K a h t n=R→Q a (toSt h t n)):AOp P o (aev (env e)) (toSt h t n) Q:=by
 unfold jZ_ at hr
 split at hr
 ·rename_i el s h1 h2 h3
  split at hr
  ·rename_i h4
   rw [ax_] at h3
   exact AOp_bytesOf ho h1 h2 h4 h3 (hQ _ hr)
  ·subst hr;exact hR.elim
 ·rename_i p i h1 h2 h3
  obtain ⟨e',m,r,hl,hr⟩:=gO_ hR hr
  obtain ⟨hc,hK⟩:=af_ hR hr
  simp only [Bool.and_eq_true,beq_iff_eq] at hc
  rw [ax_] at h3
  exact AOp_toUnsafe ho h1 h2 hc.2 h3 hl (Nat.le_of_ble_eq_true hc.1) (hQ _ hK)
 ·rename_i p i h1 h2 h3
  obtain ⟨e',m,r,hl,hr⟩:=gO_ hR hr
  obtain ⟨hc,hK⟩:=af_ hR hr
  simp only [Bool.and_eq_true] at hc
  rw [ax_] at h3
  exact AOp_fromUnsafe ho h1 h2 hc.1 h3 hl hc.2 (hQ _ hK)
 ·rename_i el k l h1 h2 h3
  split at hr
  ·rename_i h4
   obtain ⟨bs,hb,hK⟩:=ae_ hR hr
   have hl:=hU_ hb
   rw [ax_] at h3
   refine b5_ (a:=.lit (.string ⟨⟨bs⟩⟩)) ?_ (hQ _ hK)
   rw [ho]
   show b0_ P src dst (aev (env e) x)=_
   rw [h3,← hl]
   unfold b0_
   rw [h1,h2]
   simp only [h4]
   exact de_ _ _
  ·subst hr;exact hR.elim
 ·rw [← ho] at hr;exact fx_ hR hr hQ
theorem j0_ (hR:R.fine) {src dst:TypeId} {x:Operand} (ho:o.op=.convert src dst x) (hr:gL_ P src dst x e h t n K=R):Does P o e h t n K R:=by
 unfold gL_ at hr
 split at hr
 ·rename_i el s h1 h2 h3
  split at hr
  ·rename_i h4
   obtain ⟨hc,hK⟩:=af_ hR hr
   rw [aE_] at hK
   rw [ax_] at h3
   refine AOp_bytesOwn (m:=n) ho h1 h2 h4 h3 (Nat.le_of_ble_eq_true hc) (Nat.le_refl n) ⟨_,_,_,k7_ h t _ n none (el,1) (fun i=>?_),hK⟩
   rw [ba_]
   by_cases hi:n=i
   ·rw [if_pos hi,if_pos hi.symm]
   ·rw [if_neg hi,if_neg (Ne.symm hi),if_neg (by simp)]
  ·subst hr;exact hR.elim
 ·exact j2_ hR ho hr fun a hK=>⟨h,t,n,rfl,hK⟩
theorem j1_ (hR:R.fine) {src dst:TypeId} {x:Operand} (ho:o.op=.convert src dst x) (hr:dm_ P src dst x e h t n K=R):Does P o e h t n K R:=by
 unfold dm_ at hr
 split at hr
 ·rename_i so _ _ _ _
  obtain ⟨cs,hcs,hr⟩:=bo_ hR hr
  obtain ⟨a,ha,hr⟩:=ae_ hR hr
  split at hr
  ·rename_i v
   refine oM_ (so:=so) (cs:=cs) (v:=v) hcs ?_ ⟨_,_,_,rfl,hr⟩
   rw [ho]
   have e1:(fun y=>fz so cs (ev y e))=fun y=>fz so cs (aev (env e) y):=funext fun y=>by rw [ax_]
   rw [e1] at ha
   have e2:(toSt h t n).st.del so=store (hdel so h) t:=e3_ h t so
   rw [e2]
   exact ha
  ·subst hr;exact hR.elim
 ·exact j0_ hR ho hr
theorem gl_ {K:List UInt8→Res} (hR:R.fine):∀ (l:Nat) (r:List UInt8),oy_ l r K=R→l≤r.length∧K (r.drop l)=R
 |0,r,h=>⟨Nat.zero_le _,h⟩
 |l + 1,[],h=>by
  have h':(Res.bad 193)=R:=h
  subst h';exact hR.elim
 |l + 1,a :: r,h=>by
  obtain ⟨h1,h2⟩:=gl_ hR l r h
  exact ⟨Nat.succ_le_succ h1,h2⟩
theorem ib_ (hR:R.fine):∀ (l:Nat) (r:List UInt8) (K:List UInt8→Res),pg_ l r K=R→l≤r.length∧K (r.take l)=R
 |0,r,K,h=>⟨Nat.zero_le _,h⟩
 |l + 1,[],K,h=>by
  have h':(Res.bad 194)=R:=h
  subst h';exact hR.elim
 |l + 1,a :: r,K,h=>by
  obtain ⟨h1,h2⟩:=ib_ hR l r (fun q=>K (a :: q)) h
  exact ⟨Nat.succ_le_succ h1,h2⟩
theorem e8_ (s:ByteArray) (l h:Nat):(⟨⟨(s.data.toList.drop l).take (h - l)⟩⟩:ByteArray)=s.extract l h:=by
 apply ByteArray.ext
 rw [ByteArray.data_extract]
 apply Array.ext'
 rw [Array.toList_extract]
theorem nV_ (hR:R.fine) {lo hi:Option AVal} {s:ByteArray} {K:AVal→Res} (hr:kSub lo hi s K=R):∃ l hh,alow lo=some l∧eu_ s.size hi=some hh∧(l≤hh∧hh≤s.size)∧K (.lit (.string (s.extract l hh)))=R:=by
 unfold kSub at hr
 obtain ⟨l,q1,hr⟩:=ae_ hR hr
 have hsz:s.data.toList.length=s.size:=rfl
 cases hi with
 |none =>
  obtain ⟨q2,hK⟩:=gl_ hR _ _ hr
  refine ⟨l,s.size,q1,rfl,⟨by omega,Nat.le_refl _⟩,?_⟩
  rw [← e8_,List.take_of_length_le (by rw [List.length_drop];omega)]
  exact hK
 |some x =>
  obtain ⟨hh,q2,hr⟩:=ae_ hR (show opt 191 (bI_ x) _=R from hr)
  obtain ⟨q3,hr⟩:=af_ hR hr
  obtain ⟨q4,hr⟩:=gl_ hR _ _ hr
  obtain ⟨q5,hK⟩:=ib_ hR _ _ _ hr
  have q3':=Nat.le_of_ble_eq_true q3
  rw [List.length_drop] at q5
  refine ⟨l,hh,q1,q2,⟨q3',by omega⟩,?_⟩
  rw [← e8_]
  exact hK
theorem gN_ (hR:R.fine) {ty:TypeId} {x:Operand} {lo hi mx:Option Operand} (ho:o.op=.slice ty x lo hi mx) (hr:eJ_ P ty x lo hi mx e h t n K=R) {Q:AVal→NSt→Prop} (hQ:∀ a,K a h t n=R→Q a (toSt h t n)):AOp P o (aev (env e)) (toSt h t n) Q:=by
 unfold eJ_ at hr
 split at hr
 ·rename_i m el so off h1 h2
  obtain ⟨cs,hcs,hr⟩:=bo_ hR hr
  obtain ⟨p,hp,hr⟩:=ae_ hR hr
  obtain ⟨hc,hK⟩:=af_ hR hr
  simp only [Bool.and_eq_true] at hc
  rw [ax_] at h2
  exact go_ (g:=p.2) ho h1 hp h2 hcs (Nat.le_of_ble_eq_true hc.1) (Nat.le_of_ble_eq_true hc.2.1) (by have:=Nat.le_of_ble_eq_true hc.2.2;simp only [maxLen];omega) (hQ _ hK)
 ·rename_i el hi mo h1 h2
  obtain ⟨el,q1,hr⟩:=ae_ hR (show opt 132 _ _=R from hr)
  obtain ⟨p,q2,hr⟩:=ae_ hR hr
  obtain ⟨a,q3,hr⟩:=ae_ hR hr
  obtain ⟨b,q4,hr⟩:=ae_ hR hr
  obtain ⟨c,q5,hr⟩:=ae_ hR hr
  obtain ⟨q6,hK⟩:=af_ hR hr
  simp only [Bool.and_eq_true] at q6
  have e1:=ao_ q6.1
  have e2:=ao_ q6.2.1
  have e3:=ao_ q6.2.2
  subst e1;subst e2;subst e3
  rw [ax_] at h2
  exact dQ_ ho q1 q2 h2 q3 q4 q5 (hQ _ hK)
 ·rename_i s hu hx
  obtain ⟨l,hh,q1,q2,q3,hK⟩:=nV_ hR hr
  refine fx_ hR (show kAny P o.op e h t n K=R from ?_) hQ
  have hav:aval P o.op (fun y=>ev y e) (store h t)=some (.lit (.string (s.extract l hh))):=by
   rw [ho]
   show ew_ P ty (ev x e) _ _ none=_
   unfold ew_
   rw [q1,hx]
   have hs:ak_ P ty=true:=by unfold ak_;rw [hu]
   simp only [hs,if_true,q2,if_pos q3]
  unfold kAny
  rw [hav]
  exact hK
 ·rw [← ho] at hr;exact fx_ hR hr hQ
theorem lY_ (hR:R.fine) {c:Call} {x y:Operand} {t1 t2:TypeId} (ho:o.op=.call c) (hf:c.callee=.builtin .copy) (ha:c.args.toList=[x,y]) (hb:c.argTypes.toList=[t1,t2]) (hr:nM_ P t1 t2 (ev x e) (ev y e) h t n K=R):Does P o e h t n K R:=by
 obtain ⟨cal,args,argTypes⟩:=c
 obtain rfl:cal=.builtin .copy:=hf
 obtain rfl:args=#[x,y]:=Array.ext' ha
 obtain rfl:argTypes=#[t1,t2]:=Array.ext' hb
 rw [ax_,ax_] at hr
 unfold nM_ at hr
 split at hr
 ·rename_i so off len b hx hy
  obtain ⟨cs,hcs,hr⟩:=bo_ hR hr
  obtain ⟨el,hel,hr⟩:=ae_ hR hr
  obtain ⟨p,hp,hr⟩:=ae_ hR hr
  obtain ⟨hc,hK⟩:=af_ hR hr
  rw [aE_] at hK
  simp only [Bool.and_eq_true] at hc
  obtain ⟨h1,h2,h3⟩:=hc
  exact hd_ (by_:=p.2) ho hel (by rw [hp,← ao_ h1]) hx hcs (Nat.le_of_ble_eq_true h2) hy (Nat.le_of_ble_eq_true h3) ⟨_,_,_,dY_ h t n so _,hK⟩
 ·subst hr;exact hR.elim
theorem j7_ (hR:R.fine) {ty:TypeId} {x:Operand} (ho:o.op=.range ty x) (hr:ie_ P ty (ev x e) h t n K=R):Does P o e h t n K R:=by
 rw [ax_] at hr
 unfold ie_ at hr
 split at hr
 ·rename_i s h1 h2
  exact AOp_rangeS ho h1 h2 (Nat.le_refl n) ⟨_,_,_,b3_ h t n _,hr⟩
 ·subst hr;exact hR.elim
theorem l1_ (hR:R.fine) {x:Operand} (ho:o.op=.next x true) (hr:nS_ (ev x e) h t n K=R):Does P o e h t n K R:=by
 rw [ax_] at hr
 obtain ⟨i,off,ha,hr⟩:=fr_ hR hr
 obtain ⟨h0,hr⟩:=af_ hR hr
 rw [ao_ h0] at ha
 split at hr
 ·rename_i b p hl
  cases hb:Nat.ble (Nat.succ p) b.size with
  |true=>rw [hb] at hr;exact iI_ ho ha hl (Nat.le_of_ble_eq_true hb) ⟨_,_,_,dY_ h t n i _,hr⟩
  |false=>rw [hb] at hr;exact iH_ ho ha hl (fun hlt=>by rw [Nat.ble_eq_true_of_le hlt] at hb;cases hb) ⟨_,_,_,rfl,hr⟩
 ·subst hr;exact hR.elim
def bh_ (P:Program) (call:Cl):Prop:=∀ f args h t n v h' t' n',call f args h t n=.ok v h' t' n'→ACalls P f args (toSt h t n) fun a s=>a=v∧s=toSt h' t' n'
theorem hH_ {call:Cl} (hc:bh_ P call) (hR:R.fine) {f:FuncId} {args:List AVal} (hr:res1 (call f args h t n) K=R):ACalls P f args (toSt h t n) (PK K R):=by
 cases hcall:call f args h t n with
 |bad m=>rw [hcall] at hr;subst hr;exact hR.elim
 |ok v h' t' n' =>
  rw [hcall] at hr
  exact (hc _ _ _ _ _ _ _ _ _ hcall).mono fun a s ⟨h1,h2⟩=>⟨h',t',n',h2,by rw [h1];exact hr⟩
theorem j9_ {call:Cl} (hc:bh_ P call) (hR:R.fine) {c:Call} {f:Operand} (ho:o.op=.call c) (hf:c.callee=.value f) (hr:kVal P call (ev f e) (c.args.toList.map fun x=>ev x e) h t n K=R):Does P o e h t n K R:=by
 rw [dj_,ax_] at hr
 unfold kVal at hr
 split at hr
 ·rename_i g a b hfv
  obtain ⟨hc1,hr2⟩:=af_ hR hr
  clear hr
  simp only [Bool.and_eq_true] at hc1
  obtain ⟨⟨hg,ha⟩,hb⟩:=hc1
  obtain rfl:a=#[]:=Array.ext' (List.length_eq_zero_iff.1 (ao_ ha))
  obtain rfl:b=#[]:=Array.ext' (List.length_eq_zero_iff.1 (ao_ hb))
  exact bY_ (first:=[]) (captured:=[]) ho hf (.inr ⟨hfv,rfl,rfl⟩) hg (by rw [List.nil_append,List.append_nil];exact hH_ hc hR hr2)
 ·rename_i g first cap hfv
  obtain ⟨hg,hr⟩:=af_ hR hr
  exact bY_ (first:=first) (captured:=cap) ho hf (.inl hfv) hg (hH_ hc hR hr)
 ·subst hr;exact hR.elim
theorem nP_ {call:Cl} (hc:bh_ P call) (hR:R.fine) {c:Call} {x:Operand} {name:String} (ho:o.op=.call c) (hf:c.callee=.invoke x name) (hr:kInv P call (ev x e) name (c.args.toList.map fun x=>ev x e) h t n K=R):Does P o e h t n K R:=by
 obtain ⟨cal,args,argTypes⟩:=c
 obtain rfl:cal=.invoke x name:=hf
 rw [dj_,ax_] at hr
 unfold kInv at hr
 split at hr
 ·rename_i ty a hx
  obtain ⟨m,hm,hr⟩:=ae_ hR hr
  obtain ⟨r,hr1,hr⟩:=ae_ hR hr
  obtain ⟨hg,hr⟩:=af_ hR hr
  exact fl_ (f:=m.1) (ptr:=m.2) ho hx hm hr1 hg (hH_ hc hR hr)
 ·subst hr;exact hR.elim
theorem id_ {d:TypeDesc} {v:Value} (h:lS_ d v=true):Go.MapKept.IsKey d v:=by
 unfold lS_ at h
 split at h
 ·trivial
 ·rename_i k k' m
  have h':k'=k:=of_decide_eq_true h
  exact h'
 ·trivial
 ·cases h
theorem iO_ {x:Option AObj} {K:List (Value × AVal)→Res} {R:Res} (hR:R.fine) (h:nq_ x K=R):∃ kvs,x=some (.map kvs)∧K kvs=R:=by
 unfold nq_ at h
 split at h
 ·exact ⟨_,rfl,h⟩
 ·subst h;exact hR.elim
theorem c5_ (hR:R.fine) {ty:TypeId} {m k:AVal} {K:Nat→Value→List (Value × AVal)→Res} (hr:gT_ P ty m k h K=R):∃ kt et kd mo kv kvs,P.underlying ty=some (.map kt et)∧P.underlying kt=some kd∧m=.map mo∧k=.lit kv∧look mo h=some (.map kvs)∧Go.MapKept.IsKey kd kv∧(∀ x∈kvs,Go.MapKept.IsKey kd x.1)∧K mo kv kvs=R:=by
 unfold gT_ at hr
 split at hr
 ·rename_i kt et h1
  split at hr
  ·rename_i kd mo kv h2
   obtain ⟨kvs,h3,hr⟩:=iO_ hR hr
   obtain ⟨hc,hK⟩:=af_ hR hr
   simp only [Bool.and_eq_true] at hc
   exact ⟨kt,et,kd,mo,kv,kvs,h1,h2,rfl,rfl,h3,id_ hc.1,fun x hx=>id_ (List.all_eq_true.1 hc.2 x hx),hK⟩
  ·subst hr;exact hR.elim
 ·subst hr;exact hR.elim
theorem mT_ (hR:R.fine) {ty:TypeId} {m k x:Operand} (ho:o.op=.mapUpdate ty m k x) (hr:kUpd P ty (ev m e) (ev k e) (ev x e) h t n K=R) {Q:AVal→NSt→Prop} (hQ:∀ a mo x,ev m e=.map mo→K a (put mo x h) t n=R→Q a (toSt (put mo x h) t n)):AOp P o (aev (env e)) (toSt h t n) Q:=by
 obtain ⟨kt,et,kd,mo,kv,kvs,h1,h2,h3,h4,h5,h6,h7,hK⟩:=c5_ hR hr
 have h3':=h3
 rw [ax_] at h3 h4 hK
 exact AOp_mapUpdate ho h1 h2 h3 h5 h4 h6 h7 (by rw [dY_];exact hQ _ _ _ h3' hK)
theorem nW_ (hR:R.fine) {ty:TypeId} {m k x:Operand} (ho:o.op=.mapUpdate ty m k x) (hr:kUpd P ty (ev m e) (ev k e) (ev x e) h t n K=R):Does P o e h t n K R:=mT_ hR ho hr fun a mo x _ hK=>⟨_,_,_,rfl,hK⟩
theorem nN_ (hR:R.fine) {c:Call} {m k:Operand} {t1 t2:TypeId} (ho:o.op=.call c) (hf:c.callee=.builtin .delete) (ha:c.args.toList=[m,k]) (hb:c.argTypes.toList=[t1,t2]) (hr:kDel P t1 (ev m e) (ev k e) h t n K=R):Does P o e h t n K R:=by
 obtain ⟨cal,args,argTypes⟩:=c
 obtain rfl:cal=.builtin .delete:=hf
 obtain rfl:args=#[m,k]:=Array.ext' ha
 obtain rfl:argTypes=#[t1,t2]:=Array.ext' hb
 obtain ⟨kt,et,kd,mo,kv,kvs,h1,h2,h3,h4,h5,h6,h7,hK⟩:=c5_ hR hr
 rw [ax_] at h3 h4
 exact AOp_delete ho h1 h2 h3 h5 h4 h6 h7 ⟨_,_,_,dY_ h t n mo _,hK⟩
theorem jY_ (hR:R.fine) {c:Call} {x:Operand} {t1:TypeId} (ho:o.op=.call c) (hf:c.callee=.builtin .clear) (ha:c.args.toList=[x]) (hb:c.argTypes.toList=[t1]) (hr:jX_ P t1 (ev x e) h t n K=R):Does P o e h t n K R:=by
 obtain ⟨cal,args,argTypes⟩:=c
 obtain rfl:cal=.builtin .clear:=hf
 obtain rfl:args=#[x]:=Array.ext' ha
 obtain rfl:argTypes=#[t1]:=Array.ext' hb
 rw [ax_] at hr
 unfold jX_ at hr
 split at hr
 ·rename_i so sz off len hx
  obtain ⟨cs,hcs,hr⟩:=bo_ hR hr
  obtain ⟨el,hel,hr⟩:=ae_ hR hr
  obtain ⟨z,hz,hr⟩:=ae_ hR hr
  obtain ⟨hc,hK⟩:=af_ hR hr
  rw [aE_] at hK
  simp only [Bool.and_eq_true] at hc
  obtain ⟨h1,h2,h3⟩:=hc
  refine iG_ (z:=z) ho hel hz (ao_ h1) (fun j hj=>?_) hx hcs (ao_ h3) ⟨_,_,_,dY_ h t n so _,hK⟩
  have:=List.all_eq_true.1 h2 (z.cells[j]!) (by
   rw [getElem!_pos z.cells j hj]
   exact Array.mem_toList_iff.2 (Array.getElem_mem hj))
  exact this
 ·subst hr;exact hR.elim
theorem j3_ (hR:R.fine) {c:Call} {x:Operand} {t1:TypeId} (ho:o.op=.call c) (hf:c.callee=.builtin .unsafeSliceData) (ha:c.args.toList=[x]) (hb:c.argTypes.toList=[t1]) (hr:lZ_ P o.type (ev x e) h t n K=R) {Q:AVal→NSt→Prop} (hQ:∀ a,K a h t n=R→Q a (toSt h t n)):AOp P o (aev (env e)) (toSt h t n) Q:=by
 obtain ⟨cal,args,argTypes⟩:=c
 obtain rfl:cal=.builtin .unsafeSliceData:=hf
 obtain rfl:args=#[x]:=Array.ext' ha
 obtain rfl:argTypes=#[t1]:=Array.ext' hb
 rw [ax_] at hr
 unfold lZ_ at hr
 split at hr
 ·rename_i el hel
  split at hr
  ·rename_i k s l hx
   obtain ⟨p,hp,hr⟩:=ae_ hR hr
   obtain ⟨hc,hK⟩:=af_ hR hr
   simp only [Bool.and_eq_true] at hc
   have hs:=ao_ hc.1
   subst hs
   exact AOp_sliceData (e0:=p.1) ho hel (.inl ⟨hx,by rw [show (toSt h t n).st.tok k=tok k t from rfl,hp,← ao_ hc.2]⟩) (hQ _ hK)
  ·rename_i hx
   exact AOp_sliceData (e0:=0) ho hel (.inr ⟨hx,rfl⟩) (hQ _ hr)
  ·subst hr;exact hR.elim
 ·subst hr;exact hR.elim
theorem rx_ (h:Hp) (t:Tk) (n k:Nat):(⟨(toSt h t n).st.delTok k,(toSt h t n).fr⟩:NSt)=toSt h (tdel k t) n:=by
 have:(store h t).delTok k=store h (tdel k t):=by
  unfold store Store.delTok
  simp only [Store.mk.injEq,true_and]
  funext i
  rw [dD_]
 show (⟨(store h t).delTok k,_⟩:NSt)=⟨_,_⟩
 rw [this];rfl
theorem nU_ (hR:R.fine) {c:Call} {x y:Operand} {t1 t2:TypeId} (ho:o.op=.call c) (hf:c.callee=.builtin .unsafeString) (ha:c.args.toList=[x,y]) (hb:c.argTypes.toList=[t1,t2]) (hr:kStr P t1 (ev x e) (ev y e) h t n K=R):Does P o e h t n K R:=by
 obtain ⟨cal,args,argTypes⟩:=c
 obtain rfl:cal=.builtin .unsafeString:=hf
 obtain rfl:args=#[x,y]:=Array.ext' ha
 obtain rfl:argTypes=#[t1,t2]:=Array.ext' hb
 rw [ax_,ax_] at hr
 unfold kStr at hr
 split at hr
 ·rename_i k l z hx hy
  obtain ⟨bs,hbs,hr⟩:=ae_ hR hr
  split at hr
  ·rename_i el hel
   obtain ⟨hc,hK⟩:=af_ hR hr
   simp only [Bool.and_eq_true,Bool.or_eq_true,decide_eq_true_eq,beq_iff_eq] at hc
   obtain ⟨⟨⟨h1,h2⟩,h3⟩,h4⟩:=hc
   have hsz:(⟨⟨bs⟩⟩:ByteArray).size=bs.length:=rfl
   refine AOp_unsafeString (b:=⟨⟨bs⟩⟩) ho hel (ao_ h1) (by rw [hU_ hbs];exact hx) (by rw [hy,h2,hsz]) (by rw [hsz];exact h4.imp (fun h=>ao_ h) fun h=>h) (by rw [hsz];exact Nat.le_of_ble_eq_true h3) ⟨_,_,_,rx_ h t n k,hK⟩
  ·subst hr;exact hR.elim
 ·subst hr;exact hR.elim
def NeOk (P:Program) (ne:Md):Prop:=∀ f,ne.ne f=true→bL_ P f=some Extern.AbiNoEscape.same
theorem po_ (hR:R.fine) {c:Call} {f:FuncId} (he:bL_ P f=some Extern.AbiNoEscape.same) (ho:o.op=.call c) (hf:c.callee=.value (.func f)) (hr:kNe c.args.toList e h t n K=R):Does P o e h t n K R:=by
 unfold kNe at hr
 split at hr
 ·rename_i x ha
  obtain ⟨cal,args,argTypes⟩:=c
  obtain rfl:cal=.value (.func f):=hf
  obtain rfl:args=#[x]:=Array.ext' ha
  rw [ax_] at hr
  exact AOp_extern ho he rfl (fun κ ev _ h=>ga_ (h _ (by simp))) (fun κ h=>.inl (h _ (by simp))) ⟨_,_,_,rfl,hr⟩
 ·subst hr;exact hR.elim
def Pure (P:Program) (pu:Nat→Bool) (call:Cl):Prop:=∀ f args v h' t' n',pu f=true→call f args .nil .nil 0=.ok v h' t' n'→∀ s:NSt,ACalls P f args s fun a s'=>a=v∧s'=s
theorem h8_ {h:Hp}:∀ (os done:List Nat) {κ:Go.Ab.K} {σ:Store} {a:AVal} {v:Value},Inv κ σ→(∀ i,i ∉ done→σ.heap i=look i h)→Rv κ a v→∃ κ' σ',κ'.w=κ.w∧κ.Le κ'∧Inv κ' σ'∧Rv κ' (frz h os done a) v∧(κ'.ρ=κ.ρ∧κ'.τ=κ.τ)∧(∀ i,i ∉ os→σ'.heap i=σ.heap i)∧σ'.tok=σ.tok
 |[],done,κ,σ,a,v,hI,_,hv=>⟨κ,σ,rfl,.refl κ,hI,hv,⟨rfl,rfl⟩,fun _ _=>rfl,rfl⟩
 |o :: os,done,κ,σ,a,v,hI,hd,hv=>by
  unfold frz
  split
  ·rename_i cs hn hl
   have ho:o ∉ done:=fun hm=>by
    have:done.any (Nat.beq o)=true:=List.any_eq_true.2 ⟨o,hm,Nat.beq_refl o⟩
    rw [hn] at this;cases this
   obtain ⟨κ1,q1,q2,q3,q4,q5,q6⟩:=gJ_ hI (so:=o) (cs:=cs) (by rw [hd o ho];exact hl)
   obtain ⟨κ2,σ2,r1,r2,r3,r4,⟨r5,r6⟩,r7,r8⟩:=h8_ os (o :: done) q3 (fun i hi=>by
    simp only [List.mem_cons,not_or] at hi
    rw [Store.del_ne _ hi.1];exact hd i hi.2) (q4 a v hv)
   exact ⟨κ2,σ2,r1.trans q1,q2.trans r2,r3,r4,⟨r5.trans q5,r6.trans q6⟩,fun i hi=>by
    simp only [List.mem_cons,not_or] at hi
    rw [r7 i hi.2,Store.del_ne _ hi.1],r8⟩
  ·obtain ⟨κ2,σ2,r1,r2,r3,r4,r5,r7,r8⟩:=h8_ os done hI hd hv
   exact ⟨κ2,σ2,r1,r2,r3,r4,r5,fun i hi=>r7 i fun hm=>hi (List.mem_cons_of_mem _ hm),r8⟩
theorem eM_ (h:Hp):∀ (os:List Nat) (i:Nat) (x:AObj),look i (fu_ os h)=some x→i ∉ os∧look i h=some x
 |[],i,x,hx=>⟨fun hm=>(by cases hm),hx⟩
 |o :: os,i,x,hx=>by
  rw [fu_,br_] at hx
  by_cases hi:i=o
  ·rw [if_pos hi] at hx;cases hx
  ·rw [if_neg hi] at hx
   obtain ⟨h1,h2⟩:=eM_ h os i x hx
   exact ⟨fun hm=>by rcases List.mem_cons.1 hm with h | h;exact hi h;exact h1 h,h2⟩
theorem ACalls.frozen {f:FuncId} {args args' os:List _} {v:AVal} (hp:∀ s:NSt,ACalls P f args' s fun a s'=>a=v∧s'=s) (hf:frz h os [] (.tup args)=.tup args'):ACalls P f args (toSt h t n) fun a s=>a=v∧s=toSt (fu_ os h) t n:=by
 intro κ vs hN hsz hvs
 have htup:Rv κ (.tup args) (.tuple vs):=.tup args vs hsz hvs
 obtain ⟨κ',σ',q1,q2,q3,q4,⟨q5,q6⟩,q7,q8⟩:=h8_ (h:=h) os [] hN.1 (fun _ _=>rfl) htup
 rw [hf] at q4
 cases q4 with
 |tup _ _ hn h' =>
  have h0:=hp ⟨σ',fun o=>n≤o⟩ κ' vs ⟨q3,fun o ho=>by rw [q5,q6];exact hN.2 o ho⟩ hn h'
  rw [q1] at h0
  refine h0.mono fun e w' ⟨cv,he,κ2,a,s2,r1,r2,r3,r4,r5,r6⟩=>?_
  subst r6
  refine ⟨cv,he,κ2,a,toSt (fu_ os h) t n,r1,q2.trans r2,⟨Inv.sub r3.1 ⟨fun o x e=>?_,fun o p e=>?_⟩,fun o ho=>r3.2 o ho⟩,r4,r5,rfl⟩
  ·obtain ⟨g1,g2⟩:=eM_ h os o x e
   exact (q7 o g1).trans g2
  ·show σ'.tok o=some p
   rw [q8];exact e
theorem nO_ {call:Cl} {pu:Nat→Bool} (hpp:Pure P pu call) (hR:R.fine) {c:Call} {f:FuncId} (hpu:pu f=true) (ho:o.op=.call c) (hf:c.callee=.value (.func f)) (hr:kFrz P call f (c.args.toList.map fun x=>ev x e) h t n K=R):Does P o e h t n K R:=by
 unfold kFrz at hr
 rw [dj_] at hr
 split at hr
 ·rename_i l hl
  obtain ⟨hg,hr⟩:=af_ hR hr
  cases hcall:call f l .nil .nil 0 with
  |bad m=>rw [hcall] at hr;subst hr;exact hR.elim
  |ok v h' t' n' =>
   rw [hcall] at hr
   refine bY_ (f:=.func f) (first:=[]) (captured:=[]) ho hf (.inr ⟨rfl,rfl,rfl⟩) hg ?_
   rw [List.nil_append,List.append_nil]
   exact (ACalls.frozen (hpp f l v h' t' n' hpu hcall) hl).mono fun a s ⟨h1,h2⟩=>⟨_,_,_,h2,by rw [h1];exact hr⟩
 ·subst hr;exact hR.elim
theorem kd_:∀ l:List UInt8,lenU l=l.length
 |[]=>rfl
 |_ :: l=>congrArg Nat.succ (kd_ l)
theorem n4_ (x:Nat) (f:Nat→Res):natK x f=f x:=by cases x <;> rfl
theorem nQ_ (hR:R.fine) {c:Call} (ho:o.op=.call c) (hf:c.callee=.builtin .len) (hr:kLen P c e h t n K=R):Does P o e h t n K R:=by
 unfold kLen at hr
 split at hr
 ·rename_i x ty h1 h2
  split at hr
  ·rename_i s hu hx
   refine eI_ hR ?_
   have hav:aval P o.op (fun y=>ev y e) (store h t)=some (.lit (.int .i64 (s.size:Int))):=by
    rw [ho]
    show jf_ P (store h t) c _=_
    unfold jf_
    rw [hf,h1,h2]
    simp only [alen,hu,hx,Option.map_some]
   unfold kAny
   rw [hav]
   rw [n4_,kd_] at hr
   exact hr
  ·rw [← ho] at hr;exact eI_ hR hr
 ·rw [← ho] at hr;exact eI_ hR hr
theorem lX_ {ne:Md} (hne:NeOk P ne) {call:Cl} (hc:bh_ P call) (hpp:Pure P ne.pu call) (hR:R.fine) {c:Call} (ho:o.op=.call c) (hr:lW_ P ne call o.type c e h t n K=R):Does P o e h t n K R:=by
 unfold lW_ at hr
 split at hr
 ·rename_i f hf
  cases hb:ne.ne f with
  |false =>
   rw [hb] at hr
   cases hq:(ne.pu f && !(hJ_ (c.args.toList.map fun x=>ev x e)).isEmpty) with
   |false=>rw [hq] at hr;exact j9_ hc hR ho hf hr
   |true =>
    rw [hq] at hr
    rw [Bool.and_eq_true] at hq
    exact nO_ hpp hR hq.1 ho hf hr
  |true=>rw [hb] at hr;exact po_ hR (hne f hb) ho hf hr
 ·rename_i f _ hf
  exact j9_ hc hR ho hf hr
 ·rename_i hf
  split at hr
  ·rename_i x y ty tx ha hb
   obtain ⟨cal,args,argTypes⟩:=c
   obtain rfl:cal=.builtin .append:=hf
   obtain rfl:args=#[x,y]:=Array.ext' ha
   obtain rfl:argTypes=#[ty,tx]:=Array.ext' hb
   exact lU_ hR ho hr
  ·subst hr;exact hR.elim
 ·rename_i x name hf;exact nP_ hc hR ho hf hr
 ·rename_i hf
  split at hr
  ·rename_i x y t1 t2 ha hb;exact lY_ hR ho hf ha hb hr
  ·subst hr;exact hR.elim
 ·rename_i hf
  split at hr
  ·rename_i x t1 ha hb;exact jY_ hR ho hf ha hb hr
  ·subst hr;exact hR.elim
 ·rename_i hf
  split at hr
  ·rename_i m k t1 t2 ha hb;exact nN_ hR ho hf ha hb hr
  ·subst hr;exact hR.elim
 ·rename_i hf
  split at hr
  ·rename_i x t1 ha hb;exact j3_ hR ho hf ha hb hr fun a hK=>⟨h,t,n,rfl,hK⟩
  ·subst hr;exact hR.elim
 ·rename_i hf
  split at hr
  ·rename_i x y t1 t2 ha hb;exact nU_ hR ho hf ha hb hr
  ·subst hr;exact hR.elim
 ·rename_i hf;exact nQ_ hR ho hf hr
 ·rw [← ho] at hr;exact eI_ hR hr
theorem pA_ {ne:Md} (hne:NeOk P ne) {call:Cl} (hc:bh_ P call) (hpp:Pure P ne.pu call) (hR:R.fine) (hr:opK P ne call o.type o.op e h t n K=R):Does P o e h t n K R:=by
 unfold opK at hr
 split at hr
 ·rename_i x ho
  exact b5_ (a:=ev x e) (by rw [ho,ax_];rfl) ⟨_,_,_,rfl,hr⟩
 ·rename_i x ho
  exact b5_ (a:=ev x e) (by rw [ho,ax_];rfl) ⟨_,_,_,rfl,hr⟩
 ·rename_i ho;exact lV_ hR ho hr
 ·rename_i ho;exact iW_ hR ho hr
 ·rename_i ho;exact nR_ ho hr
 ·rename_i ho;exact j8_ hR ho hr
 ·rename_i ho;exact if_ hR ho hr fun a hK=>⟨h,t,n,rfl,hK⟩
 ·rename_i ho;exact j1_ hR ho hr
 ·rename_i ho;exact j7_ hR ho hr
 ·rename_i ho;exact l1_ hR ho hr
 ·rename_i ho;exact lX_ hne hc hpp hR ho hr
 ·rename_i ho;exact nW_ hR ho hr
 ·rename_i ho;exact l0_ hR ho hr
 ·exact eI_ hR hr
end
section
variable {P:Program} {o:Oper} {e:Ev} {h:Hp} {t:Tk} {n:Nat} {K:K1} {R:Res} {ops:Array Oper} {call:Cl}
theorem im_ {a:AVal} {c:Bool} (h:n8_ a=some c) (κ:Go.Ab.K) (v:Value) (hv:Rv κ a v):∃ b n cap,v=.slice b n cap∧b.isNone=c:=by
 unfold n8_ at h
 split at h
 ·obtain rfl:=Option.some.inj h;exact ⟨none,0,0,hv.litInv,rfl⟩
 ·obtain rfl:=Option.some.inj h
  cases hv with
  |msl _ _ _ _ b cap n e hb hlen hs hn=>exact ⟨_,_,_,rfl,rfl⟩
 ·obtain rfl:=Option.some.inj h
  cases hv with
  |sl _ _ _ b off cap vals=>exact ⟨_,_,_,rfl,rfl⟩
 ·obtain rfl:=Option.some.inj h
  cases hv with
  |own _ _ _ _ h0 _ =>
   cases h0 with
   |sl _ _ _ b off cap vals=>exact ⟨_,_,_,rfl,rfl⟩
 ·cases h
theorem km_ {y:Operand} (h:nilC y=true) (ρ:Env):aev ρ y=.lit (.slice none 0 0):=by
 unfold nilC at h
 split at h
 ·rename_i v
  unfold vNil at h
  split at h
  ·rfl
  ·cases h
 ·cases h
theorem j5_ (hR:R.fine) {b:BinOp} {ty yt:TypeId} {x y:Operand} (ho:o.op=.binOp b ty x y yt) (hy:nilC y=true) (hr:j4_ P b ty (ev x e) h t n K=R):Does P o e h t n K R:=by
 obtain ⟨c,hc,hr⟩:=ae_ hR hr
 obtain ⟨el,hel,hr⟩:=ae_ hR hr
 rw [ax_] at hc
 split at hr
 ·exact fk_ (c:=c) (d:=c) ho (.inl ⟨rfl,rfl⟩) hel (km_ hy _) (fun κ v hv=>im_ hc κ v hv) ⟨_,_,_,rfl,hr⟩
 ·exact fk_ (c:=c) (d:=!c) ho (.inr ⟨rfl,rfl⟩) hel (km_ hy _) (fun κ v hv=>im_ hc κ v hv) ⟨_,_,_,rfl,hr⟩
 ·subst hr;exact hR.elim
theorem pB_ {ne:Md} (hne:NeOk P ne) {call:Cl} (hc:bh_ P call) (hpp:Pure P ne.pu call) (hR:R.fine) (hr:opN o.op P ne call o.type e h t n K=R):Does P o e h t n K R:=by
 rcases ks_ P ne call o.type o.op e h t n K with h1 | ⟨b,ty,x,y,yt,ho,hy,h1⟩ | ⟨ty,x,lo,hi,mx,ho,h1⟩
 ·exact pA_ hne hc hpp hR (h1.symm.trans hr)
 ·exact j5_ hR ho hy (h1.symm.trans hr)
 ·exact gN_ hR ho (h1.symm.trans hr) fun a hK=>⟨h,t,n,rfl,hK⟩
theorem gh_ {ne:Md} (hne:NeOk P ne) (hc:bh_ P call) (hpp:Pure P ne.pu call) (hR:R.fine) (hr:hO_ P ne ops call o e h t n K=R) {Q:Env→NSt→Prop} (hQ:∀ a h' t' n',K a h' t' n'=R→Q (updo (env e) o.dst a) (toSt h' t' n')):aT_ P ops o Q (env e) (toSt h t n):=by
 have main:opN o.op P ne call o.type e h t n K=R→AOp P o (aev (env e)) (toSt h t n) fun v s'=>Q (updo (env e) o.dst v) s':=fun hr=>(pB_ hne hc hpp hR hr).mono fun a s ⟨h',t',n',hs,hK⟩=>by rw [hs];exact hQ _ _ _ _ hK
 unfold hO_ at hr
 unfold aT_ aC_
 cases hg:o.guard with
 |none=>rw [hg] at hr;exact main hr
 |some g =>
  rw [hg] at hr
  obtain ⟨j,want⟩:=g
  obtain ⟨d,hd,hr⟩:=ae_ hR (show opt 22 ((ops[j]?).bind (·.dst)) _=R from hr)
  simp only [hd]
  split at hr
  ·rename_i b hb
   have hb':env e d=.lit (.bool b):=hb
   simp only [hb']
   cases hw:(b == want) with
   |true=>rw [hw] at hr;exact main hr
   |false=>rw [hw] at hr;exact hQ _ _ _ _ hr
  ·rename_i v hnb hb
   have hb':env e d=.lit v:=hb
   simp only [hb']
   exact hQ _ _ _ _ hr
  ·subst hr;exact hR.elim
theorem ku_ {ne:Md} (hne:NeOk P ne) (hc:bh_ P call) (hpp:Pure P ne.pu call) (hR:R.fine):∀ (l:List Oper) (e:Ev) (h:Hp) (t:Tk) (n:Nat) (K:Ko),opsK P ne ops call l e h t n K=R→aL_ P ops (PO K R) l (env e) (toSt h t n)
 |[],e,h,t,n,K,hr=>⟨e,h,t,n,rfl,rfl,hr⟩
 |o :: rest,e,h,t,n,K,hr=>gh_ (K:=fun a h t n=>opsK P ne ops call rest (dput o.dst a e) h t n K) hne hc hpp hR hr fun a h' t' n' hK=>by
  rw [← aI_]
  exact ku_ hne hc hpp hR rest _ _ _ _ _ hK
end
end Go.Nb
end

section
set_option linter.all false
set_option maxRecDepth 100000
namespace Go.Nb
open Go.Ab Go.RowKit
end Go.Nb
end

section
set_option linter.all false
set_option maxRecDepth 100000
namespace Go.Nb
open Go.Ab Go.RowKit
mutual
def geA (n:Nat):AVal→Bool
 |.agg l=>geL n l
 |.tup l=>geL n l
 |.sl _ l _=>geL n l
 |.own t _ l=>Nat.ble n t && geL n l
 |.msl o _ _ _=>Nat.ble n o
 |.ref o _=>Nat.ble n o
 |.ro a=>geA n a
 |.map o=>Nat.ble n o
 |.fn _ a b=>geL n a && geL n b
 |.iface _ a=>geA n a
 |.nilp o _ _=>Nat.ble n o
 |.sdp k l=>Nat.ble n k && geL n l
 |.mslc o _ _ _ _ _=>Nat.ble n o
 |_=>true
def geL (n:Nat):List AVal→Bool
 |[]=>true
 |a :: l=>geA n a && geL n l
end
def geO (n:Nat) (x:AObj):Bool:=match x with
 |.cells cs=>geL n cs
 |.map kvs=>kvs.all fun p=>geA n p.2
 |.raw _=>true
 |.mapIter m _ _ _=>match m with
  |none=>true
  |some o=>Nat.ble n o
theorem cF_ {n:Nat}:∀ {l:List AVal},geL n l=true→∀ a∈l,geA n a=true
 |b :: l,h,a,ha=>by
  simp only [geL,Bool.and_eq_true] at h
  rcases List.mem_cons.1 ha with rfl | ha
  ·exact h.1
  ·exact cF_ h.2 a ha
theorem ia_ {n:Nat} {a:AVal} (h:geA n a=true):∀ c∈a.cells,geA n c=true:=by
 cases a with
 |agg cs=>exact cF_ h
 |_=>intro c hc;simp only [AVal.cells,List.mem_singleton] at hc;subst hc;exact h
theorem nF_ {n:Nat} {l:List AVal} (h:geL n l=true):∀ c∈flat l,geA n c=true:=fun c hc=>by
 unfold flat at hc
 obtain ⟨y,hy,hc⟩:=List.mem_flatMap.1 hc
 exact ia_ (cF_ h y hy) c hc
structure GeR (n:Nat) (κ κ':K):Prop where
 w:κ'.w=κ.w
 I:κ'.I=κ.I
 X:κ'.X=κ.X
 rho:∀ o,n≤o→κ'.ρ o=κ.ρ o
 tau:∀ o,n≤o→κ'.τ o=κ.τ o
theorem Rv.ge {n:Nat} {κ κ':K} (hr:GeR n κ κ') {a:AVal} {v:Value} (h:Rv κ a v):geA n a=true→Rv κ' a v:=by
 have le:∀ {o},Nat.ble n o=true→n≤o:=fun h=>Nat.le_of_ble_eq_true h
 induction h with
 |any v=>intro _;exact .any v
 |lit v=>intro _;exact .lit v
 |agg cs vs hn _ ih=>intro hf;exact .agg cs vs hn fun i hi=>ih i hi (cF_ hf _ (List.getElem_mem hi))
 |tup cs vs hn _ ih=>intro hf;exact .tup cs vs hn fun i hi=>ih i hi (cF_ hf _ (List.getElem_mem hi))
 |slNil sz t=>intro _;exact .slNil sz t
 |slE sz t a=>intro _;exact .slE sz t a
 |sl sz l t b off cap vals hcap ht hsz hc hv ih=>intro hf;exact .sl sz l t b off cap vals hcap ht hsz (fun k hk=>by rw [hr.w,hr.I];exact hc k hk) fun k hk=>ih k hk (nF_ hf _ (List.getElem_mem hk))
 |own t sz l v h0 hτ ih =>
  intro hf
  simp only [geA,Bool.and_eq_true] at hf
  exact .own t sz l v (ih hf.2) (by rw [hr.tau t (le hf.1)];exact hτ)
 |msl o sz off len b cap n' e hb hlen hs hn=>intro hf;exact .msl o sz off len b cap n' e (by rw [hr.rho o (le hf)];exact hb) hlen (by rw [hr.w];exact hs) hn
 |ref o off b hb=>intro hf;exact .ref o off b (by rw [hr.rho o (le hf)];exact hb)
 |ro a b off vals hc hv ih=>intro hf;exact .ro a b off vals (fun k hk=>by rw [hr.w,hr.I];exact hc k hk) fun k hk=>ih k hk (ia_ (a:=a) hf _ (List.getElem_mem hk))
 |map o b hb=>intro hf;exact .map o b (by rw [hr.rho o (le hf)];exact hb)
 |fn f first captured vs ws hn _ hm _ ih ih' =>
  intro hf
  simp only [geA,Bool.and_eq_true] at hf
  exact .fn f first captured vs ws hn (fun i hi=>ih i hi (cF_ hf.1 _ (List.getElem_mem hi))) hm fun i hi=>ih' i hi (cF_ hf.2 _ (List.getElem_mem hi))
 |iface t a v _ ih=>intro hf;exact .iface t a v (ih hf)
 |nilp o e n' b hb hs=>intro hf;exact .nilp o e n' b (by rw [hr.rho o (le hf)];exact hb) (by rw [hr.w];exact hs)
 |sdp0 k a=>intro _;exact .sdp0 k a
 |sdp k l b c h0 hτ ih =>
  intro hf
  simp only [geA,Bool.and_eq_true] at hf
  exact .sdp k l b c (ih hf.2) (by rw [hr.tau k (le hf.1)];exact hτ)
 |mslc o sz off len cap e b n' hb hlen hs hn=>intro hf;exact .mslc o sz off len cap e b n' (by rw [hr.rho o (le hf)];exact hb) hlen (by rw [hr.w];exact hs) hn
theorem ORel.ge {n:Nat} {κ κ':K} (hr:GeR n κ κ') {x:AObj} {b:Nat} (hg:geO n x=true) (h:ORel κ x b):ORel κ' x b:=by
 cases x with
 |cells cs =>
  obtain ⟨c,e,h1,h2,h3⟩:=h
  exact ⟨c,e,by rw [hr.w];exact h1,h2,fun i hi=>Rv.ge hr (h3 i hi) (cF_ hg _ (List.getElem_mem hi))⟩
 |map kvs =>
  obtain ⟨es,cl,h1,h2,h3,h4,h5⟩:=h
  exact ⟨es,cl,by rw [hr.w];exact h1,h2,h3,h4,fun i hi hj=>⟨(h5 i hi hj).1,Rv.ge hr (h5 i hi hj).2 (List.all_eq_true.1 hg _ (List.getElem_mem hi))⟩⟩
 |raw o=>exact ⟨by rw [hr.w,hr.X];exact h.1,h.2⟩
 |mapIter m s se st =>
  obtain ⟨mb,h1,h2⟩:=h
  refine ⟨mb,?_,by rw [hr.w];exact h2⟩
  cases m with
  |none=>exact h1
  |some o =>
   obtain ⟨c,h1,h3⟩:=h1
   exact ⟨c,by rw [hr.rho o (Nat.le_of_ble_eq_true hg)];exact h1,h3⟩
def hun:Hp→Hp→Hp
 |.nil,h=>h
 |.node l r v,.nil=>.node l r v
 |.node l r v,.node l2 r2 v2=>.node (hun l l2) (hun r r2) (match v with
  |some x=>some x
  |none=>v2)
def tun:Tk→Tk→Tk
 |.nil,t=>t
 |.cons k e sz r,t=>.cons k e sz (tun r t)
theorem ee_:∀ (a b:Hp) (o:Nat),look o (hun a b)=match look o a with
  |some x=>some x
  |none=>look o b
 |.nil,b,o=>by rw [hun,a7_]
 |.node l r v,.nil,o=>by rw [hun,a7_];cases look o (.node l r v) <;> rfl
 |.node l r v,.node l2 r2 v2,o=>by
  show look o (.node (hun l l2) (hun r r2) (match v with
   |some x=>some x
   |none=>v2))=_
  rw [aF_ o (hun l l2),aF_ o l r v,aF_ o l2 r2 v2]
  by_cases h0:o=0
  ·rw [if_pos h0,if_pos h0,if_pos h0]
  ·rw [if_neg h0,if_neg h0,if_neg h0]
   by_cases h1:o % 2=1
   ·rw [if_pos h1,if_pos h1,if_pos h1];exact ee_ l l2 _
   ·rw [if_neg h1,if_neg h1,if_neg h1];exact ee_ r r2 _
theorem hT_:∀ (a b:Tk) (o:Nat),tok o (tun a b)=match tok o a with
  |some x=>some x
  |none=>tok o b
 |.nil,b,o=>rfl
 |.cons k e sz r,b,o=>by
  rw [tun,ba_,ba_]
  by_cases h:k=o
  ·rw [if_pos h,if_pos h]
  ·rw [if_neg h,if_neg h];exact hT_ r b o
def chkH (n:Nat):Hp→Nat→Nat→Bool
 |.nil,_,_=>true
 |.node l r v,a,b=>(match v with
  |none=>true
  |some x=>Nat.ble n b && geO n x) && (chkH n l (a + a) (a + b) && chkH n r (a + a) (a + a + b))
def chkT (n:Nat):Tk→Bool
 |.nil=>true
 |.cons k _ _ r=>Nat.ble n k && chkT n r
theorem fW_ {n:Nat}:∀ (h:Hp) (a b:Nat),chkH n h a b=true→∀ o x,look o h=some x→n≤a * o + b∧geO n x=true
 |.nil,a,b,_,o,x,hx=>by rw [a7_] at hx;cases hx
 |.node l r v,a,b,hc,o,x,hx=>by
  simp only [chkH,Bool.and_eq_true] at hc
  obtain ⟨h1,h2,h3⟩:=hc
  rw [aF_] at hx
  by_cases h0:o=0
  ·rw [if_pos h0] at hx
   subst hx
   simp only [Bool.and_eq_true] at h1
   exact ⟨by rw [h0,Nat.mul_zero,Nat.zero_add];exact Nat.le_of_ble_eq_true h1.1,h1.2⟩
  ·rw [if_neg h0] at hx
   by_cases hp:o % 2=1
   ·rw [if_pos hp] at hx
    obtain ⟨q1,q2⟩:=fW_ l _ _ h2 _ x hx
    refine ⟨?_,q2⟩
    have e:o=2 * (o / 2) + 1:=by omega
    have e2:a * o=a * (2 * (o / 2)) + a:=by
     have:=congrArg (a * ·) e
     simp only [Nat.mul_add,Nat.mul_one] at this
     exact this
    have e3:(a + a) * (o / 2)=a * (2 * (o / 2)):=by rw [← Nat.two_mul,Nat.mul_comm 2 a,Nat.mul_assoc]
    omega
   ·rw [if_neg hp] at hx
    obtain ⟨q1,q2⟩:=fW_ r _ _ h3 _ x hx
    refine ⟨?_,q2⟩
    have e:o=2 * (o / 2 - 1) + 2:=by omega
    have e2:a * o=a * (2 * (o / 2 - 1)) + a * 2:=by
     have:=congrArg (a * ·) e
     simp only [Nat.mul_add] at this
     exact this
    have e3:(a + a) * (o / 2 - 1)=a * (2 * (o / 2 - 1)):=by rw [← Nat.two_mul,Nat.mul_comm 2 a,Nat.mul_assoc]
    omega
theorem jA_ {n:Nat}:∀ (t:Tk),chkT n t=true→∀ o p,tok o t=some p→n≤o
 |.nil,_,o,p,hx=>by cases hx
 |.cons k e sz r,hc,o,p,hx=>by
  simp only [chkT,Bool.and_eq_true] at hc
  rw [ba_] at hx
  by_cases h:k=o
  ·rw [← h];exact Nat.le_of_ble_eq_true hc.1
  ·rw [if_neg h] at hx;exact jA_ r hc.2 o p hx
noncomputable def tkNew:Tk→Tk→Bool
 |.nil,_=>true
 |.cons k _ _ r,t=>(tok k t).isNone && tkNew r t
theorem iB_:∀ (a b:Tk),tkNew a b=true→∀ o p,tok o b=some p→tok o a=none
 |.nil,b,_,o,p,hp=>rfl
 |.cons k e sz r,b,hc,o,p,hp=>by
  simp only [tkNew,Bool.and_eq_true] at hc
  rw [ba_]
  by_cases h:k=o
  ·subst h;rw [hp] at hc;cases hc.1
  ·rw [if_neg h];exact iB_ r b hc.2 o p hp
theorem la_ {h0 h h':Hp} {t0 t t':Tk} (hs:(store h0 t0).Sub (store h t)) (hn:tkNew t' t0=true):(store h0 t0).Sub (store (hun h h') (tun t' t)) :=
 ⟨fun o x e=>by
  have h1:look o h=some x:=hs.heap o x e
  show look o (hun h h')=some x
  rw [ee_,h1],fun o p e=>by
  have h1:tok o t=some p:=hs.tok o p e
  show tok o (tun t' t)=some p
  rw [hT_,iB_ t' t0 hn o p e];exact h1⟩
theorem aY_.base_le {w:World} {base base':Nat} {e:TypeId} {size:Nat} {v:Value} {n:Nat} {xs:List Value} (hb:base'≤base) (h:aY_ w base e size v n xs):aY_ w base' e size v n xs:=by
 refine ⟨h.1,?_⟩
 rcases h.2 with h | ⟨g,cap,cur,fr,h1,h2,h3⟩
 ·exact .inl h
 ·exact .inr ⟨g,cap,cur,fr,h1,Nat.le_trans hb h2,h3⟩
theorem mz_ {κ:K} {p:TypeId × Nat} {v:Value} {b:Nat} (h:db_ κ p v) (hb:an_ v=some b):κ.base≤b:=by
 obtain ⟨n,xs,⟨_,h⟩,_⟩:=h
 rcases h with ⟨rfl,_⟩ | ⟨g,cap,cur,fr,rfl,h2,_⟩
 ·cases hb
 ·have:=Option.some.inj hb
  rw [← this];exact h2
section
variable {P:Program}
theorem ACalls.fresh {f:FuncId} {args:List AVal} {v:AVal} {h h':Hp} {t t':Tk} {n n':Nat} (hc:ACalls P f args (toSt .nil .nil n) fun a s=>a=v∧s=toSt h' t' n') (ha:nfL args=true) (hv:geA n v=true) (hh:chkH n h' 1 0=true) (ht:chkT n t'=true) (hn:n≤n') :
  ACalls P f args (toSt h t n) fun a s=>a=v∧s=toSt (hun h h') (tun t' t) n':=by
 intro κ vs hN hsz hvs
 obtain ⟨κ0,hκ0⟩:∃ κ0:K,κ0={ w:=κ.w,base:=κ.w.heap.size,ρ:=fun _=>none,τ:=fun _=>none,I:=κ.I,X:=κ.X }:=⟨_,rfl⟩
 have hI:=hN.1
 have hN0:NInv κ0 (toSt .nil .nil n):=by
  subst hκ0
  refine ⟨⟨fun p hp=>?_,Nat.le_refl _,fun _ _ e=>by (cases e),fun _ _ _ _ _ e=>by (cases e),fun _ _ e=>by (cases e),fun _ _ _ _ _ _ _ e=>by (cases e),fun _ _ _ _ _ _ e=>by (cases e),⟨0,fun _ _=>rfl⟩,⟨0,fun _ _=>rfl⟩,hI.frI⟩,fun _ _=>⟨rfl,rfl⟩⟩
  obtain ⟨h1,h2⟩:=hI.glob p hp
  exact ⟨Nat.lt_of_lt_of_le h1 hI.base,h2⟩
 have h0:=hc κ0 vs hN0 hsz fun i hi=>by
  have:=hvs i hi
  subst hκ0
  exact Rv.nf (κ:=κ) (κ':={ w:=κ.w,base:=κ.w.heap.size,ρ:=fun _=>none,τ:=fun _=>none,I:=κ.I,X:=κ.X }) rfl rfl this (co_ ha _ (List.getElem_mem hi))
 rw [show κ0.w=κ.w by rw [hκ0]] at h0
 refine h0.mono fun e w' ⟨cv,he,κ',a,s',h1,h2,h3,h4,h5,h6⟩=>?_
 subst h5;subst h6
 have hb0:κ0.base=κ.w.heap.size:=by rw [hκ0]
 have hw0:κ0.w=κ.w:=by rw [hκ0]
 have hI0:κ0.I=κ.I:=by rw [hκ0]
 have hbel:=h2.below
 rw [hb0,hw0] at hbel
 have hb':κ'.base=κ.w.heap.size:=h2.base.trans hb0
 obtain ⟨κ'',hκ''⟩:∃ κ'':K,κ''={ w:=κ'.w,base:=κ.base,ρ:=fun o=>if o < n then κ.ρ o else κ'.ρ o,τ:=fun o=>if o < n then κ.τ o else κ'.τ o,I:=κ'.I,X:=κ.X }:=⟨_,rfl⟩
 have w2:κ''.w=κ'.w:=by rw [hκ'']
 have I2:κ''.I=κ'.I:=by rw [hκ'']
 have b2:κ''.base=κ.base:=by rw [hκ'']
 have rlo:∀ o,o < n→κ''.ρ o=κ.ρ o:=fun o ho=>by rw [hκ''];exact if_pos ho
 have rhi:∀ o,n≤o→κ''.ρ o=κ'.ρ o:=fun o ho=>by rw [hκ''];exact if_neg (by omega)
 have tlo:∀ o,o < n→κ''.τ o=κ.τ o:=fun o ho=>by rw [hκ''];exact if_pos ho
 have thi:∀ o,n≤o→κ''.τ o=κ'.τ o:=fun o ho=>by rw [hκ''];exact if_neg (by omega)
 have hge:GeR n κ' κ'':=⟨w2,I2,by rw [hκ''];exact (h2.X.trans (by rw [hκ0])).symm,rhi,thi⟩
 have rold:∀ o b,κ.ρ o=some b→o < n:=fun o b hob=>Nat.lt_of_not_le fun hle=>by have:=(hN.2 o hle).1;rw [hob] at this;cases this
 have told:∀ o b,κ.τ o=some b→o < n:=fun o b hob=>Nat.lt_of_not_le fun hle=>by have:=(hN.2 o hle).2;rw [hob] at this;cases this
 have Iold:∀ b,b < κ.w.heap.size→κ'.I b=κ.I b:=fun b hb=>by have:=h2.old b (by rw [hb0];exact hb);rw [hI0] at this;exact this
 have hle:κ.Le κ'':=⟨by rw [hκ''],by rw [w2];exact hbel.mono hI.base,fun b s e=>by rw [w2];exact h2.shape b s (by rw [hw0];exact e),fun o b hob=>by rw [rlo o (rold o b hob)];exact hob,fun o b hob=>by rw [tlo o (told o b hob)];exact hob,fun b=>by rw [I2];have:=h2.imm b;rw [hI0] at this;exact this,
   fun b off v q1 q2=>by rw [w2];exact h2.cell b off v (by rw [hI0];exact q1) (by rw [hw0];exact q2),by rw [w2];have:=h2.drawn;rw [hw0] at this;exact this,fun b hb=>by rw [I2];exact Iold b (Nat.lt_of_lt_of_le hb hI.base)⟩
 have obj:∀ o x,look o (hun h h')=some x→(n≤o∧look o h'=some x)∨(o < n∧look o h=some x):=fun o x e=>by
  rw [ee_] at e
  cases hl:look o h with
  |some y =>
   rw [hl] at e
   obtain ⟨b,hb,_⟩:=hI.heap o y hl
   exact .inr ⟨rold o b hb,e⟩
  |none =>
   rw [hl] at e
   exact .inl ⟨by have:=(fW_ h' 1 0 hh o x e).1;omega,e⟩
 have tk:∀ o p,tok o (tun t' t)=some p→(n≤o∧tok o t'=some p)∨(o < n∧tok o t=some p):=fun o p e=>by
  rw [hT_] at e
  cases hl:tok o t' with
  |some y =>
   rw [hl] at e
   exact .inl ⟨jA_ t' ht o y hl,e⟩
  |none =>
   rw [hl] at e
   obtain ⟨b,hb,_⟩:=hI.tok o p e
   exact .inr ⟨told o b hb,e⟩
 have onew:∀ o x,n≤o→look o h'=some x→∃ b,κ''.ρ o=some b∧κ.w.heap.size≤b∧κ''.I b=0∧ORel κ'' x b:=fun o x ho e=>by
  obtain ⟨b,q1,q2,q3,q4⟩:=h3.1.heap o x e
  exact ⟨b,by rw [rhi o ho];exact q1,by rw [← hb'];exact q2,by rw [I2];exact q3,ORel.ge hge (fW_ h' 1 0 hh o x e).2 q4⟩
 have oold:∀ o x,o < n→look o h=some x→∃ b,κ''.ρ o=some b∧κ.base≤b∧b < κ.w.heap.size∧κ''.I b=0∧ORel κ'' x b:=fun o x ho e=>by
  obtain ⟨b,q1,q2,q3,q4⟩:=hI.heap o x e
  exact ⟨b,by rw [rlo o ho];exact q1,q2,q4.lt,by rw [I2,Iold b q4.lt];exact q3,q4.mono hle (by rw [w2];exact hbel.block b q4.lt)⟩
 have tnew:∀ o p,n≤o→tok o t'=some p→∃ u,κ''.τ o=some u∧db_ κ'' p u∧∀ b,an_ u=some b→κ.w.heap.size≤b:=fun o p ho e=>by
  obtain ⟨u,q1,q2⟩:=h3.1.tok o p e
  refine ⟨u,by rw [thi o ho];exact q1,?_,fun b hb=>by rw [← hb'];exact mz_ q2 hb⟩
  obtain ⟨m,xs,g1,g2⟩:=q2
  exact ⟨m,xs,by rw [w2];exact aY_.base_le (by rw [b2,hb'];exact hI.base) g1,fun b hb=>by rw [I2];exact g2 b hb⟩
 have told2:∀ o p,o < n→tok o t=some p→∃ u,κ''.τ o=some u∧db_ κ'' p u∧∀ b,an_ u=some b→b < κ.w.heap.size:=fun o p ho e=>by
  obtain ⟨u,q1,q2⟩:=hI.tok o p e
  exact ⟨u,by rw [tlo o ho];exact q1,q2.mono hle fun b hb=>⟨by rw [w2];exact hbel.block b (q2.lt hb),by rw [I2];exact Iold b (q2.lt hb)⟩,fun b hb=>q2.lt hb⟩
 refine ⟨cv,he,κ'',a,_,w2.trans h1,hle,⟨⟨hI.glob.le hle,?_,fun o x e=>?_,fun o o' x x' b e e' hb hb'=>?_,fun o p e=>?_,fun o o' p p' u u' b e e' hu hu' hb hb'=>?_,fun o p u b i x e hu hb hx=>?_,?_,?_,fun b hb=>?_⟩,fun o ho=>?_⟩,Rv.ge hge h4 hv,rfl,rfl⟩
 ·rw [b2,w2];exact Nat.le_trans hI.base hbel.size
 ·rcases obj o x e with ⟨ho,e⟩ | ⟨ho,e⟩
  ·obtain ⟨b,q1,q2,q3,q4⟩:=onew o x ho e
   exact ⟨b,q1,by rw [b2];exact Nat.le_trans hI.base q2,q3,q4⟩
  ·obtain ⟨b,q1,q2,_,q3,q4⟩:=oold o x ho e
   exact ⟨b,q1,by rw [b2];exact q2,q3,q4⟩
 ·rcases obj o x e with ⟨ho,e⟩ | ⟨ho,e⟩ <;> rcases obj o' x' e' with ⟨ho',e'⟩ | ⟨ho',e'⟩
  ·exact h3.1.inj o o' x x' b e e' (by rw [← rhi o ho];exact hb) (by rw [← rhi o' ho'];exact hb')
  ·obtain ⟨c,q1,q2,_⟩:=onew o x ho e
   obtain ⟨c',q1',_,q2',_⟩:=oold o' x' ho' e'
   rw [hb] at q1;rw [hb'] at q1'
   have:=Option.some.inj q1;have:=Option.some.inj q1'
   omega
  ·obtain ⟨c,q1,_,q2,_⟩:=oold o x ho e
   obtain ⟨c',q1',q2',_⟩:=onew o' x' ho' e'
   rw [hb] at q1;rw [hb'] at q1'
   have:=Option.some.inj q1;have:=Option.some.inj q1'
   omega
  ·exact hI.inj o o' x x' b e e' (by rw [← rlo o ho];exact hb) (by rw [← rlo o' ho'];exact hb')
 ·rcases tk o p e with ⟨ho,e⟩ | ⟨ho,e⟩
  ·obtain ⟨u,q1,q2,_⟩:=tnew o p ho e;exact ⟨u,q1,q2⟩
  ·obtain ⟨u,q1,q2,_⟩:=told2 o p ho e;exact ⟨u,q1,q2⟩
 ·rcases tk o p e with ⟨ho,e⟩ | ⟨ho,e⟩ <;> rcases tk o' p' e' with ⟨ho',e'⟩ | ⟨ho',e'⟩
  ·exact h3.1.tokinj o o' p p' u u' b e e' (by rw [← thi o ho];exact hu) (by rw [← thi o' ho'];exact hu') hb hb'
  ·obtain ⟨c,q1,_,q2⟩:=tnew o p ho e
   obtain ⟨c',q1',_,q2'⟩:=told2 o' p' ho' e'
   rw [hu] at q1;rw [hu'] at q1'
   have e1:=Option.some.inj q1;have e2:=Option.some.inj q1'
   have:=q2 b (by rw [← e1];exact hb);have:=q2' b (by rw [← e2];exact hb')
   omega
  ·obtain ⟨c,q1,_,q2⟩:=told2 o p ho e
   obtain ⟨c',q1',_,q2'⟩:=tnew o' p' ho' e'
   rw [hu] at q1;rw [hu'] at q1'
   have e1:=Option.some.inj q1;have e2:=Option.some.inj q1'
   have:=q2 b (by rw [← e1];exact hb);have:=q2' b (by rw [← e2];exact hb')
   omega
  ·exact hI.tokinj o o' p p' u u' b e e' (by rw [← tlo o ho];exact hu) (by rw [← tlo o' ho'];exact hu') hb hb'
 ·intro hρ
  rcases tk o p e with ⟨ho,e⟩ | ⟨ho,e⟩ <;> rcases obj i x hx with ⟨hi,hx⟩ | ⟨hi,hx⟩
  ·exact h3.1.tokobj o p u b i x e (by rw [← thi o ho];exact hu) hb hx (by rw [← rhi i hi];exact hρ)
  ·obtain ⟨c,q1,_,q2⟩:=tnew o p ho e
   obtain ⟨c',q1',_,q2',_⟩:=oold i x hi hx
   rw [hu] at q1;rw [hρ] at q1'
   have e1:=Option.some.inj q1;have e2:=Option.some.inj q1'
   have:=q2 b (by rw [← e1];exact hb)
   omega
  ·obtain ⟨c,q1,_,q2⟩:=told2 o p ho e
   obtain ⟨c',q1',q2',_⟩:=onew i x hi hx
   rw [hu] at q1;rw [hρ] at q1'
   have e1:=Option.some.inj q1;have e2:=Option.some.inj q1'
   have:=q2 b (by rw [← e1];exact hb)
   omega
  ·exact hI.tokobj o p u b i x e (by rw [← tlo o ho];exact hu) hb hx (by rw [← rlo i hi];exact hρ)
 ·obtain ⟨N,hN'⟩:=h3.1.frO
  exact ⟨N + n,fun o ho=>by rw [rhi o (by omega)];exact hN' o (by omega)⟩
 ·obtain ⟨N,hN'⟩:=h3.1.frT
  exact ⟨N + n,fun o ho=>by rw [thi o (by omega)];exact hN' o (by omega)⟩
 ·rw [I2];exact h3.1.frI b (by rw [← w2];exact hb)
 ·have ho':n'≤o:=ho
  obtain ⟨q1,q2⟩:=h3.2 o ho'
  exact ⟨by rw [rhi o (by omega)];exact q1,by rw [thi o (by omega)];exact q2⟩
end
end Go.Nb
end

section
set_option linter.all false
set_option maxRecDepth 100000
namespace Go.Nb
open Go.Ab Go.RowKit
noncomputable section
def beqB (a:List UInt8):List UInt8→Bool:=List.rec (motive:=fun _=>List UInt8→Bool) (fun b=>b.isEmpty) (fun x _ ih b=>match b with
 |[]=>false
 |y :: b=>bif Nat.beq x.toNat y.toNat then ih b else false) a
theorem cA_:∀ {a b:List UInt8},beqB a b=true→a=b
 |[],[],_=>rfl
 |[],y :: b,h=>by cases h
 |x :: a,[],h=>by cases h
 |x :: a,y :: b,h=>by
  have h':(bif Nat.beq x.toNat y.toNat then beqB a b else false)=true:=h
  cases hx:Nat.beq x.toNat y.toNat with
  |false=>rw [hx] at h';cases h'
  |true =>
   rw [hx] at h'
   rw [UInt8.toNat_inj.1 (ao_ hx),cA_ h']
def veq (a b:Value):Bool:=match a,b with
 |.int k n,.int k' n'=>decide (k=k') && decide (n=n')
 |.string s,.string s'=>beqB s.data.toList s'.data.toList
 |.bool x,.bool y=>x == y
 |.slice none 0 0,.slice none 0 0=>true
 |.pointer none,.pointer none=>true
 |.map none,.map none=>true
 |.nilIface,.nilIface=>true
 |.nilFunc,.nilFunc=>true
 |.func (.func f) ⟨[]⟩ ⟨[]⟩,.func (.func f') ⟨[]⟩ ⟨[]⟩=>Nat.beq f f'
 |.pointer (some ⟨b,o,none⟩),.pointer (some ⟨b',o',none⟩)=>Nat.beq b b' && Nat.beq o o'
 |_,_=>false
theorem lj_ {a b:Value} (h:veq a b=true):a=b:=by
 unfold veq at h
 split at h
 ·simp only [Bool.and_eq_true,decide_eq_true_eq] at h;rw [h.1,h.2]
 ·rename_i s s'
  have:=cA_ h
  obtain ⟨⟨l⟩⟩:=s
  obtain ⟨⟨l'⟩⟩:=s'
  have:l=l':=this
  rw [this]
 ·rename_i x y;rw [eq_of_beq h]
 ·rfl
 ·rfl
 ·rfl
 ·rfl
 ·rfl
 ·rw [ao_ h]
 ·simp only [Bool.and_eq_true] at h;rw [ao_ h.1,ao_ h.2]
 ·cases h
mutual
def aeqb:AVal→AVal→Bool
 |.any,.any=>true
 |.lit a,.lit b=>veq a b
 |.agg a,.agg b=>aeqL a b
 |.tup a,.tup b=>aeqL a b
 |.sl s a t,.sl s' b t'=>Nat.beq s s' && (t == t' && aeqL a b)
 |.own k s a,.own k' s' b=>Nat.beq k k' && (Nat.beq s s' && aeqL a b)
 |.msl o s f l,.msl o' s' f' l'=>Nat.beq o o' && (Nat.beq s s' && (Nat.beq f f' && Nat.beq l l'))
 |.ref o f,.ref o' f'=>Nat.beq o o' && Nat.beq f f'
 |.map o,.map o'=>Nat.beq o o'
 |.iface t a,.iface t' b=>Nat.beq t t' && aeqb a b
 |.fn (.func f) a b,.fn (.func f') a' b'=>Nat.beq f f' && (aeqL a a' && aeqL b b')
 |.nilp o e n,.nilp o' e' n'=>Nat.beq o o' && (Nat.beq e e' && Nat.beq n n')
 |_,_=>false
def aeqL:List AVal→List AVal→Bool
 |[],[]=>true
 |a :: l,b :: m=>aeqb a b && aeqL l m
 |_,_=>false
end
mutual
theorem c1_:∀ {a b:AVal},aeqb a b=true→a=b
 |a,b,h=>by
  unfold aeqb at h
  split at h
  ·rfl
  ·rw [lj_ h]
  ·rw [b6_ h]
  ·rw [b6_ h]
  ·simp only [Bool.and_eq_true] at h;rw [ao_ h.1,eq_of_beq h.2.1,b6_ h.2.2]
  ·simp only [Bool.and_eq_true] at h;rw [ao_ h.1,ao_ h.2.1,b6_ h.2.2]
  ·simp only [Bool.and_eq_true] at h;rw [ao_ h.1,ao_ h.2.1,ao_ h.2.2.1,ao_ h.2.2.2]
  ·simp only [Bool.and_eq_true] at h;rw [ao_ h.1,ao_ h.2]
  ·rw [ao_ h]
  ·simp only [Bool.and_eq_true] at h;rw [ao_ h.1,c1_ h.2]
  ·simp only [Bool.and_eq_true] at h;rw [ao_ h.1,b6_ h.2.1,b6_ h.2.2]
  ·simp only [Bool.and_eq_true] at h;rw [ao_ h.1,ao_ h.2.1,ao_ h.2.2]
  ·cases h
theorem b6_:∀ {a b:List AVal},aeqL a b=true→a=b
 |[],[],_=>rfl
 |a :: l,b :: m,h=>by
  rw [aeqL,Bool.and_eq_true] at h
  rw [c1_ h.1,b6_ h.2]
end
def kvEq:List (Value × AVal)→List (Value × AVal)→Bool
 |[],[]=>true
 |p :: l,q :: m=>veq p.1 q.1 && (aeqb p.2 q.2 && kvEq l m)
 |_,_=>false
theorem kc_:∀ {l m:List (Value × AVal)},kvEq l m=true→l=m
 |[],[],_=>rfl
 |p :: l,q :: m,h=>by
  rw [kvEq,Bool.and_eq_true,Bool.and_eq_true] at h
  obtain ⟨p1,p2⟩:=p
  obtain ⟨q1,q2⟩:=q
  have e1:p1=q1:=lj_ h.1
  have e2:p2=q2:=c1_ h.2.1
  rw [e1,e2,kc_ h.2.2]
def oeq (x y:AObj):Bool:=match x,y with
 |.cells a,.cells b=>aeqL a b
 |.map a,.map b=>kvEq a b
 |.raw (.stringIter s p),.raw (.stringIter s' p')=>beqB s.data.toList s'.data.toList && Nat.beq p p'
 |.raw (.mapIter none k s p),.raw (.mapIter none k' s' p')=>Nat.beq k k' && (s.toList.isEmpty && (s'.toList.isEmpty && Nat.beq p p'))
 |_,_=>false
theorem ko_ {x y:AObj} (h:oeq x y=true):x=y:=by
 unfold oeq at h
 split at h
 ·rw [b6_ h]
 ·rw [kc_ h]
 ·rename_i s p s' p'
  simp only [Bool.and_eq_true] at h
  have:=cA_ h.1
  obtain ⟨⟨l⟩⟩:=s
  obtain ⟨⟨l'⟩⟩:=s'
  have:l=l':=this
  rw [this,ao_ h.2]
 ·rename_i k s p k' s' p'
  simp only [Bool.and_eq_true] at h
  obtain ⟨h1,h2,h3,h4⟩:=h
  have e1:s=#[]:=by cases s;simpa using h2
  have e2:s'=#[]:=by cases s';simpa using h3
  rw [ao_ h1,ao_ h4,e1,e2]
 ·cases h
def hsub:Hp→Hp→Bool
 |.nil,_=>true
 |.node l r v,.node l2 r2 v2=>(match v,v2 with
  |none,_=>true
  |some x,some y=>oeq x y
  |some _,none=>false) && (hsub l l2 && hsub r r2)
 |.node l r v,.nil=>v.isNone && (hsub l .nil && hsub r .nil)
theorem dN_:∀ {a b:Hp},hsub a b=true→∀ o x,look o a=some x→look o b=some x
 |.nil,b,_,o,x,hx=>by rw [a7_] at hx;cases hx
 |.node l r v,.node l2 r2 v2,h,o,x,hx=>by
  simp only [hsub,Bool.and_eq_true] at h
  obtain ⟨h1,h2,h3⟩:=h
  rw [aF_] at hx ⊢
  by_cases h0:o=0
  ·rw [if_pos h0] at hx ⊢
   subst hx
   cases v2 with
   |none=>cases h1
   |some y=>rw [ko_ h1]
  ·rw [if_neg h0] at hx ⊢
   by_cases hp:o % 2=1
   ·rw [if_pos hp] at hx ⊢;exact dN_ h2 _ x hx
   ·rw [if_neg hp] at hx ⊢;exact dN_ h3 _ x hx
 |.node l r v,.nil,h,o,x,hx=>by
  simp only [hsub,Bool.and_eq_true] at h
  obtain ⟨h1,h2,h3⟩:=h
  rw [aF_] at hx
  by_cases h0:o=0
  ·rw [if_pos h0] at hx;rw [hx] at h1;cases h1
  ·rw [if_neg h0] at hx
   by_cases hp:o % 2=1
   ·rw [if_pos hp] at hx;have:=dN_ h2 _ x hx;rw [a7_] at this;cases this
   ·rw [if_neg hp] at hx;have:=dN_ h3 _ x hx;rw [a7_] at this;cases this
def tsub:Tk→Tk→Tk→Bool
 |.nil,_,_=>true
 |.cons k _ _ r,a,b=>(tok k a == tok k b) && tsub r a b
theorem lf_ {a b:Tk}:∀ (l:Tk),tsub l a b=true→∀ o p,tok o l=some p→tok o a=tok o b
 |.nil,_,o,p,hx=>by cases hx
 |.cons k e sz r,h,o,p,hx=>by
  simp only [tsub,Bool.and_eq_true,beq_iff_eq] at h
  rw [ba_] at hx
  by_cases hk:k=o
  ·rw [← hk];exact h.1
  ·rw [if_neg hk] at hx;exact lf_ r h.2 o p hx
theorem k9_ {h0 h:Hp} {t0 t:Tk} (h1:hsub h0 h=true) (h2:tsub t0 t0 t=true):(store h0 t0).Sub (store h t) :=
 ⟨fun o x e=>dN_ h1 o x e,fun o p e=>by
  have e':tok o t0=some p:=e
  show tok o t=some p
  rw [← lf_ t0 h2 o p e'];exact e'⟩
def voeq (x y:Option AObj):Bool:=match x,y with
 |none,none=>true
 |some x,some y=>oeq x y
 |_,_=>false
theorem oC_ {x y:Option AObj} (h:voeq x y=true):x=y:=by
 unfold voeq at h
 split at h
 ·rfl
 ·rw [ko_ h]
 ·cases h
def heq:Hp→Hp→Bool
 |.nil,.nil=>true
 |.node l r v,.node l2 r2 v2=>voeq v v2 && (heq l l2 && heq r r2)
 |_,_=>false
theorem jT_:∀ {a b:Hp},heq a b=true→a=b
 |.nil,.nil,_=>rfl
 |.node l r v,.node l2 r2 v2,h=>by
  rw [heq,Bool.and_eq_true,Bool.and_eq_true] at h
  rw [oC_ h.1,jT_ h.2.1,jT_ h.2.2]
def teq:Tk→Tk→Bool
 |.nil,.nil=>true
 |.cons k e s r,.cons k' e' s' r'=>Nat.beq k k' && (Nat.beq e e' && (Nat.beq s s' && teq r r'))
 |_,_=>false
theorem ne_:∀ {a b:Tk},teq a b=true→a=b
 |.nil,.nil,_=>rfl
 |.cons k e s r,.cons k' e' s' r',h=>by
  rw [teq,Bool.and_eq_true,Bool.and_eq_true,Bool.and_eq_true] at h
  rw [ao_ h.1,ao_ h.2.1,ao_ h.2.2.1,ne_ h.2.2.2]
def req (x y:Res):Bool:=match x,y with
 |.ok v h t n,.ok v' h' t' n'=>aeqb v v' && (heq h h' && (teq t t' && Nat.beq n n'))
 |_,_=>false
theorem rm_ {x y:Res} (h:req x y=true):x=y:=by
 unfold req at h
 split at h
 ·simp only [Bool.and_eq_true] at h
  rw [c1_ h.1,jT_ h.2.1,ne_ h.2.2.1,ao_ h.2.2.2]
 ·cases h
def iQ_ (x y:Res):Res:=Bool.rec (.bad 55) y (req x y)
theorem dK_ {x y R:Res} (hR:R.fine) (h:iQ_ x y=R):x=R∧y=R:=by
 unfold iQ_ at h
 cases hq:req x y with
 |false=>rw [hq] at h;subst h;exact hR.elim
 |true=>rw [hq] at h;exact ⟨(rm_ hq).trans h,h⟩
end
end Go.Nb
end
