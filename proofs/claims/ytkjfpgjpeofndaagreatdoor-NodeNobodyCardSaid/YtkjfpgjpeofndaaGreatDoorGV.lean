/-
  Walks and plain laws for the statement (see the law's own text). Own work (an AI agent).
-/
import Derived.Test.YtkjfpgjpeofndaaGreatDoorRows
import Derived.Stop.Joined
import Derived.ProofKit
import Derived.KernelRfl

section
set_option linter.all false
set_option maxRecDepth 100000
namespace Go.Clo
noncomputable section
def bit (m f:Nat):Bool:=Nat.beq (Nat.mod (Nat.shiftRight m f) 2) 1
def cv (P:Program) (n:Nat):List FuncId→Nat→List FuncId→List FuncId :=
 Nat.rec (motive:=fun _=>List FuncId→Nat→List FuncId→List FuncId) (fun _ _ s=>s.reverse)
  (fun _ ih t=>List.rec (motive:=fun _=>Nat→List FuncId→List FuncId) (fun _ s=>s.reverse) (fun f t _ m s=>Bool.rec (ih ((P.funcs[f]?).elim [] P.leadsTo ++ t) (Nat.lor m (Nat.shiftLeft 1 f)) (f :: s)) (ih t m s) (bit m f)) t) n
theorem uB_ (m f:Nat):bit m f=m.testBit f:=by
 have h:m.testBit f=decide (m >>> f % 2=1):=by simp [Nat.testBit,Nat.and_comm,Nat.one_and_eq_mod_two,bne_iff_ne]
 rw [h]
 unfold bit
 show Nat.beq (m >>> f % 2) 1=_
 cases hb:Nat.beq (m >>> f % 2) 1 with
 |true=>exact (decide_eq_true (Nat.eq_of_beq_eq_true hb)).symm
 |false=>exact (decide_eq_false (Nat.ne_of_beq_eq_false hb)).symm
theorem sj_ (P:Program):∀ (n:Nat) (t:List FuncId) (m:Nat) (s:List FuncId),(∀ x,m.testBit x=s.contains x)→P.closureVia n t s=cv P n t m s
 |0,t,m,s,_=>by
  show _=s.reverse
  unfold Program.closureVia;rfl
 |n + 1,[],m,s,_=>by
  show _=s.reverse
  unfold Program.closureVia;rfl
 |n + 1,f :: t,m,s,h=>by
  have e:cv P (n + 1) (f :: t) m s=Bool.rec (cv P n ((P.funcs[f]?).elim [] P.leadsTo ++ t) (Nat.lor m (Nat.shiftLeft 1 f)) (f :: s)) (cv P n t m s) (bit m f):=rfl
  rw [e,uB_,h f]
  unfold Program.closureVia
  cases hc:s.contains f with
  |true=>simp only [if_true];exact sj_ P n t m s h
  |false =>
   simp only [Bool.false_eq_true,if_false]
   refine sj_ P n _ _ _ fun x=>?_
   show (m ||| (1 <<< f)).testBit x=_
   rw [Nat.testBit_or,h x,Nat.shiftLeft_eq,Nat.one_mul,Nat.testBit_two_pow,List.contains_cons,Bool.or_comm]
   congr 1
   by_cases hx:f=x
   ·subst hx;simp
   ·have hx':x≠f:=fun h=>hx h.symm
    simp [hx,hx']
theorem closure_eq {P:Program} {f N:Nat} (h:1 + (P.funcs.toList.map fun g=>(P.leadsTo g).length + 1).sum=N):P.closure f=cv P N [f] 0 []:=by
 unfold Program.closure
 rw [h]
 exact sj_ P N [f] 0 [] fun x=>by simp
end
end Go.Clo
end

section
set_option linter.all false
set_option maxRecDepth 100000
namespace Go.Proofs.YtkjfpgjpeofndaaGreatDoor.nodeNobodyDone
theorem sum_:1 + (Tryz.prog.funcs.toList.map fun g=>(Tryz.prog.leadsTo g).length + 1).sum=2093:=by kernel_rfl
def CL:List FuncId:=[3,4,21,62,5,22,6,23,27,63,124,247,246,249,248,250,19,61,123,390,504,581,253,252,392,394,393,506,251,391,505,254,125,255,396,507,509,508,582,395,397,510,398,511,512,399,513,514,400,401,515,583,584,629,402,516,517,256,126,257,18,55,105,211,371,58,122,118,240,243,388,503,501,579,384,315,387,316,241,385,59,43,57,120,121,245,244,389,119,242,386,502,580,60,83,8,11,20,24,64,127,258,403,518,585,519,520,521,586,128,65,129,131,259,195,359,481,573,574,482,483,130,132,260,360,261,67,138,216,373,495,577,623,624,238,649,650,625,626,651,652,669,670,270,137,269,268,68,139,272,273,411,271,141,275,140,274,412,526,588,631,632,655,589,633,590,69,142,276,218,277,413,527,591,634,656,657,528,592,635,593,594,636,595,217,374,278,66,133,134,135,262,404,405,263,406,264,407,522,523,409,525,524,587,630,654,408,136,266,265,410,267,100,194,26,76,156,301,439,302,440,157,303,441,442,539,541,542,540,304,25,70,143,279,214,280,215,212,144,281,414,282,92,180,181,71,145,283,286,416,417,418,419,420,529,421,415,284,422,199,206,161,312,423,530,596,285,219,424,220,375,146,287,425,72,147,148,288,426,427,348,531,597,637,639,638,658,598,640,599,600,641,96,191,163,314,317,446,545,546,544,448,447,319,318,321,320,149,289,428,150,290,429,533,532,291,292,208,370,369,293,430,432,475,565,608,174,116,237,346,464,470,561,465,558,466,380,381,467,559,560,607,468,469,471,472,566,568,612,644,645,54,117,239,567,609,642,610,643,659,665,604,660,672,661,662,673,674,675,663,664,666,667,611,431,535,458,556,534,601,189,200,210,358,94,56,188,182,351,203,352,209,353,366,354,313,445,543,548,547,355,356,104,198,201,361,485,486,484,363,362,187,202,44,364,488,487,365,489,490,575,621,205,204,207,45,367,492,491,368,493,494,576,622,172,49,48,47,73,74,151,294,295,152,75,153,296,297,433,438,186,185,357,538,536,602,603,178,350,477,570,571,476,569,478,572,613,614,646,615,616,647,648,668,617,618,619,620,479,480,86,298,435,434,537,87,177,349,473,562,563,564,474,88,176,347,154,155,299,436,437,460,300,10,42,28,14,31,80,160,306,443,308,307,310,309,311,444,162,81,164,322,323,449,114,227,228,378,82,165,324,450,549,325,451,550,605,326,453,452,551,166,327,454,552,328,329,455,553,330,331,332,456,457,554,555,606,333,167,334,99,193,168,98,102,196,97,192,335,336,169,337,459,557,170,341,461,342,339,340,338,171,173,343,462,344,463,345,16,32,51,15,12,13,46,103,197,29,77,158,305,159,7,30,78,79,33,84,85,175,34,89,90,179,91,35,36,93,183,184,37,95,190,38,39,101,40,41,9,17,50,107,213,372,106,108,109,110,111,221,223,222,112,224,113,226,376,496,497,498,578,627,628,653,671,499,377,225,52,115,229,230,379,231,232,382,383,500,233,234,235,236,53]
theorem clo1:Clo.cv Tryz.prog 2093 [3] 0 []=CL:=by kernel_rfl
theorem clo:Tryz.prog.closure 3=CL:=(Clo.closure_eq sum_).trans clo1
theorem j1:(Rows.nodeNobodyRow.inPlace == Tryz.prog.inPlace 3)=true:=by
 unfold Program.inPlace
 rw [clo]
 kernel_rfl
theorem j2':Tryz.prog.unfollowed 3=true:=by
 unfold Program.unfollowed
 rw [clo]
 kernel_rfl
theorem j2:(Rows.nodeNobodyRow.unfollowed == Tryz.prog.unfollowed 3)=true:=by
 rw [j2'];rfl
theorem j3:(Rows.nodeNobodyRow.recurses == Tryz.prog.recurses 3)=true:=by
 unfold Program.recurses
 rw [j2'];rfl
theorem j4:(Rows.nodeNobodyRow.named == Tryz.prog.varsNamed 3)=true:=by
 unfold Program.varsNamed
 rw [clo]
 kernel_rfl
end Go.Proofs.YtkjfpgjpeofndaaGreatDoor.nodeNobodyDone
end
