/-
  What a function leads to,reckoned with a mask in the place of a list: the same list; WHAT FairNobody LEADS TO,written out,and what its row says of it. Own work (an AI agent).
-/
import Derived.Test.YtcdidkliidjoeaaGreatDoorRows
import Derived.Stop.Joined
import Derived.ProofKit
import Derived.KernelRfl

section
set_option linter.all false
set_option maxRecDepth 100000
namespace Go.Clo
noncomputable section
def bit (m f:Nat):Bool:=Nat.beq (Nat.mod (Nat.shiftRight m f) 2) 1
def cv (P:Program) (n:Nat):List FuncId→Nat→List FuncId→List FuncId :=
 Nat.rec (motive:=fun _=>List FuncId→Nat→List FuncId→List FuncId) (fun _ _ s=>s.reverse)
  (fun _ ih t=>List.rec (motive:=fun _=>Nat→List FuncId→List FuncId) (fun _ s=>s.reverse) (fun f t _ m s=>Bool.rec (ih ((P.funcs[f]?).elim [] P.leadsTo ++ t) (Nat.lor m (Nat.shiftLeft 1 f)) (f :: s)) (ih t m s) (bit m f)) t) n
theorem o4_ (m f:Nat):bit m f=m.testBit f:=by
 have h:m.testBit f=decide (m >>> f % 2=1):=by simp [Nat.testBit,Nat.and_comm,Nat.one_and_eq_mod_two,bne_iff_ne]
 rw [h]
 unfold bit
 show Nat.beq (m >>> f % 2) 1=_
 cases hb:Nat.beq (m >>> f % 2) 1 with
 |true=>exact (decide_eq_true (Nat.eq_of_beq_eq_true hb)).symm
 |false=>exact (decide_eq_false (Nat.ne_of_beq_eq_false hb)).symm
theorem nz_ (P:Program):∀ (n:Nat) (t:List FuncId) (m:Nat) (s:List FuncId),(∀ x,m.testBit x=s.contains x)→P.closureVia n t s=cv P n t m s
 |0,t,m,s,_=>by
  show _=s.reverse
  unfold Program.closureVia;rfl
 |n + 1,[],m,s,_=>by
  show _=s.reverse
  unfold Program.closureVia;rfl
 |n + 1,f :: t,m,s,h=>by
  have e:cv P (n + 1) (f :: t) m s=Bool.rec (cv P n ((P.funcs[f]?).elim [] P.leadsTo ++ t) (Nat.lor m (Nat.shiftLeft 1 f)) (f :: s)) (cv P n t m s) (bit m f):=rfl
  rw [e,o4_,h f]
  unfold Program.closureVia
  cases hc:s.contains f with
  |true=>simp only [if_true];exact nz_ P n t m s h
  |false =>
   simp only [Bool.false_eq_true,if_false]
   refine nz_ P n _ _ _ fun x=>?_
   show (m ||| (1 <<< f)).testBit x=_
   rw [Nat.testBit_or,h x,Nat.shiftLeft_eq,Nat.one_mul,Nat.testBit_two_pow,List.contains_cons,Bool.or_comm]
   congr 1
   by_cases hx:f=x
   ·subst hx;simp
   ·have hx':x≠f:=fun h=>hx h.symm
    simp [hx,hx']
theorem closure_eq {P:Program} {f N:Nat} (h:1 + (P.funcs.toList.map fun g=>(P.leadsTo g).length + 1).sum=N):P.closure f=cv P N [f] 0 []:=by
 unfold Program.closure
 rw [h]
 exact nz_ P N [f] 0 [] fun x=>by simp
end
end Go.Clo
end

section
set_option linter.all false
set_option maxRecDepth 100000
namespace Go.Proofs.YtcdidkliidjoeaaGreatDoor.fairNobodyDone
theorem sum_:1 + (Tryz.prog.funcs.toList.map fun g=>(Tryz.prog.leadsTo g).length + 1).sum=2255:=by kernel_rfl
def CL:List FuncId:=[4,21,54,5,6,26,58,27,111,190,20,51,100,101,103,102,104,180,181,304,182,305,425,107,106,184,186,185,307,105,183,306,108,53,52,109,187,309,426,428,427,546,308,310,429,311,430,312,431,432,313,314,433,547,548,620,315,434,435,188,110,189,31,59,116,196,320,439,321,440,197,322,441,442,549,551,552,550,323,30,19,48,85,86,163,162,281,414,538,616,539,617,415,390,88,87,164,89,91,166,282,283,284,416,540,541,618,659,285,167,286,168,287,169,90,155,255,399,523,605,647,648,143,683,684,649,650,685,686,702,703,92,68,142,170,288,289,417,290,236,237,291,418,419,542,292,293,294,295,165,94,171,296,93,95,172,297,420,173,298,421,544,619,543,174,299,49,50,96,175,300,301,423,545,422,334,335,244,97,73,99,178,179,303,302,424,177,98,176,8,33,34,60,117,198,40,69,64,132,118,200,199,119,147,201,267,245,391,246,268,149,276,270,404,528,529,330,527,406,405,324,443,326,325,328,327,329,444,202,203,331,445,553,446,554,592,638,669,37,67,133,139,240,134,235,135,136,238,239,387,137,138,140,141,639,641,673,697,698,640,670,695,671,696,705,711,706,715,707,708,716,717,718,709,710,712,713,672,447,556,557,622,555,621,448,558,332,449,269,74,144,241,388,512,600,513,514,515,601,145,273,450,279,451,316,452,453,412,454,280,204,333,336,455,560,561,559,457,456,242,338,337,340,339,120,39,205,341,458,154,254,253,256,234,206,342,459,460,461,462,262,402,525,609,654,688,689,526,610,655,611,612,656,613,463,343,464,562,465,222,367,368,207,344,466,563,623,271,407,192,317,505,594,643,644,593,642,595,645,674,675,699,676,677,700,701,714,678,679,680,681,596,597,193,318,436,437,438,319,376,161,272,80,408,531,530,409,532,533,614,657,275,274,278,413,277,81,410,535,534,411,536,537,615,658,624,660,230,351,369,70,84,83,223,467,565,564,625,345,468,566,626,588,636,586,634,633,663,690,692,691,704,665,693,666,694,469,470,567,627,585,504,632,664,471,472,473,568,569,628,629,661,474,212,359,498,499,587,591,375,374,506,637,635,667,668,365,216,210,500,589,217,364,218,363,503,360,495,496,361,501,590,43,72,502,346,475,226,45,75,146,148,243,389,516,602,603,517,518,77,78,156,257,258,400,158,260,157,259,401,524,606,651,652,687,607,653,608,79,159,261,263,264,403,265,76,150,151,152,247,392,393,248,394,249,395,519,520,397,522,521,604,646,682,396,153,251,250,398,252,114,347,225,228,371,224,370,476,477,348,478,570,630,349,482,571,483,480,481,479,350,352,484,572,485,573,486,61,62,121,208,353,487,490,575,576,577,578,579,574,488,580,581,631,662,489,508,582,509,599,354,491,583,209,355,356,492,584,357,493,358,494,497,377,211,122,123,213,71,124,214,215,362,125,219,220,160,266,366,221,82,126,127,128,227,129,229,372,373,130,231,378,131,232,380,507,598,379,381,382,383,384,510,385,386,511,233,35,10,63,65,66,55,15,38,44,112,191,14,17,46,16,113,194,25,24,23,56,11,22,13,41,42,12,57,115,195]
theorem clo1:Clo.cv Tryz.prog 2255 [4] 0 []=CL:=by kernel_rfl
theorem clo:Tryz.prog.closure 4=CL:=(Clo.closure_eq sum_).trans clo1
theorem j1:(Rows.fairNobodyRow.inPlace == Tryz.prog.inPlace 4)=true:=by
 unfold Program.inPlace
 rw [clo]
 kernel_rfl
theorem j2':Tryz.prog.unfollowed 4=true:=by
 unfold Program.unfollowed
 rw [clo]
 kernel_rfl
theorem j2:(Rows.fairNobodyRow.unfollowed == Tryz.prog.unfollowed 4)=true:=by
 rw [j2'];rfl
theorem j3:(Rows.fairNobodyRow.recurses == Tryz.prog.recurses 4)=true:=by
 unfold Program.recurses
 rw [j2'];rfl
theorem j4:(Rows.fairNobodyRow.named == Tryz.prog.varsNamed 4)=true:=by
 unfold Program.varsNamed
 rw [clo]
 kernel_rfl
end Go.Proofs.YtcdidkliidjoeaaGreatDoor.fairNobodyDone
end
