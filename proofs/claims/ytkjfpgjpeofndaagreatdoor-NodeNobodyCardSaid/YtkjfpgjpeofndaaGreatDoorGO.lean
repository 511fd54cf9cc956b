/-
  The interpreter's table is as it is asked to be: each function's regions may be run in the orders that it tells. Printed by gen_pf.py. Own work (an AI agent).
-/
import Derived.Test.YtkjfpgjpeofndaaGreatDoorGN
import Derived.Test.YtkjfpgjpeofndaaGreatDoorProg
import Derived.KernelRfl

section
set_option linter.all false
set_option maxRecDepth 100000
namespace Go.Nb
open Go.Ab
noncomputable def okR (a n:Nat):Bool:=(List.range' a n).all fun f=>!(bit oks f) || okF Go.Proofs.Tryz.prog tab0.tr f
theorem bL_ {a n f:Nat} (h:okR a n=true) (h1:a≤f) (h2:f < a + n) (hb:bit oks f=true):okF Go.Proofs.Tryz.prog tab0.tr f=true:=by
 have:=List.all_eq_true.1 h f (List.mem_range'_1.2 ⟨h1,h2⟩)
 rw [hb] at this
 exact this
theorem uC_ {m f k:Nat} (hm:m < 2 ^ k) (h:bit m f=true):f < k:=by
 refine Nat.lt_of_not_le fun hk=>?_
 have e:Nat.shiftRight m f=0:=by
  show m >>> f=0
  rw [Nat.shiftRight_eq_div_pow]
  exact Nat.div_eq_of_lt (Nat.lt_of_lt_of_le hm (Nat.pow_le_pow_right (by decide) hk))
 unfold bit at h
 rw [e] at h
 cases h
theorem ok0:okR 0 40=true:=by kernel_rfl
theorem ok1:okR 40 40=true:=by kernel_rfl
theorem ok2:okR 80 40=true:=by kernel_rfl
theorem ok3:okR 120 40=true:=by kernel_rfl
theorem ok4:okR 160 40=true:=by kernel_rfl
theorem ok5:okR 200 40=true:=by kernel_rfl
theorem ok6:okR 240 40=true:=by kernel_rfl
theorem ok7:okR 280 40=true:=by kernel_rfl
theorem ok8:okR 320 40=true:=by kernel_rfl
theorem ok9:okR 360 40=true:=by kernel_rfl
theorem ok10:okR 400 40=true:=by kernel_rfl
theorem ok11:okR 440 40=true:=by kernel_rfl
theorem ok12:okR 480 40=true:=by kernel_rfl
theorem ok13:okR 520 40=true:=by kernel_rfl
theorem ok14:okR 560 40=true:=by kernel_rfl
theorem ok15:okR 600 40=true:=by kernel_rfl
theorem ok16:okR 640 40=true:=by kernel_rfl
theorem ok17:okR 680 40=true:=by kernel_rfl
theorem vj_:oks < 2 ^ 697:=of_decide_eq_true kr_
theorem xc_:cE_ Go.Proofs.Tryz.prog 579=some Extern.AbiNoEscape.same:=by kernel_rfl
theorem gJ_ (nat:Nat→List AVal→Option AVal):in_ Go.Proofs.Tryz.prog { tab0 with nat:=nat }:=by
 refine ⟨fun f hb=>?_,fun f hf=>?_⟩
 ·have hb':bit oks f=true:=hb
  have hlt:f < 697:=uC_ vj_ hb'
  show okF Go.Proofs.Tryz.prog tab0.tr f=true
  by_cases h0:f < 40
  ·exact bL_ ok0 (by omega) (by omega) hb'
  by_cases h1:f < 80
  ·exact bL_ ok1 (by omega) (by omega) hb'
  by_cases h2:f < 120
  ·exact bL_ ok2 (by omega) (by omega) hb'
  by_cases h3:f < 160
  ·exact bL_ ok3 (by omega) (by omega) hb'
  by_cases h4:f < 200
  ·exact bL_ ok4 (by omega) (by omega) hb'
  by_cases h5:f < 240
  ·exact bL_ ok5 (by omega) (by omega) hb'
  by_cases h6:f < 280
  ·exact bL_ ok6 (by omega) (by omega) hb'
  by_cases h7:f < 320
  ·exact bL_ ok7 (by omega) (by omega) hb'
  by_cases h8:f < 360
  ·exact bL_ ok8 (by omega) (by omega) hb'
  by_cases h9:f < 400
  ·exact bL_ ok9 (by omega) (by omega) hb'
  by_cases h10:f < 440
  ·exact bL_ ok10 (by omega) (by omega) hb'
  by_cases h11:f < 480
  ·exact bL_ ok11 (by omega) (by omega) hb'
  by_cases h12:f < 520
  ·exact bL_ ok12 (by omega) (by omega) hb'
  by_cases h13:f < 560
  ·exact bL_ ok13 (by omega) (by omega) hb'
  by_cases h14:f < 600
  ·exact bL_ ok14 (by omega) (by omega) hb'
  by_cases h15:f < 640
  ·exact bL_ ok15 (by omega) (by omega) hb'
  by_cases h16:f < 680
  ·exact bL_ ok16 (by omega) (by omega) hb'
  by_cases h17:f < 720
  ·exact bL_ ok17 (by omega) (by omega) hb'
  omega
 ·have hf':Nat.beq f 579=true:=hf
  rw [aP_ hf'];exact xc_
end Go.Nb
end
