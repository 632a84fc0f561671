/- Part 15 of a proof: the small semantics, its soundness, the functions of the program in it, and the law. -/
import Derived.RowKit
import Derived.ChangeArms
import Derived.Lib.LaidTab
import Derived.Test.YtmiioebapckcoaaGreatDoorCards
import Derived.Test.YtmiioebapckcoaaGreatDoorTie
import Derived.WalkKit
import Derived.ProofKit
import Derived.OpenShut
import Derived.MakeChecks
import Derived.Lay
import Derived.Deep.DeepHandedRow
import Derived.Deep.DeepWitnessRowRef
import Derived.Lib.LaidU8
import Derived.Test.YtmiioebapckcoaaGreatDoorMn
set_option linter.unusedVariables false
set_option linter.unusedSimpArgs false
section
/- The law's fixed examples: what the operations answer there. -/
namespace Go.Proofs.YtmiioebapckcoaaGreatDoor
open Go Num
set_option maxRecDepth 4000

theorem ex_mul : mulX (qV (-2) 3) (qV (-5) 1) = some (dI4 (-15) 10) := by
  unfold mulX
  rw [VQ_qV (Sm.fits (by decide +kernel)) (Sm.fits (by decide +kernel)) (by decide +kernel), VQ_qV (Sm.fits (by decide +kernel)) (Sm.fits (by decide +kernel)) (by decide +kernel)]
  simp only [endsO]
  rw [twoQ_eq (r := 10) (by decide +kernel) (by decide +kernel) (by decide +kernel) (by decide +kernel), twoQ_eq (r := -2) (by decide +kernel) (by decide +kernel) (by decide +kernel) (by decide +kernel), twoQ_eq (r := -15) (by decide +kernel) (by decide +kernel) (by decide +kernel) (by decide +kernel), twoQ_eq (r := 3) (by decide +kernel) (by decide +kernel) (by decide +kernel) (by decide +kernel)]
  kernel_rfl
theorem ex_div1 : divX (qV 1 2) (qV (-1) 4) = none := by
  unfold divX
  rw [VQ_qV (Sm.fits (by decide +kernel)) (Sm.fits (by decide +kernel)) (by decide +kernel), VQ_qV (Sm.fits (by decide +kernel)) (Sm.fits (by decide +kernel)) (by decide +kernel)]
  simp only
  rw [if_pos (by decide +kernel)]
theorem ex_div2 : divX (qV 1 2) (qV 2 4) = some (dI4 (1/4) 1) := by
  unfold divX
  rw [VQ_qV (Sm.fits (by decide +kernel)) (Sm.fits (by decide +kernel)) (by decide +kernel), VQ_qV (Sm.fits (by decide +kernel)) (Sm.fits (by decide +kernel)) (by decide +kernel)]
  simp only [endsO]
  rw [if_neg (by decide +kernel), twoQ_eq (r := 1/2) (by decide +kernel) (by decide +kernel) (by decide +kernel) (by decide +kernel), twoQ_eq (r := 1/4) (by decide +kernel) (by decide +kernel) (by decide +kernel) (by decide +kernel), twoQ_eq (r := 1) (by decide +kernel) (by decide +kernel) (by decide +kernel) (by decide +kernel), twoQ_eq (r := 1/2) (by decide +kernel) (by decide +kernel) (by decide +kernel) (by decide +kernel)]
  kernel_rfl
theorem ex_meet1 : meetX (qV 1 2) (qV 2 5) = some (dI4 2 2) := by
  unfold meetX
  rw [VQ_qV (Sm.fits (by decide +kernel)) (Sm.fits (by decide +kernel)) (by decide +kernel), VQ_qV (Sm.fits (by decide +kernel)) (Sm.fits (by decide +kernel)) (by decide +kernel)]
  simp only [meetO]
  rw [if_pos (by decide +kernel)]
  kernel_rfl
theorem ex_meet2 : meetX (qV 1 2) (qV 3 5) = none := by
  unfold meetX
  rw [VQ_qV (Sm.fits (by decide +kernel)) (Sm.fits (by decide +kernel)) (by decide +kernel), VQ_qV (Sm.fits (by decide +kernel)) (Sm.fits (by decide +kernel)) (by decide +kernel)]
  simp only [meetO]
  rw [if_neg (by decide +kernel)]
theorem isqrt_eq {n r : Nat} (h : IsRoot n r) : isqrt n = r := (isqrt_spec n).unique h
theorem ex_sqrt : sqrtX 1 (qV 2 3) = some (dI4 (7/5) (9/5)) := by
  unfold sqrtX
  rw [VQ_qV (Sm.fits (by decide +kernel)) (Sm.fits (by decide +kernel)) (by decide +kernel)]
  have t : tenP 1 = 10 := by decide +kernel
  simp only [sqrtO, t]
  rw [if_pos ⟨by decide +kernel, by decide +kernel, ⟨small_fits (by decide +kernel), small_fits (by decide +kernel)⟩, ⟨small_fits (by decide +kernel), small_fits (by decide +kernel)⟩⟩]
  have m1 : rootM 10 2 = 14 := by
    unfold rootM
    rw [show (((2 : Rat).num * 10 * 10 / ((2 : Rat).den : Int)).natAbs) = 200 by decide +kernel, isqrt_eq (r := 14) ⟨by decide +kernel, by decide +kernel⟩]
    rfl
  have m2 : rootM 10 3 = 17 := by
    unfold rootM
    rw [show (((3 : Rat).num * 10 * 10 / ((3 : Rat).den : Int)).natAbs) = 300 by decide +kernel, isqrt_eq (r := 17) ⟨by decide +kernel, by decide +kernel⟩]
    rfl
  have m3 : rootHi 10 3 = 18 := by
    unfold rootHi rootE
    rw [m2]
    decide +kernel
  have e1 : Rat.divInt 14 10 = 7/5 := by decide +kernel
  have e2 : Rat.divInt 18 10 = 9/5 := by decide +kernel
  rw [m1, m3, e1, e2]
theorem ex_round : pairD (opQ1 (rdD false 1) errR (qV (1/3) (2/3)).a (qV (1/3) (2/3)).b) (opQ1 (rdD true 1) errR (qV (1/3) (2/3)).c (qV (1/3) (2/3)).d) = some (dI4 (3/10) (7/10)) := by
  simp only [qV, opQ1]
  rw [RQ_txt (Sm.fits (by decide +kernel)), RQ_txt (Sm.fits (by decide +kernel))]
  simp only
  rw [rdD_eq false (by decide +kernel) (by decide +kernel) (small_fits (by decide +kernel)), rdD_eq true (by decide +kernel) (by decide +kernel) (small_fits (by decide +kernel))]
  kernel_rfl
theorem ex_width : oneD (opQ (sumD fun x y => x - y) errR (qV (-1) 4).c (qV (-1) 4).d (qV (-1) 4).a (qV (-1) 4).b) = some (dR 5) := by
  simp only [qV, opQ]
  rw [RQ_txt (Sm.fits (by decide +kernel)), RQ_txt (Sm.fits (by decide +kernel))]
  simp only [sumD]
  rw [if_pos ⟨small_fits (by decide +kernel), small_fits (by decide +kernel)⟩, two, if_pos ⟨small_fits (by decide +kernel), small_fits (by decide +kernel)⟩, makeD, if_neg (by decide +kernel)]
  kernel_rfl
end Go.Proofs.YtmiioebapckcoaaGreatDoor
end
section
/- The law's fixed examples: the calls. Printed by wip/tools/mkSane5.py. -/
namespace Go.Proofs.YtmiioebapckcoaaGreatDoor
open Go Num
set_option maxRecDepth 4000

def ivA : IV := qV (-2) (3)
def ivB : IV := qV (-5) (1)
def ivC : IV := qV (-15) (10)
def ivD : IV := qV (1) (2)
def ivE : IV := qV (-1) (4)
def ivF : IV := qV (2) (4)
def ivQ : IV := qV (1/4) (1)
def ivS : IV := qV (2) (3)
def ivR : IV := qV (7/5) (9/5)
def ivM : IV := qV (2) (5)
def ivN : IV := qV (2) (2)
def ivO : IV := qV (3) (5)
def ivT : IV := qV (1/3) (2/3)
def ivU : IV := qV (3/10) (7/10)
def ivV : IV := qV (2) (1)
def ivP : IV := qV (3) (3)
def ivW : List UInt8 × List UInt8 := (txt (5 : Rat).num, txt (5 : Rat).den)
def ivZ : List UInt8 × List UInt8 := (txt (0 : Rat).num, txt (0 : Rat).den)
theorem ratio_q (n d : Int) (q : Rat) (hn : I64 n) (hd : I64 d) (h0 : d ≠ 0) (hq : Rat.divInt n d = q) (h : Hp) : callV cS false (fnV 16) [.d (.i .i64 n), .d (.i .i64 d)] h = some (.val (.d (.agg [.s (txt q.num), .s (txt q.den)])), h) := by
  rw [ratio_ok n d hn hd, ratioD, if_neg h0, hq]; rfl
theorem span_q (n d : Int) (p q : Rat) (hn : I64 n) (hd : I64 d) (hp : Rat.divInt n 1 = p) (hq : Rat.divInt d 1 = q) (h : Hp) : callV cS false (fnV 42) [.d (.i .i64 n), .d (.i .i64 d)] h = some (.val (.d (qV p q).D), h) := by
  rw [span_ok n d hn hd, hp, hq]; rfl
theorem sp_A (h : Hp) : callV cS false (fnV 42) [.d (.i .i64 (-2)), .d (.i .i64 (3))] h = some (.val (.d (.agg [.s ivA.a, .s ivA.b, .s ivA.c, .s ivA.d])), h) := span_q _ _ (-2) (3) (by unfold I64; omega) (by unfold I64; omega) (by decide +kernel) (by decide +kernel) h
theorem sp_B (h : Hp) : callV cS false (fnV 42) [.d (.i .i64 (-5)), .d (.i .i64 (1))] h = some (.val (.d (.agg [.s ivB.a, .s ivB.b, .s ivB.c, .s ivB.d])), h) := span_q _ _ (-5) (1) (by unfold I64; omega) (by unfold I64; omega) (by decide +kernel) (by decide +kernel) h
theorem sp_D (h : Hp) : callV cS false (fnV 42) [.d (.i .i64 (1)), .d (.i .i64 (2))] h = some (.val (.d (.agg [.s ivD.a, .s ivD.b, .s ivD.c, .s ivD.d])), h) := span_q _ _ (1) (2) (by unfold I64; omega) (by unfold I64; omega) (by decide +kernel) (by decide +kernel) h
theorem sp_E (h : Hp) : callV cS false (fnV 42) [.d (.i .i64 (-1)), .d (.i .i64 (4))] h = some (.val (.d (.agg [.s ivE.a, .s ivE.b, .s ivE.c, .s ivE.d])), h) := span_q _ _ (-1) (4) (by unfold I64; omega) (by unfold I64; omega) (by decide +kernel) (by decide +kernel) h
theorem sp_F (h : Hp) : callV cS false (fnV 42) [.d (.i .i64 (2)), .d (.i .i64 (4))] h = some (.val (.d (.agg [.s ivF.a, .s ivF.b, .s ivF.c, .s ivF.d])), h) := span_q _ _ (2) (4) (by unfold I64; omega) (by unfold I64; omega) (by decide +kernel) (by decide +kernel) h
theorem sp_S (h : Hp) : callV cS false (fnV 42) [.d (.i .i64 (2)), .d (.i .i64 (3))] h = some (.val (.d (.agg [.s ivS.a, .s ivS.b, .s ivS.c, .s ivS.d])), h) := span_q _ _ (2) (3) (by unfold I64; omega) (by unfold I64; omega) (by decide +kernel) (by decide +kernel) h
theorem sp_M (h : Hp) : callV cS false (fnV 42) [.d (.i .i64 (2)), .d (.i .i64 (5))] h = some (.val (.d (.agg [.s ivM.a, .s ivM.b, .s ivM.c, .s ivM.d])), h) := span_q _ _ (2) (5) (by unfold I64; omega) (by unfold I64; omega) (by decide +kernel) (by decide +kernel) h
theorem sp_O (h : Hp) : callV cS false (fnV 42) [.d (.i .i64 (3)), .d (.i .i64 (5))] h = some (.val (.d (.agg [.s ivO.a, .s ivO.b, .s ivO.c, .s ivO.d])), h) := span_q _ _ (3) (5) (by unfold I64; omega) (by unfold I64; omega) (by decide +kernel) (by decide +kernel) h
theorem sp_C (h : Hp) : callV cS false (fnV 42) [.d (.i .i64 (-15)), .d (.i .i64 (10))] h = some (.val (.d (.agg [.s ivC.a, .s ivC.b, .s ivC.c, .s ivC.d])), h) := span_q _ _ (-15) (10) (by unfold I64; omega) (by unfold I64; omega) (by decide +kernel) (by decide +kernel) h
theorem sp_N (h : Hp) : callV cS false (fnV 42) [.d (.i .i64 (2)), .d (.i .i64 (2))] h = some (.val (.d (.agg [.s ivN.a, .s ivN.b, .s ivN.c, .s ivN.d])), h) := span_q _ _ (2) (2) (by unfold I64; omega) (by unfold I64; omega) (by decide +kernel) (by decide +kernel) h
theorem sp_V (h : Hp) : callV cS false (fnV 42) [.d (.i .i64 (2)), .d (.i .i64 (1))] h = some (.val (.d (.agg [.s ivV.a, .s ivV.b, .s ivV.c, .s ivV.d])), h) := span_q _ _ (2) (1) (by unfold I64; omega) (by unfold I64; omega) (by decide +kernel) (by decide +kernel) h
theorem sp_P (h : Hp) : callV cS false (fnV 42) [.d (.i .i64 (3)), .d (.i .i64 (3))] h = some (.val (.d (.agg [.s ivP.a, .s ivP.b, .s ivP.c, .s ivP.d])), h) := span_q _ _ (3) (3) (by unfold I64; omega) (by unfold I64; omega) (by decide +kernel) (by decide +kernel) h
theorem rt_1_3 (h : Hp) : callV cS false (fnV 16) [.d (.i .i64 1), .d (.i .i64 3)] h = some (.val (.d (.agg [.s ivT.a, .s ivT.b])), h) := ratio_q 1 3 (1/3) (by unfold I64; omega) (by unfold I64; omega) (by decide +kernel) (by decide +kernel) h
theorem rt_2_3 (h : Hp) : callV cS false (fnV 16) [.d (.i .i64 2), .d (.i .i64 3)] h = some (.val (.d (.agg [.s ivT.c, .s ivT.d])), h) := ratio_q 2 3 (2/3) (by unfold I64; omega) (by unfold I64; omega) (by decide +kernel) (by decide +kernel) h
theorem rt_1_4 (h : Hp) : callV cS false (fnV 16) [.d (.i .i64 1), .d (.i .i64 4)] h = some (.val (.d (.agg [.s ivQ.a, .s ivQ.b])), h) := ratio_q 1 4 (1/4) (by unfold I64; omega) (by unfold I64; omega) (by decide +kernel) (by decide +kernel) h
theorem rt_1_1 (h : Hp) : callV cS false (fnV 16) [.d (.i .i64 1), .d (.i .i64 1)] h = some (.val (.d (.agg [.s ivQ.c, .s ivQ.d])), h) := ratio_q 1 1 (1) (by unfold I64; omega) (by unfold I64; omega) (by decide +kernel) (by decide +kernel) h
theorem rt_7_5 (h : Hp) : callV cS false (fnV 16) [.d (.i .i64 7), .d (.i .i64 5)] h = some (.val (.d (.agg [.s ivR.a, .s ivR.b])), h) := ratio_q 7 5 (7/5) (by unfold I64; omega) (by unfold I64; omega) (by decide +kernel) (by decide +kernel) h
theorem rt_9_5 (h : Hp) : callV cS false (fnV 16) [.d (.i .i64 9), .d (.i .i64 5)] h = some (.val (.d (.agg [.s ivR.c, .s ivR.d])), h) := ratio_q 9 5 (9/5) (by unfold I64; omega) (by unfold I64; omega) (by decide +kernel) (by decide +kernel) h
theorem rt_3_10 (h : Hp) : callV cS false (fnV 16) [.d (.i .i64 3), .d (.i .i64 10)] h = some (.val (.d (.agg [.s ivU.a, .s ivU.b])), h) := ratio_q 3 10 (3/10) (by unfold I64; omega) (by unfold I64; omega) (by decide +kernel) (by decide +kernel) h
theorem rt_7_10 (h : Hp) : callV cS false (fnV 16) [.d (.i .i64 7), .d (.i .i64 10)] h = some (.val (.d (.agg [.s ivU.c, .s ivU.d])), h) := ratio_q 7 10 (7/10) (by unfold I64; omega) (by unfold I64; omega) (by decide +kernel) (by decide +kernel) h
theorem rt_3_1 (h : Hp) : callV cS false (fnV 16) [.d (.i .i64 3), .d (.i .i64 1)] h = some (.val (.d (.agg [.s ivP.a, .s ivP.b])), h) := ratio_q 3 1 (3) (by unfold I64; omega) (by unfold I64; omega) (by decide +kernel) (by decide +kernel) h
theorem rt_5_1 (h : Hp) : callV cS false (fnV 16) [.d (.i .i64 5), .d (.i .i64 1)] h = some (.val (.d (.agg [.s ivW.1, .s ivW.2])), h) := ratio_q 5 1 5 (by unfold I64; omega) (by unfold I64; omega) (by decide +kernel) (by decide +kernel) h
theorem rt_0_1 (h : Hp) : callV cS false (fnV 16) [.d (.i .i64 0), .d (.i .i64 1)] h = some (.val (.d (.agg [.s ivZ.1, .s ivZ.2])), h) := ratio_q 0 1 0 (by unfold I64; omega) (by unfold I64; omega) (by decide +kernel) (by decide +kernel) h
theorem sa1 {h : Hp} {o : EO} (g : Glb h) (e : ErrAt h o) : callV cS false (fnV 41) [.d (.agg [.s ivA.a, .s ivA.b, .s ivA.c, .s ivA.d]), .d (.agg [.s ivB.a, .s ivB.b, .s ivB.c, .s ivB.d])] h = some (.val (.d (.tup [(.agg [.s ivC.a, .s ivC.b, .s ivC.c, .s ivC.d]), .i .i64 0])), h) := by
  have := EMul_ok ivA ivB g e
  unfold ivA ivB at this
  rw [ex_mul, workD_two (qV_ok (Sm.fits (by decide +kernel)) (Sm.fits (by decide +kernel)) (by decide +kernel)) (qV_ok (Sm.fits (by decide +kernel)) (Sm.fits (by decide +kernel)) (by decide +kernel))] at this
  exact this
theorem sa2 {h : Hp} {o : EO} (g : Glb h) (e : ErrAt h o) : callV cS false (fnV 43) [.d (.agg [.s ivD.a, .s ivD.b, .s ivD.c, .s ivD.d]), .d (.agg [.s ivE.a, .s ivE.b, .s ivE.c, .s ivE.d])] h = some (.val (.d (.tup [.agg [.s [], .s [], .s [], .s []], .i .i64 50])), h) := by
  have := EDiv_ok ivD ivE g e
  unfold ivD ivE at this
  rw [ex_div1, workD_none] at this
  exact this
theorem sa3 {h : Hp} {o : EO} (g : Glb h) (e : ErrAt h o) : callV cS false (fnV 43) [.d (.agg [.s ivD.a, .s ivD.b, .s ivD.c, .s ivD.d]), .d (.agg [.s ivF.a, .s ivF.b, .s ivF.c, .s ivF.d])] h = some (.val (.d (.tup [(.agg [.s ivQ.a, .s ivQ.b, .s ivQ.c, .s ivQ.d]), .i .i64 0])), h) := by
  have := EDiv_ok ivD ivF g e
  unfold ivD ivF at this
  rw [ex_div2, workD_two (qV_ok (Sm.fits (by decide +kernel)) (Sm.fits (by decide +kernel)) (by decide +kernel)) (qV_ok (Sm.fits (by decide +kernel)) (Sm.fits (by decide +kernel)) (by decide +kernel))] at this
  exact this
theorem sa4 {h : Hp} {o : EO} (g : Glb h) (e : ErrAt h o) : callV cS false (fnV 22) [.d (.agg [.s ivS.a, .s ivS.b, .s ivS.c, .s ivS.d]), .d (.i .i64 1)] h = some (.val (.d (.tup [(.agg [.s ivR.a, .s ivR.b, .s ivR.c, .s ivR.d]), .i .i64 0])), h) := by
  have := ESqrt_ok ivS 1 (by unfold I64; omega) g e
  unfold ivS at this
  rw [ex_sqrt, workD_one (qV_ok (Sm.fits (by decide +kernel)) (Sm.fits (by decide +kernel)) (by decide +kernel))] at this
  exact this
theorem sa5 {h : Hp} {o : EO} (g : Glb h) (e : ErrAt h o) : callV cS false (fnV 26) [.d (.agg [.s ivD.a, .s ivD.b, .s ivD.c, .s ivD.d]), .d (.agg [.s ivM.a, .s ivM.b, .s ivM.c, .s ivM.d])] h = some (.val (.d (.tup [(.agg [.s ivN.a, .s ivN.b, .s ivN.c, .s ivN.d]), .i .i64 0])), h) := by
  have := EMeet_ok ivD ivM g e
  unfold ivD ivM at this
  rw [ex_meet1, workD_two (qV_ok (Sm.fits (by decide +kernel)) (Sm.fits (by decide +kernel)) (by decide +kernel)) (qV_ok (Sm.fits (by decide +kernel)) (Sm.fits (by decide +kernel)) (by decide +kernel))] at this
  exact this
theorem sa6 {h : Hp} {o : EO} (g : Glb h) (e : ErrAt h o) : callV cS false (fnV 26) [.d (.agg [.s ivD.a, .s ivD.b, .s ivD.c, .s ivD.d]), .d (.agg [.s ivO.a, .s ivO.b, .s ivO.c, .s ivO.d])] h = some (.val (.d (.tup [.agg [.s [], .s [], .s [], .s []], .i .i64 50])), h) := by
  have := EMeet_ok ivD ivO g e
  unfold ivD ivO at this
  rw [ex_meet2, workD_none] at this
  exact this
theorem sa7 {h : Hp} {o : EO} (g : Glb h) (e : ErrAt h o) : callV cS false (fnV 14) [.d (.agg [.s ivT.a, .s ivT.b, .s ivT.c, .s ivT.d]), .d (.i .i64 1)] h = some (.val (.d (.tup [(.agg [.s ivU.a, .s ivU.b, .s ivU.c, .s ivU.d]), .i .i64 0])), h) := by
  have := ERound_ok ivT 1 (by unfold I64; omega) g e
  unfold ivT at this
  rw [ex_round, workD_one (qV_ok (Sm.fits (by decide +kernel)) (Sm.fits (by decide +kernel)) (by decide +kernel))] at this
  exact this
theorem sa8 {h : Hp} {o : EO} (g : Glb h) (e : ErrAt h o) : callV cS false (fnV 33) [.d (.agg [.s ivE.a, .s ivE.b, .s ivE.c, .s ivE.d])] h = some (.val (.d (.tup [.agg [.s ivW.1, .s ivW.2], .i .i64 0])), h) := by
  have := Width_ok ivE g e
  unfold ivE at this
  rw [ex_width, workQ, if_pos (by simp only [List.all_cons, List.all_nil, Bool.and_true]; exact (qV_ok (Sm.fits (by decide +kernel)) (Sm.fits (by decide +kernel)) (by decide +kernel)))] at this
  exact this
theorem sv1 {h : Hp} (g : Glb h) : callV cS false (fnV 35) [.d (.agg [.s ivC.a, .s ivC.b, .s ivC.c, .s ivC.d])] h = some (.val (.d (.b true)), h) := by
  have := EValid_ok ivC.a ivC.b ivC.c ivC.d h g
  unfold ivC at this
  rw [VQ_qV (Sm.fits (by decide +kernel)) (Sm.fits (by decide +kernel)) (by decide +kernel)] at this
  exact this
theorem sv2 {h : Hp} (g : Glb h) : callV cS false (fnV 35) [.d (.agg [.s ivV.a, .s ivV.b, .s ivV.c, .s ivV.d])] h = some (.val (.d (.b false)), h) := by
  have := EValid_ok ivV.a ivV.b ivV.c ivV.d h g
  unfold ivV at this
  rw [VQ_qV' (Sm.fits (by decide +kernel)) (Sm.fits (by decide +kernel)) (by decide +kernel)] at this
  exact this
theorem sv3 {h : Hp} (g : Glb h) : callV cS false (fnV 23) [.d (.agg [.s ivC.a, .s ivC.b, .s ivC.c, .s ivC.d]), .d (.agg [.s ivZ.1, .s ivZ.2])] h = some (.val (.d (.b true)), h) := by
  have := Contains_ok ivC ivZ.1 ivZ.2 h g
  have e1 : inB ivC ivZ.1 ivZ.2 = true := by
    show inB (qV (-15) 10) (txt (0 : Rat).num) (txt (0 : Rat).den) = true
    rw [inB_qV (Sm.fits (by decide +kernel)) (Sm.fits (by decide +kernel)) (Sm.fits (by decide +kernel)) (by decide +kernel)]; decide +kernel
  rw [e1] at this
  exact this
theorem sv4 {h : Hp} (g : Glb h) : callV cS false (fnV 15) [.d (.agg [.s ivQ.a, .s ivQ.b, .s ivQ.c, .s ivQ.d]), .d (.agg [.s ivR.a, .s ivR.b, .s ivR.c, .s ivR.d])] h = some (.val (.d (.b false)), h) := by
  have := Within_ok ivQ ivR h g
  have e1 : inB ivR ivQ.a ivQ.b = false := by
    show inB (qV (7/5) (9/5)) (txt (1/4 : Rat).num) (txt (1/4 : Rat).den) = false
    rw [inB_qV (Sm.fits (by decide +kernel)) (Sm.fits (by decide +kernel)) (Sm.fits (by decide +kernel)) (by decide +kernel)]; decide +kernel
  rw [e1, Bool.and_false, Bool.false_and] at this
  exact this
theorem ivP_c : ivP.c = ivP.a := rfl
theorem ivP_d : ivP.d = ivP.b := rfl
theorem sv5 {h : Hp} (g : Glb h) : callV cS false (fnV 37) [.d (.agg [.s ivP.a, .s ivP.b])] h = some (.val (.d (.agg [.s ivP.a, .s ivP.b, .s ivP.c, .s ivP.d])), h) := by
  have := Point_ok ivP.a ivP.b h g
  have e1 : RQ ivP.a ivP.b = some 3 := by
    show RQ (txt (3 : Rat).num) (txt (3 : Rat).den) = some 3
    exact RQ_txt (Sm.fits (by decide +kernel))
  rw [e1] at this
  exact this
end Go.Proofs.YtmiioebapckcoaaGreatDoor
end
section
/- The law's fixed examples: sane answers true. Printed by wip/tools/mkSane5.py. -/
namespace Go.Proofs.YtmiioebapckcoaaGreatDoor
open Go Num
set_option maxRecDepth 4000

/-- the pieces of a sequence -/
def nthC : Nat → C → C
  | 0, .seq a _ => a
  | n + 1, .seq _ b => nthC n b
  | _, c => c
theorem sane_r0 (H : Hp) : evI cS (nthC 0 b10) none [] H = some (.nor, [], H) := by
  simp [nthC, b10, put, eset, eget, D.cells, V.cells, allD, hget, hset, fz, List.zipIdx_cons, List.zipIdx_nil]
theorem sane_r1 {H : Hp} {o : EO} (g : Glb H) (e : ErrAt H o) : evI cS (nthC 1 b10) none [] H = some (.nor, [(1, .p H.length 0), (2, .d (.i .i64 0))], .box 29 [.d (.s ivC.a), .d (.s ivC.b), .d (.s ivC.c), .d (.s ivC.d)] :: H) := by
  have f0 := sp_A H
  have f1 := sp_B H
  have f2 := sa1 g e
  simp [nthC, b10, put, eset, eget, D.cells, V.cells, allD, hget, hset, fz, List.zipIdx_cons, List.zipIdx_nil, setParts, chunk1, allCellsD, eqKs, eqCell, f0, f1, f2]
theorem sane_r2 {H : Hp} {o : EO} (g : Glb H) (e : ErrAt H o) (v1 : V) : evI cS (nthC 2 b10) none [(1, v1), (2, .d (.i .i64 0))] H = some (.nor, [(1, v1), (2, .d (.i .i64 0)), (4, .d (.i .i64 50))], .box 29 [.d (.s []), .d (.s []), .d (.s []), .d (.s [])] :: H) := by
  have f0 := sp_D H
  have f1 := sp_E H
  have f2 := sa2 g e
  simp [nthC, b10, put, eset, eget, D.cells, V.cells, allD, hget, hset, fz, List.zipIdx_cons, List.zipIdx_nil, setParts, chunk1, allCellsD, eqKs, eqCell, f0, f1, f2]
theorem sane_r3 {H : Hp} {o : EO} (g : Glb H) (e : ErrAt H o) (v1 : V) : evI cS (nthC 3 b10) none [(1, v1), (2, .d (.i .i64 0)), (4, .d (.i .i64 50))] H = some (.nor, [(1, v1), (2, .d (.i .i64 0)), (4, .d (.i .i64 50)), (5, .p H.length 0), (6, .d (.i .i64 0))], .box 29 [.d (.s ivQ.a), .d (.s ivQ.b), .d (.s ivQ.c), .d (.s ivQ.d)] :: H) := by
  have f0 := sp_D H
  have f1 := sp_F H
  have f2 := sa3 g e
  simp [nthC, b10, put, eset, eget, D.cells, V.cells, allD, hget, hset, fz, List.zipIdx_cons, List.zipIdx_nil, setParts, chunk1, allCellsD, eqKs, eqCell, f0, f1, f2]
theorem sane_r4 {H : Hp} {o : EO} (g : Glb H) (e : ErrAt H o) (v1 v5 : V) : evI cS (nthC 4 b10) none [(1, v1), (2, .d (.i .i64 0)), (4, .d (.i .i64 50)), (5, v5), (6, .d (.i .i64 0))] H = some (.nor, [(1, v1), (2, .d (.i .i64 0)), (4, .d (.i .i64 50)), (5, v5), (6, .d (.i .i64 0)), (7, .p H.length 0), (8, .d (.i .i64 0))], .box 29 [.d (.s ivR.a), .d (.s ivR.b), .d (.s ivR.c), .d (.s ivR.d)] :: H) := by
  have f0 := sp_S H
  have f1 := sa4 g e
  simp [nthC, b10, put, eset, eget, D.cells, V.cells, allD, hget, hset, fz, List.zipIdx_cons, List.zipIdx_nil, setParts, chunk1, allCellsD, eqKs, eqCell, f0, f1]
theorem sane_r5 {H : Hp} {o : EO} (g : Glb H) (e : ErrAt H o) (v1 v5 v7 : V) : evI cS (nthC 5 b10) none [(1, v1), (2, .d (.i .i64 0)), (4, .d (.i .i64 50)), (5, v5), (6, .d (.i .i64 0)), (7, v7), (8, .d (.i .i64 0))] H = some (.nor, [(1, v1), (2, .d (.i .i64 0)), (4, .d (.i .i64 50)), (5, v5), (6, .d (.i .i64 0)), (7, v7), (8, .d (.i .i64 0)), (9, .p H.length 0), (10, .d (.i .i64 0))], .box 29 [.d (.s ivN.a), .d (.s ivN.b), .d (.s ivN.c), .d (.s ivN.d)] :: H) := by
  have f0 := sp_D H
  have f1 := sp_M H
  have f2 := sa5 g e
  simp [nthC, b10, put, eset, eget, D.cells, V.cells, allD, hget, hset, fz, List.zipIdx_cons, List.zipIdx_nil, setParts, chunk1, allCellsD, eqKs, eqCell, f0, f1, f2]
theorem sane_r6 {H : Hp} {o : EO} (g : Glb H) (e : ErrAt H o) (v1 v5 v7 v9 : V) : evI cS (nthC 6 b10) none [(1, v1), (2, .d (.i .i64 0)), (4, .d (.i .i64 50)), (5, v5), (6, .d (.i .i64 0)), (7, v7), (8, .d (.i .i64 0)), (9, v9), (10, .d (.i .i64 0))] H = some (.nor, [(1, v1), (2, .d (.i .i64 0)), (4, .d (.i .i64 50)), (5, v5), (6, .d (.i .i64 0)), (7, v7), (8, .d (.i .i64 0)), (9, v9), (10, .d (.i .i64 0)), (12, .d (.i .i64 50))], .box 29 [.d (.s []), .d (.s []), .d (.s []), .d (.s [])] :: H) := by
  have f0 := sp_D H
  have f1 := sp_O H
  have f2 := sa6 g e
  simp [nthC, b10, put, eset, eget, D.cells, V.cells, allD, hget, hset, fz, List.zipIdx_cons, List.zipIdx_nil, setParts, chunk1, allCellsD, eqKs, eqCell, f0, f1, f2]
theorem sane_r7 {H : Hp} {o : EO} (g : Glb H) (e : ErrAt H o) (v1 v5 v7 v9 : V) : evI cS (nthC 7 b10) none [(1, v1), (2, .d (.i .i64 0)), (4, .d (.i .i64 50)), (5, v5), (6, .d (.i .i64 0)), (7, v7), (8, .d (.i .i64 0)), (9, v9), (10, .d (.i .i64 0)), (12, .d (.i .i64 50))] H = some (.nor, [(1, v1), (2, .d (.i .i64 0)), (4, .d (.i .i64 50)), (5, v5), (6, .d (.i .i64 0)), (7, v7), (8, .d (.i .i64 0)), (9, v9), (10, .d (.i .i64 0)), (12, .d (.i .i64 50)), (13, .p H.length 0), (14, .d (.i .i64 0))], .box 29 [.d (.s ivU.a), .d (.s ivU.b), .d (.s ivU.c), .d (.s ivU.d)] :: H) := by
  have f0 := rt_1_3 H
  have f1 := rt_2_3 H
  have f2 := sa7 g e
  simp [nthC, b10, put, eset, eget, D.cells, V.cells, allD, hget, hset, fz, List.zipIdx_cons, List.zipIdx_nil, setParts, chunk1, allCellsD, eqKs, eqCell, f0, f1, f2]
theorem sane_r8 {H : Hp} {o : EO} (g : Glb H) (e : ErrAt H o) (v1 v5 v7 v9 v13 : V) : evI cS (nthC 8 b10) none [(1, v1), (2, .d (.i .i64 0)), (4, .d (.i .i64 50)), (5, v5), (6, .d (.i .i64 0)), (7, v7), (8, .d (.i .i64 0)), (9, v9), (10, .d (.i .i64 0)), (12, .d (.i .i64 50)), (13, v13), (14, .d (.i .i64 0))] H = some (.nor, [(1, v1), (2, .d (.i .i64 0)), (4, .d (.i .i64 50)), (5, v5), (6, .d (.i .i64 0)), (7, v7), (8, .d (.i .i64 0)), (9, v9), (10, .d (.i .i64 0)), (12, .d (.i .i64 50)), (13, v13), (14, .d (.i .i64 0)), (15, .p H.length 0), (16, .d (.i .i64 0))], .box 26 [.d (.s ivW.1), .d (.s ivW.2)] :: H) := by
  have f0 := sp_E H
  have f1 := sa8 g e
  simp [nthC, b10, put, eset, eget, D.cells, V.cells, allD, hget, hset, fz, List.zipIdx_cons, List.zipIdx_nil, setParts, chunk1, allCellsD, eqKs, eqCell, f0, f1]
set_option maxHeartbeats 2000000 in
theorem sane_r9 {H : Hp} {i1 i5 i7 : Nat} (g1 : hget H i1 = some (.box 29 [.d (.s ivC.a), .d (.s ivC.b), .d (.s ivC.c), .d (.s ivC.d)])) (g5 : hget H i5 = some (.box 29 [.d (.s ivQ.a), .d (.s ivQ.b), .d (.s ivQ.c), .d (.s ivQ.d)])) (g7 : hget H i7 = some (.box 29 [.d (.s ivR.a), .d (.s ivR.b), .d (.s ivR.c), .d (.s ivR.d)])) (v9 v13 v15 : V) : evI cS (nthC 9 b10) none [(1, .p i1 0), (2, .d (.i .i64 0)), (4, .d (.i .i64 50)), (5, .p i5 0), (6, .d (.i .i64 0)), (7, .p i7 0), (8, .d (.i .i64 0)), (9, v9), (10, .d (.i .i64 0)), (12, .d (.i .i64 50)), (13, v13), (14, .d (.i .i64 0)), (15, v15), (16, .d (.i .i64 0))] H = some (.nor, [(1, .p i1 0), (5, .p i5 0), (7, .p i7 0), (9, v9), (10, .d (.i .i64 0)), (12, .d (.i .i64 50)), (13, v13), (14, .d (.i .i64 0)), (15, v15), (16, .d (.i .i64 0)), (17, .d (.b true))], H) := by
  have f0 := sp_C H
  have f1 := rt_1_4 H
  have f2 := rt_1_1 H
  have f3 := rt_7_5 H
  have f4 := rt_9_5 H
  simp (maxSteps := 1000000) [nthC, b10, put, eset, eget, D.cells, V.cells, allD, hget, hset, fz, List.zipIdx_cons, List.zipIdx_nil, setParts, chunk1, allCellsD, eqKs, eqCell, g1, g5, g7, f0, f1, f2, f3, f4]
set_option maxHeartbeats 2000000 in
theorem sane_r10 {H : Hp} {i9 i13 i15 : Nat} (g1 : hget H i9 = some (.box 29 [.d (.s ivN.a), .d (.s ivN.b), .d (.s ivN.c), .d (.s ivN.d)])) (g5 : hget H i13 = some (.box 29 [.d (.s ivU.a), .d (.s ivU.b), .d (.s ivU.c), .d (.s ivU.d)])) (g7 : hget H i15 = some (.box 26 [.d (.s ivW.1), .d (.s ivW.2)])) (v1 v5 v7 : V) : evI cS (nthC 10 b10) none [(1, v1), (5, v5), (7, v7), (9, .p i9 0), (10, .d (.i .i64 0)), (12, .d (.i .i64 50)), (13, .p i13 0), (14, .d (.i .i64 0)), (15, .p i15 0), (16, .d (.i .i64 0)), (17, .d (.b true))] H = some (.nor, [(1, v1), (5, v5), (7, v7), (17, .d (.b true)), (18, .d (.b true))], H) := by
  have f0 := sp_N H
  have f1 := rt_3_10 H
  have f2 := rt_7_10 H
  have f3 := rt_5_1 H
  simp (maxSteps := 1000000) [nthC, b10, put, eset, eget, D.cells, V.cells, allD, hget, hset, fz, List.zipIdx_cons, List.zipIdx_nil, setParts, chunk1, allCellsD, eqKs, eqCell, g1, g5, g7, f0, f1, f2, f3]
set_option maxHeartbeats 2000000 in
theorem sane_r11 {H : Hp} (g : Glb H) {i1 i5 i7 : Nat} (g1 : hget H i1 = some (.box 29 [.d (.s ivC.a), .d (.s ivC.b), .d (.s ivC.c), .d (.s ivC.d)])) (g5 : hget H i5 = some (.box 29 [.d (.s ivQ.a), .d (.s ivQ.b), .d (.s ivQ.c), .d (.s ivQ.d)])) (g7 : hget H i7 = some (.box 29 [.d (.s ivR.a), .d (.s ivR.b), .d (.s ivR.c), .d (.s ivR.d)])) : evI cS (nthC 11 b10) none [(1, .p i1 0), (5, .p i5 0), (7, .p i7 0), (17, .d (.b true)), (18, .d (.b true))] H = some (.nor, [(0, .d (.b true))], H) := by
  have f0 := sp_V H
  have f1 := rt_0_1 H
  have f2 := rt_3_1 H
  have f3 := sp_P H
  have f4 := sv1 g
  have f5 := sv2 g
  have f6 := sv3 g
  have f7 := sv4 g
  have f8 := sv5 g
  rw [ivP_c, ivP_d] at f3 f8
  simp (maxSteps := 1000000) [nthC, b10, put, eset, eget, D.cells, V.cells, allD, hget, hset, fz, List.zipIdx_cons, List.zipIdx_nil, setParts, chunk1, allCellsD, eqKs, eqCell, g1, g5, g7, f0, f1, f2, f3, f4, f5, f6, f7, f8]
theorem sane_ok {H : Hp} {o : EO} (hG : Glb H) (hE : ErrAt H o) : callV cS false (fnV 10) [] H = some (.val (.d (.b true)), H) := by
  rw [callV_fn (sf := c10) rfl rfl rfl rfl]
  have hb : b10 = .seq (nthC 0 b10) (.seq (nthC 1 b10) (.seq (nthC 2 b10) (.seq (nthC 3 b10) (.seq (nthC 4 b10) (.seq (nthC 5 b10) (.seq (nthC 6 b10) (.seq (nthC 7 b10) (.seq (nthC 8 b10) (.seq (nthC 9 b10) (.seq (nthC 10 b10) (.seq (nthC 11 b10) (.ret)))))))))))) := rfl
  obtain ⟨h1, eh1⟩ : ∃ h1 : Hp, h1 = .box 29 [.d (.s ivC.a), .d (.s ivC.b), .d (.s ivC.c), .d (.s ivC.d)] :: H := ⟨_, rfl⟩
  have g1 : Glb h1 := by rw [eh1]; exact hG.cons _
  have e1 : ErrAt h1 o := by rw [eh1]; exact hE.cons _
  obtain ⟨h2, eh2⟩ : ∃ h2 : Hp, h2 = .box 29 [.d (.s []), .d (.s []), .d (.s []), .d (.s [])] :: h1 := ⟨_, rfl⟩
  have g2 : Glb h2 := by rw [eh2]; exact g1.cons _
  have e2 : ErrAt h2 o := by rw [eh2]; exact e1.cons _
  obtain ⟨h3, eh3⟩ : ∃ h3 : Hp, h3 = .box 29 [.d (.s ivQ.a), .d (.s ivQ.b), .d (.s ivQ.c), .d (.s ivQ.d)] :: h2 := ⟨_, rfl⟩
  have g3 : Glb h3 := by rw [eh3]; exact g2.cons _
  have e3 : ErrAt h3 o := by rw [eh3]; exact e2.cons _
  obtain ⟨h4, eh4⟩ : ∃ h4 : Hp, h4 = .box 29 [.d (.s ivR.a), .d (.s ivR.b), .d (.s ivR.c), .d (.s ivR.d)] :: h3 := ⟨_, rfl⟩
  have g4 : Glb h4 := by rw [eh4]; exact g3.cons _
  have e4 : ErrAt h4 o := by rw [eh4]; exact e3.cons _
  obtain ⟨h5, eh5⟩ : ∃ h5 : Hp, h5 = .box 29 [.d (.s ivN.a), .d (.s ivN.b), .d (.s ivN.c), .d (.s ivN.d)] :: h4 := ⟨_, rfl⟩
  have g5 : Glb h5 := by rw [eh5]; exact g4.cons _
  have e5 : ErrAt h5 o := by rw [eh5]; exact e4.cons _
  obtain ⟨h6, eh6⟩ : ∃ h6 : Hp, h6 = .box 29 [.d (.s []), .d (.s []), .d (.s []), .d (.s [])] :: h5 := ⟨_, rfl⟩
  have g6 : Glb h6 := by rw [eh6]; exact g5.cons _
  have e6 : ErrAt h6 o := by rw [eh6]; exact e5.cons _
  obtain ⟨h7, eh7⟩ : ∃ h7 : Hp, h7 = .box 29 [.d (.s ivU.a), .d (.s ivU.b), .d (.s ivU.c), .d (.s ivU.d)] :: h6 := ⟨_, rfl⟩
  have g7 : Glb h7 := by rw [eh7]; exact g6.cons _
  have e7 : ErrAt h7 o := by rw [eh7]; exact e6.cons _
  obtain ⟨h8, eh8⟩ : ∃ h8 : Hp, h8 = .box 26 [.d (.s ivW.1), .d (.s ivW.2)] :: h7 := ⟨_, rfl⟩
  have g8 : Glb h8 := by rw [eh8]; exact g7.cons _
  have e8 : ErrAt h8 o := by rw [eh8]; exact e7.cons _
  have q1 := sane_r1 hG hE
  rw [← eh1] at q1
  have q2 := sane_r2 g1 e1 (.p H.length 0)
  rw [← eh2] at q2
  have q3 := sane_r3 g2 e2 (.p H.length 0)
  rw [← eh3] at q3
  have q4 := sane_r4 g3 e3 (.p H.length 0) (.p h2.length 0)
  rw [← eh4] at q4
  have q5 := sane_r5 g4 e4 (.p H.length 0) (.p h2.length 0) (.p h3.length 0)
  rw [← eh5] at q5
  have q6 := sane_r6 g5 e5 (.p H.length 0) (.p h2.length 0) (.p h3.length 0) (.p h4.length 0)
  rw [← eh6] at q6
  have q7 := sane_r7 g6 e6 (.p H.length 0) (.p h2.length 0) (.p h3.length 0) (.p h4.length 0)
  rw [← eh7] at q7
  have q8 := sane_r8 g7 e7 (.p H.length 0) (.p h2.length 0) (.p h3.length 0) (.p h4.length 0) (.p h6.length 0)
  rw [← eh8] at q8
  have l1 : hget h8 H.length = some (.box 29 [.d (.s ivC.a), .d (.s ivC.b), .d (.s ivC.c), .d (.s ivC.d)]) := by rw [eh8, eh7, eh6, eh5, eh4, eh3, eh2, eh1]; simp [put, eset, eget, D.cells, V.cells, allD, hget, hset, fz, List.zipIdx_cons, List.zipIdx_nil]
  have l5 : hget h8 h2.length = some (.box 29 [.d (.s ivQ.a), .d (.s ivQ.b), .d (.s ivQ.c), .d (.s ivQ.d)]) := by rw [eh8, eh7, eh6, eh5, eh4, eh3, eh2, eh1]; simp [put, eset, eget, D.cells, V.cells, allD, hget, hset, fz, List.zipIdx_cons, List.zipIdx_nil]
  have l7 : hget h8 h3.length = some (.box 29 [.d (.s ivR.a), .d (.s ivR.b), .d (.s ivR.c), .d (.s ivR.d)]) := by rw [eh8, eh7, eh6, eh5, eh4, eh3, eh2, eh1]; simp [put, eset, eget, D.cells, V.cells, allD, hget, hset, fz, List.zipIdx_cons, List.zipIdx_nil]
  have l9 : hget h8 h4.length = some (.box 29 [.d (.s ivN.a), .d (.s ivN.b), .d (.s ivN.c), .d (.s ivN.d)]) := by rw [eh8, eh7, eh6, eh5, eh4, eh3, eh2, eh1]; simp [put, eset, eget, D.cells, V.cells, allD, hget, hset, fz, List.zipIdx_cons, List.zipIdx_nil]
  have l13 : hget h8 h6.length = some (.box 29 [.d (.s ivU.a), .d (.s ivU.b), .d (.s ivU.c), .d (.s ivU.d)]) := by rw [eh8, eh7, eh6, eh5, eh4, eh3, eh2, eh1]; simp [put, eset, eget, D.cells, V.cells, allD, hget, hset, fz, List.zipIdx_cons, List.zipIdx_nil]
  have l15 : hget h8 h7.length = some (.box 26 [.d (.s ivW.1), .d (.s ivW.2)]) := by rw [eh8, eh7, eh6, eh5, eh4, eh3, eh2, eh1]; simp [put, eset, eget, D.cells, V.cells, allD, hget, hset, fz, List.zipIdx_cons, List.zipIdx_nil]
  have q9 := sane_r9 l1 l5 l7 (.p h4.length 0) (.p h6.length 0) (.p h7.length 0)
  have q10 := sane_r10 l9 l13 l15 (.p H.length 0) (.p h2.length 0) (.p h3.length 0)
  have q11 := sane_r11 g8 l1 l5 l7
  show (match outOf c10.res (evI cS b10 none [] H) with | some r => fin false H r | none => none) = _
  rw [hb]
  rw [evI_seq, sane_r0]
  simp only [thenR]
  rw [evI_seq, q1]
  simp only [thenR]
  rw [evI_seq, q2]
  simp only [thenR]
  rw [evI_seq, q3]
  simp only [thenR]
  rw [evI_seq, q4]
  simp only [thenR]
  rw [evI_seq, q5]
  simp only [thenR]
  rw [evI_seq, q6]
  simp only [thenR]
  rw [evI_seq, q7]
  simp only [thenR]
  rw [evI_seq, q8]
  simp only [thenR]
  rw [evI_seq, q9]
  simp only [thenR]
  rw [evI_seq, q10]
  simp only [thenR]
  rw [evI_seq, q11]
  simp only [thenR]
  rw [eh8, eh7, eh6, eh5, eh4, eh3, eh2, eh1]
  simp [c10, put, eset, eget, D.cells, V.cells, allD, hget, hset, fz, List.zipIdx_cons, List.zipIdx_nil]
end Go.Proofs.YtmiioebapckcoaaGreatDoor
end
section
/- The walk of EnclosureRounds. Printed by wip/tools/mkRounds.py. -/
namespace Go.Proofs.YtmiioebapckcoaaGreatDoor
open Go Num
set_option maxRecDepth 4000

theorem rounds_r0 (H : Hp) (x0 x1 x2 x3 y0 y1 y2 y3 n : Int) : evI cS (nthC 0 b3) none [(0, .d (.agg [.i .i64 x0, .i .i64 x1, .i .i64 x2, .i .i64 x3])), (1, .d (.agg [.i .i64 y0, .i .i64 y1, .i .i64 y2, .i .i64 y3])), (2, .d (.i .i64 n))] H = some (.nor, [(2, .d (.i .i64 n)), (3, .p H.length 0), (4, .p (H.length + 1) 0)], .box 22 [.d (.i .i64 y0), .d (.i .i64 y1), .d (.i .i64 y2), .d (.i .i64 y3)] :: .box 22 [.d (.i .i64 x0), .d (.i .i64 x1), .d (.i .i64 x2), .d (.i .i64 x3)] :: H) := by
  simp [nthC, b3, put, eset, eget, D.cells, V.cells, allD, hget, hset, fz, List.zipIdx_cons, List.zipIdx_nil, setParts, chunk1, allCellsD, eqKs, eqCell]
theorem rounds_r1 {H : Hp} {o : EO} (g : Glb H) (e : ErrAt H o) (v2 v3 v4 : V) : evI cS (nthC 1 b3) none [(2, v2), (3, v3), (4, v4)] H = some (.nor, [(2, v2), (3, v3), (4, v4), (7, .d (.b true))], H) := by
  have f0 := sane_ok g e
  simp [nthC, b3, put, eset, eget, D.cells, V.cells, allD, hget, hset, fz, List.zipIdx_cons, List.zipIdx_nil, setParts, chunk1, allCellsD, eqKs, eqCell, f0]
theorem rounds_r2 {H : Hp} (n : Int) (hn : I64 n) (v3 v4 v7 : V) : evI cS (nthC 2 b3) none [(2, .d (.i .i64 n)), (3, v3), (4, v4), (7, v7)] H = some (.nor, [(2, .d (.i .i64 (pickI n 31))), (3, v3), (4, v4), (7, v7)], H) := by
  have f0 := pick5_ok n 31 hn (by unfold I64; omega) (by omega) H
  simp [nthC, b3, put, eset, eget, D.cells, V.cells, allD, hget, hset, fz, List.zipIdx_cons, List.zipIdx_nil, setParts, chunk1, allCellsD, eqKs, eqCell, f0]
theorem rounds_r3 {H : Hp} {i : Nat} {c0 c1 c2 c3 : Int} (gi : hget H i = some (.box 22 [.d (.i .i64 c0), .d (.i .i64 c1), .d (.i .i64 c2), .d (.i .i64 c3)])) {a b : List UInt8} (hl : ∀ h, callV cS false (fnV 12) [.d (.agg [.i .i64 c0, .i .i64 c1, .i .i64 c2, .i .i64 c3])] h = some (.val (.d (.agg [.s a, .s b])), h)) (v2 v4 v7 : V) :
    evI cS (nthC 3 b3) none [(2, v2), (3, .p i 0), (4, v4), (7, v7)] H = some (.nor, [(2, v2), (4, v4), (7, v7), (8, .p H.length 0)], .box 26 [.d (.s a), .d (.s b)] :: H) := by
  simp [nthC, b3, put, eset, eget, D.cells, V.cells, allD, hget, hset, fz, List.zipIdx_cons, List.zipIdx_nil, setParts, chunk1, allCellsD, eqKs, eqCell, gi, hl]
theorem rounds_r4 {H : Hp} {i : Nat} {c0 c1 c2 c3 : Int} (gi : hget H i = some (.box 22 [.d (.i .i64 c0), .d (.i .i64 c1), .d (.i .i64 c2), .d (.i .i64 c3)])) {a b : List UInt8} (hl : ∀ h, callV cS false (fnV 12) [.d (.agg [.i .i64 c0, .i .i64 c1, .i .i64 c2, .i .i64 c3])] h = some (.val (.d (.agg [.s a, .s b])), h)) (v2 v7 v8 : V) :
    evI cS (nthC 4 b3) none [(2, v2), (4, .p i 0), (7, v7), (8, v8)] H = some (.nor, [(2, v2), (7, v7), (8, v8), (9, .p H.length 0)], .box 26 [.d (.s a), .d (.s b)] :: H) := by
  simp [nthC, b3, put, eset, eget, D.cells, V.cells, allD, hget, hset, fz, List.zipIdx_cons, List.zipIdx_nil, setParts, chunk1, allCellsD, eqKs, eqCell, gi, hl]
theorem rounds_r5 {H : Hp} {i j : Nat} {a b c d : List UInt8} (gi : hget H i = some (.box 26 [.d (.s a), .d (.s b)])) (gj : hget H j = some (.box 26 [.d (.s c), .d (.s d)])) (v2 v7 : V) :
    evI cS (nthC 5 b3) none [(2, v2), (7, v7), (8, .p i 0), (9, .p j 0)] H = some (.nor, [(2, v2), (7, v7), (8, .p i 0), (9, .p j 0), (10, .p H.length 0)], .box 29 [.d (.s a), .d (.s b), .d (.s c), .d (.s d)] :: H) := by
  simp [nthC, b3, put, eset, eget, D.cells, V.cells, allD, hget, hset, fz, List.zipIdx_cons, List.zipIdx_nil, setParts, chunk1, allCellsD, eqKs, eqCell, gi, gj]
theorem rounds_r6a {H : Hp} {i j : Nat} {a b c d : List UInt8} (gi : hget H i = some (.box 26 [.d (.s a), .d (.s b)])) (gj : hget H j = some (.box 26 [.d (.s c), .d (.s d)])) {z : Int} (hz : 0 < z)
    (hc : callV cS false (fnV 13) [.d (.agg [.s a, .s b]), .d (.agg [.s c, .s d])] (.box 29 [.d (.s a), .d (.s b), .d (.s c), .d (.s d)] :: H) = some (.val (.d (.i .i64 z)), .box 29 [.d (.s a), .d (.s b), .d (.s c), .d (.s d)] :: H)) (v2 v7 : V) :
    evI cS (nthC 6 b3) none [(2, v2), (7, v7), (8, .p i 0), (9, .p j 0), (10, .p H.length 0)] (.box 29 [.d (.s a), .d (.s b), .d (.s c), .d (.s d)] :: H) = some (.nor, [(2, v2), (7, v7), (10, .p H.length 0)], .box 29 [.d (.s c), .d (.s d), .d (.s a), .d (.s b)] :: H) := by
  have li := hget_lt' gi
  have lj := hget_lt' gj
  have ni : ¬ i = H.length := by omega
  have nj : ¬ j = H.length := by omega
  simp [nthC, b3, put, eset, eget, D.cells, V.cells, allD, hget, hset, fz, List.zipIdx_cons, List.zipIdx_nil, setParts, chunk1, allCellsD, eqKs, eqCell, gi, gj, ni, nj, hc, hz]
theorem rounds_r6b {H : Hp} {i j : Nat} {a b c d : List UInt8} (gi : hget H i = some (.box 26 [.d (.s a), .d (.s b)])) (gj : hget H j = some (.box 26 [.d (.s c), .d (.s d)])) {z : Int} (hz : ¬ 0 < z)
    (hc : callV cS false (fnV 13) [.d (.agg [.s a, .s b]), .d (.agg [.s c, .s d])] (.box 29 [.d (.s a), .d (.s b), .d (.s c), .d (.s d)] :: H) = some (.val (.d (.i .i64 z)), .box 29 [.d (.s a), .d (.s b), .d (.s c), .d (.s d)] :: H)) (v2 v7 : V) :
    evI cS (nthC 6 b3) none [(2, v2), (7, v7), (8, .p i 0), (9, .p j 0), (10, .p H.length 0)] (.box 29 [.d (.s a), .d (.s b), .d (.s c), .d (.s d)] :: H) = some (.nor, [(2, v2), (7, v7), (8, .p i 0), (9, .p j 0), (10, .p H.length 0), (34, .d (.b false))], .box 29 [.d (.s a), .d (.s b), .d (.s c), .d (.s d)] :: H) := by
  have li := hget_lt' gi
  have lj := hget_lt' gj
  have ni : ¬ i = H.length := by omega
  have nj : ¬ j = H.length := by omega
  simp [nthC, b3, put, eset, eget, D.cells, V.cells, allD, hget, hset, fz, List.zipIdx_cons, List.zipIdx_nil, setParts, chunk1, allCellsD, eqKs, eqCell, gi, gj, ni, nj, hc, hz]
theorem rounds_r7 {H : Hp} {i : Nat} {a b c d s t u v : List UInt8} {n : Int} (gi : hget H i = some (.box 29 [.d (.s a), .d (.s b), .d (.s c), .d (.s d)])) (hc : callV cS false (fnV 14) [.d (.agg [.s a, .s b, .s c, .s d]), .d (.i .i64 n)] H = some (.val (.d (.tup [(.agg [.s s, .s t, .s u, .s v]), .i .i64 0])), H)) (v7 : V) :
    evI cS (nthC 7 b3) none [(2, .d (.i .i64 n)), (7, v7), (10, .p i 0)] H = some (.nor, [(2, .d (.i .i64 n)), (7, v7), (10, .p i 0), (11, .p H.length 0), (12, .d (.i .i64 0))], .box 29 [.d (.s s), .d (.s t), .d (.s u), .d (.s v)] :: H) := by
  simp [nthC, b3, put, eset, eget, D.cells, V.cells, allD, hget, hset, fz, List.zipIdx_cons, List.zipIdx_nil, setParts, chunk1, allCellsD, eqKs, eqCell, gi, hc]
theorem rounds_r7b {H : Hp} {i : Nat} {a b c d s t u v : List UInt8} {n : Int} (gi : hget H i = some (.box 29 [.d (.s a), .d (.s b), .d (.s c), .d (.s d)])) (hc : callV cS false (fnV 14) [.d (.agg [.s a, .s b, .s c, .s d]), .d (.i .i64 n)] H = some (.val (.d (.tup [(.agg [.s s, .s t, .s u, .s v]), .i .i64 0])), H)) (v7 v8 v9 v34 : V) :
    evI cS (nthC 7 b3) none [(2, .d (.i .i64 n)), (7, v7), (8, v8), (9, v9), (10, .p i 0), (34, v34)] H = some (.nor, [(2, .d (.i .i64 n)), (7, v7), (10, .p i 0), (11, .p H.length 0), (12, .d (.i .i64 0))], .box 29 [.d (.s s), .d (.s t), .d (.s u), .d (.s v)] :: H) := by
  simp [nthC, b3, put, eset, eget, D.cells, V.cells, allD, hget, hset, fz, List.zipIdx_cons, List.zipIdx_nil, setParts, chunk1, allCellsD, eqKs, eqCell, gi, hc]
theorem rounds_r8 {H : Hp} {i : Nat} {a b c d s t u v : List UInt8} {n : Int} (gi : hget H i = some (.box 29 [.d (.s a), .d (.s b), .d (.s c), .d (.s d)])) (hc : callV cS false (fnV 14) [.d (.agg [.s a, .s b, .s c, .s d]), .d (.i .i64 n)] H = some (.val (.d (.tup [(.agg [.s s, .s t, .s u, .s v]), .i .i64 0])), H)) (v7 v10 v12 : V) :
    evI cS (nthC 8 b3) none [(2, .d (.i .i64 n)), (7, v7), (10, v10), (11, .p i 0), (12, v12)] H = some (.nor, [(2, .d (.i .i64 n)), (7, v7), (10, v10), (11, .p i 0), (12, v12), (13, .p H.length 0), (14, .d (.i .i64 0))], .box 29 [.d (.s s), .d (.s t), .d (.s u), .d (.s v)] :: H) := by
  simp [nthC, b3, put, eset, eget, D.cells, V.cells, allD, hget, hset, fz, List.zipIdx_cons, List.zipIdx_nil, setParts, chunk1, allCellsD, eqKs, eqCell, gi, hc]
theorem rounds_r9 {H : Hp} {i10 i11 i13 : Nat} {a b c d s t u v : List UInt8} (g10 : hget H i10 = some (.box 29 [.d (.s a), .d (.s b), .d (.s c), .d (.s d)])) (g11 : hget H i11 = some (.box 29 [.d (.s s), .d (.s t), .d (.s u), .d (.s v)])) (g13 : hget H i13 = some (.box 29 [.d (.s s), .d (.s t), .d (.s u), .d (.s v)]))
    (hc : callV cS false (fnV 15) [.d (.agg [.s a, .s b, .s c, .s d]), .d (.agg [.s s, .s t, .s u, .s v])] H = some (.val (.d (.b true)), H)) (v2 v7 : V) :
    evI cS (nthC 9 b3) none [(2, v2), (7, v7), (10, .p i10 0), (11, .p i11 0), (12, .d (.i .i64 0)), (13, .p i13 0), (14, .d (.i .i64 0))] H = some (.nor, [(2, v2), (7, v7), (10, .p i10 0), (11, .p i11 0), (66, .d (.b false))], H) := by
  simp [nthC, b3, put, eset, eget, D.cells, V.cells, allD, hget, hset, fz, List.zipIdx_cons, List.zipIdx_nil, setParts, chunk1, allCellsD, eqKs, eqCell, g10, g11, g13, hc]
theorem rounds_r10 {H : Hp} {a b : List UInt8} (hc : callV cS false (fnV 16) [.d (.i .i64 1), .d (.i .i64 1)] H = some (.val (.d (.agg [.s a, .s b])), H)) (v2 v7 v10 v11 v66 : V) :
    evI cS (nthC 10 b3) none [(2, v2), (7, v7), (10, v10), (11, v11), (66, v66)] H = some (.nor, [(2, v2), (7, v7), (10, v10), (11, v11), (15, .p H.length 0)], .box 26 [.d (.s a), .d (.s b)] :: H) := by
  simp [nthC, b3, put, eset, eget, D.cells, V.cells, allD, hget, hset, fz, List.zipIdx_cons, List.zipIdx_nil, setParts, chunk1, allCellsD, eqKs, eqCell, hc]
/-- one unit of the place i -/
def unitQ (i : Nat) : Rat := Rat.divInt 1 ((10 ^ i : Nat) : Int)
theorem unitQ_parts (i : Nat) : (unitQ i).num = 1 ∧ ((unitQ i).den : Int) = ((10 ^ i : Nat) : Int) := by
  have h : 0 < 10 ^ i := Nat.pow_pos (by omega)
  obtain ⟨p1, p2⟩ := divInt_parts 1 ((10 ^ i : Nat) : Int) (by omega)
  unfold unitQ
  rw [p1, p2]
  simp
theorem unitQ_fits {i : Nat} (h : i ≤ 30) : RFits (unitQ i) := by
  obtain ⟨p1, p2⟩ := unitQ_parts i
  refine ⟨by rw [p1]; exact fits_one, ?_⟩
  rw [p2]; exact fits_pow10 h
theorem unit_div {i : Nat} (h : i < 30) {H : Hp} (g : Glb H) : callV cS false (fnV 17) [.d (.agg [.s (txt (unitQ i).num), .s (txt (unitQ i).den)]), .d (.agg [.s (txt (10 : Rat).num), .s (txt (10 : Rat).den)])] H = some (.val (.d (.tup [.agg [.s (txt (unitQ (i + 1)).num), .s (txt (unitQ (i + 1)).den)], .i .i64 0])), H) := by
  have h1 := RDiv_ok (txt (unitQ i).num) (txt (unitQ i).den) (txt (10 : Rat).num) (txt (10 : Rat).den) H g
  obtain ⟨p1, p2⟩ := unitQ_parts i
  have he : opQ (fun p q => two (p.num * q.den) ((p.den : Int) * q.num)) errR (txt (unitQ i).num) (txt (unitQ i).den) (txt (10 : Rat).num) (txt (10 : Rat).den) = .tup [dR (unitQ (i + 1)), .i .i64 0] := by
    simp only [opQ, RQ_txt (unitQ_fits (show i ≤ 30 by omega)), RQ_txt (show RFits 10 from Sm.fits (by decide))]
    rw [p1, p2, show ((10 : Rat).den : Int) = 1 from rfl, show (10 : Rat).num = 10 from rfl, Int.mul_one, show ((10 ^ i : Nat) : Int) * 10 = ((10 ^ (i + 1) : Nat) : Int) by rw [Nat.pow_succ]; simp]
    have hp : 0 < 10 ^ (i + 1) := Nat.pow_pos (by omega)
    rw [two, if_pos ⟨fits_one, fits_pow10 (by omega)⟩, makeD, if_neg (by omega)]
    rfl
  rw [he] at h1
  exact h1
theorem rounds_loop {H : Hp} (g : Glb H) {m : Nat} (hm : m ≤ 30) (v7 v10 v11 : V) : ∀ (k i : Nat), i + k = m →
    evI cS (.loop l3_0) none [(2, .d (.i .i64 m)), (7, v7), (10, v10), (11, v11), (15, .p H.length 0), (16, .d (.i .i64 i))] (.box 26 [.d (.s (txt (unitQ i).num)), .d (.s (txt (unitQ i).den))] :: H) =
      some (.ex 0, [(2, .d (.i .i64 m)), (7, v7), (10, v10), (11, v11), (15, .p H.length 0), (16, .d (.i .i64 m)), (70, .d (.b false))], .box 26 [.d (.s (txt (unitQ m).num)), .d (.s (txt (unitQ m).den))] :: H) := by
  intro k
  induction k with
  | zero =>
    intro i hi
    obtain rfl : i = m := by omega
    rw [evI_loop]
    generalize txt (unitQ i).num = a
    generalize txt (unitQ i).den = b
    simp [l3_0, put, eset, eget, D.cells, V.cells, allD, hget, hset, fz, List.zipIdx_cons, List.zipIdx_nil, setParts, chunk1, allCellsD, eqKs, eqCell]
  | succ k ih =>
    intro i hi
    have hlt : (i : Int) < m := by omega
    have hlt2 : i < m := by omega
    have w1 : IntKind.i64.wrap ((i : Int) + 1) = (i : Int) + 1 := wr64 (by omega) (by omega)
    have f0 := ratio_q 10 1 10 (by unfold I64; omega) (by unfold I64; omega) (by omega) (by decide +kernel) (.box 26 [.d (.s (txt (unitQ i).num)), .d (.s (txt (unitQ i).den))] :: H)
    have f1 := unit_div (show i < 30 by omega) (g.cons (.box 26 [.d (.s (txt (unitQ i).num)), .d (.s (txt (unitQ i).den))]))
    have hih := ih (i + 1) (by omega)
    simp only [l3_0, Int.natCast_add, show ((1 : Nat) : Int) = 1 from rfl] at hih
    rw [evI_loop]
    generalize txt (unitQ m).num = am at *
    generalize txt (unitQ m).den = bm at *
    generalize txt (unitQ (i + 1)).num = a2 at *
    generalize txt (unitQ (i + 1)).den = b2 at *
    generalize txt (unitQ i).num = a at *
    generalize txt (unitQ i).den = b at *
    generalize txt (10 : Rat).num = a1 at *
    generalize txt (10 : Rat).den = b1 at *
    simp [l3_0, put, eset, eget, D.cells, V.cells, allD, hget, hset, fz, List.zipIdx_cons, List.zipIdx_nil, setParts, chunk1, allCellsD, eqKs, eqCell, hlt, hlt2, w1, f0, f1, hih]
theorem rounds_r11 {H : Hp} (g : Glb H) {m : Nat} (hm : m ≤ 30) (v7 v10 v11 : V) :
    evI cS (nthC 11 b3) none [(2, .d (.i .i64 m)), (7, v7), (10, v10), (11, v11), (15, .p H.length 0)] (.box 26 [.d (.s (txt (unitQ 0).num)), .d (.s (txt (unitQ 0).den))] :: H) =
      some (.nor, [(2, .d (.i .i64 m)), (7, v7), (10, v10), (11, v11), (15, .p H.length 0), (16, .d (.i .i64 m)), (70, .d (.b false))], .box 26 [.d (.s (txt (unitQ m).num)), .d (.s (txt (unitQ m).den))] :: H) := by
  have hl := rounds_loop g hm v7 v10 v11 m 0 (by omega)
  simp only [show ((0 : Nat) : Int) = 0 from rfl] at hl
  generalize txt (unitQ m).num = am at *
  generalize txt (unitQ m).den = bm at *
  generalize txt (unitQ 0).num = a at *
  generalize txt (unitQ 0).den = b at *
  generalize (m : Int) = n at *
  simp [nthC, b3, put, eset, eget, D.cells, V.cells, allD, hget, hset, fz, List.zipIdx_cons, List.zipIdx_nil, setParts, chunk1, allCellsD, eqKs, eqCell, hl]
theorem rounds_r12 {H : Hp} {i10 i11 : Nat} {a b c d s t u v x y : List UInt8} {e : Int} (g10 : hget H i10 = some (.box 29 [.d (.s a), .d (.s b), .d (.s c), .d (.s d)])) (g11 : hget H i11 = some (.box 29 [.d (.s s), .d (.s t), .d (.s u), .d (.s v)]))
    (hc : callV cS false (fnV 18) [.d (.agg [.s a, .s b]), .d (.agg [.s s, .s t])] H = some (.val (.d (.tup [(.agg [.s x, .s y]), .i .i64 e])), H)) (v2 v7 v15 v16 v70 : V) :
    evI cS (nthC 12 b3) none [(2, v2), (7, v7), (10, .p i10 0), (11, .p i11 0), (15, v15), (16, v16), (70, v70)] H = some (.nor, [(7, v7), (10, .p i10 0), (11, .p i11 0), (15, v15), (17, .p H.length 0), (18, .d (.i .i64 e))], .box 26 [.d (.s x), .d (.s y)] :: H) := by
  simp [nthC, b3, put, eset, eget, D.cells, V.cells, allD, hget, hset, fz, List.zipIdx_cons, List.zipIdx_nil, setParts, chunk1, allCellsD, eqKs, eqCell, g10, g11, hc]
theorem rounds_r13 {H : Hp} {i10 i11 : Nat} {a b c d s t u v x y : List UInt8} {e : Int} (g10 : hget H i10 = some (.box 29 [.d (.s a), .d (.s b), .d (.s c), .d (.s d)])) (g11 : hget H i11 = some (.box 29 [.d (.s s), .d (.s t), .d (.s u), .d (.s v)]))
    (hc : callV cS false (fnV 18) [.d (.agg [.s u, .s v]), .d (.agg [.s c, .s d])] H = some (.val (.d (.tup [(.agg [.s x, .s y]), .i .i64 e])), H)) (v7 v15 v17 v18 : V) :
    evI cS (nthC 13 b3) none [(7, v7), (10, .p i10 0), (11, .p i11 0), (15, v15), (17, v17), (18, v18)] H = some (.nor, [(7, v7), (15, v15), (17, v17), (18, v18), (19, .p H.length 0), (20, .d (.i .i64 e))], .box 26 [.d (.s x), .d (.s y)] :: H) := by
  simp [nthC, b3, put, eset, eget, D.cells, V.cells, allD, hget, hset, fz, List.zipIdx_cons, List.zipIdx_nil, setParts, chunk1, allCellsD, eqKs, eqCell, g10, g11, hc]
theorem rounds_r14 {H : Hp} {i15 i17 i19 : Nat} {a b c d s t : List UInt8} {e1 e2 : Int} (g15 : hget H i15 = some (.box 26 [.d (.s a), .d (.s b)])) (g17 : hget H i17 = some (.box 26 [.d (.s c), .d (.s d)])) (g19 : hget H i19 = some (.box 26 [.d (.s s), .d (.s t)]))
    (h1 : e1 = 0 → callV cS false (fnV 13) [.d (.agg [.s c, .s d]), .d (.agg [.s a, .s b])] H = some (.val (.d (.i .i64 (-1))), H))
    (h2 : e2 = 0 → callV cS false (fnV 13) [.d (.agg [.s s, .s t]), .d (.agg [.s a, .s b])] H = some (.val (.d (.i .i64 (-1))), H)) :
    evI cS (nthC 14 b3) none [(7, .d (.b true)), (15, .p i15 0), (17, .p i17 0), (18, .d (.i .i64 e1)), (19, .p i19 0), (20, .d (.i .i64 e2))] H = some (.nor, [(6, .d (.b true))], H) := by
  by_cases k1 : e1 = 0
  · have f1 := h1 k1
    by_cases k2 : e2 = 0
    · have f2 := h2 k2
      simp [nthC, b3, put, eset, eget, D.cells, V.cells, allD, hget, hset, fz, List.zipIdx_cons, List.zipIdx_nil, setParts, chunk1, allCellsD, eqKs, eqCell, g15, g17, g19, f1, f2, k1, k2]
    · have b2 : (e2 == 0) = false := by rw [beq_eq_false_iff_ne]; exact k2
      simp [nthC, b3, put, eset, eget, D.cells, V.cells, allD, hget, hset, fz, List.zipIdx_cons, List.zipIdx_nil, setParts, chunk1, allCellsD, eqKs, eqCell, g15, g17, g19, f1, k1, k2, bne, b2]
  · have b1 : (e1 == 0) = false := by rw [beq_eq_false_iff_ne]; exact k1
    by_cases k2 : e2 = 0
    · have f2 := h2 k2
      simp [nthC, b3, put, eset, eget, D.cells, V.cells, allD, hget, hset, fz, List.zipIdx_cons, List.zipIdx_nil, setParts, chunk1, allCellsD, eqKs, eqCell, g15, g17, g19, f2, k1, k2, bne, b1]
    · have b2 : (e2 == 0) = false := by rw [beq_eq_false_iff_ne]; exact k2
      simp [nthC, b3, put, eset, eget, D.cells, V.cells, allD, hget, hset, fz, List.zipIdx_cons, List.zipIdx_nil, setParts, chunk1, allCellsD, eqKs, eqCell, g15, g17, g19, k1, k2, bne, b1, b2]
end Go.Proofs.YtmiioebapckcoaaGreatDoor
end
section
/- EnclosureRounds: what the calls answer, and the law. -/
namespace Go.Proofs.YtmiioebapckcoaaGreatDoor
open Go Num
set_option maxRecDepth 4000

theorem trunc_app : ∀ (L H : Hp), trunc H.length (L ++ H) = H
  | [], H => trunc_self H
  | x :: L, H => by rw [List.cons_append, trunc_cons' (by simp)]; exact trunc_app L H
theorem HOk_app : ∀ (L H : Hp), HOk H (L ++ H)
  | [], H => HOk.refl H
  | x :: L, H => by rw [List.cons_append, HOk_cons' (by simp)]; exact HOk_app L H
theorem fin_app (L H : Hp) (x : D) : fin false H (.ret (.d x), L ++ H) = some (.val (.d x), H) := by
  rw [fin_val, if_pos ⟨by simp, HOk_app L H⟩, trunc_app]

theorem round_val {lo hi : Rat} (fl : RFits lo) (fh : RFits hi) (hle : lo ≤ hi) {n : Int} (h0 : 0 ≤ n) (h30 : n ≤ 30) (f1 : Fits (lo.num * tenP n)) (f2 : Fits (hi.num * tenP n)) {h : Hp} {o : EO} (g : Glb h) (e : ErrAt h o) :
    callV cS false (fnV 14) [.d (dI4 lo hi), .d (.i .i64 n)] h = some (.val (.d (.tup [dI4 (rdQ false n lo) (rdQ true n hi), .i .i64 0])), h) := by
  have := ERound_ok (qV lo hi) n (by unfold I64; omega) g e
  have he : pairD (opQ1 (rdD false n) errR (qV lo hi).a (qV lo hi).b) (opQ1 (rdD true n) errR (qV lo hi).c (qV lo hi).d) = some (dI4 (rdQ false n lo) (rdQ true n hi)) := by
    simp only [qV, opQ1, RQ_txt fl, RQ_txt fh, rdD_eq false h0 h30 f1, rdD_eq true h0 h30 f2]
    rfl
  rw [he, workD_one (qV_ok fl fh hle)] at this
  exact this
theorem within_val {lo hi L U : Rat} (fl : RFits lo) (fh : RFits hi) (fL : RFits L) (fU : RFits U) (h1 : L ≤ lo) (h2 : lo ≤ hi) (h3 : hi ≤ U) {h : Hp} (g : Glb h) :
    callV cS false (fnV 15) [.d (dI4 lo hi), .d (dI4 L U)] h = some (.val (.d (.b true)), h) := by
  have := Within_ok (qV lo hi) (qV L U) h g
  have hLU : L ≤ U := Rat.le_trans h1 (Rat.le_trans h2 h3)
  have e1 : inB (qV L U) (qV lo hi).a (qV lo hi).b = true := by
    show inB (qV L U) (txt lo.num) (txt lo.den) = true
    rw [inB_qV fL fU fl hLU, decide_eq_true h1, decide_eq_true (Rat.le_trans h2 h3)]; rfl
  have e2 : inB (qV L U) (qV lo hi).c (qV lo hi).d = true := by
    show inB (qV L U) (txt hi.num) (txt hi.den) = true
    rw [inB_qV fL fU fh hLU, decide_eq_true (Rat.le_trans h1 h2), decide_eq_true h3]; rfl
  rw [qV_ok fl fh h2, e1, e2] at this
  exact this
theorem compare_val {p q : Rat} (fp : RFits p) (fq : RFits q) {h : Hp} (g : Glb h) :
    callV cS false (fnV 13) [.d (.agg [.s (txt p.num), .s (txt p.den)]), .d (.agg [.s (txt q.num), .s (txt q.den)])] h = some (.val (.d (.i .i64 (cmpQ p q))), h) := by
  have := RCompare_ok (txt p.num) (txt p.den) (txt q.num) (txt q.den) h g
  have he : opQ (fun p q => .i .i64 (cmpQ p q)) (.i .i64 0) (txt p.num) (txt p.den) (txt q.num) (txt q.den) = .i .i64 (cmpQ p q) := by simp [opQ, RQ_txt fp, RQ_txt fq]
  rw [he] at this
  exact this
theorem cmpQ_less {p q : Rat} (h : p < q) : cmpQ p q = -1 := by
  have := cmpQ_lt.2 h
  unfold cmpQ cmpI at this ⊢
  split
  · rfl
  · rename_i h1; rw [if_neg h1] at this; split at this <;> omega
theorem sub_unit {p q u : Rat} (fp : RFits p) (fq : RFits q) (fu : RFits u) (hlt : p - q < u) : ∃ x y e, (∀ h, Glb h → callV cS false (fnV 18) [.d (.agg [.s (txt p.num), .s (txt p.den)]), .d (.agg [.s (txt q.num), .s (txt q.den)])] h = some (.val (.d (.tup [.agg [.s x, .s y], .i .i64 e])), h)) ∧
    (e = 0 → ∀ h, Glb h → callV cS false (fnV 13) [.d (.agg [.s x, .s y]), .d (.agg [.s (txt u.num), .s (txt u.den)])] h = some (.val (.d (.i .i64 (-1))), h)) := by
  have hs := fun h g => RSub_ok (txt p.num) (txt p.den) (txt q.num) (txt q.den) h g
  have he : opQ (sumD fun x y => x - y) errR (txt p.num) (txt p.den) (txt q.num) (txt q.den) = sumD (fun x y => x - y) p q := by simp only [opQ, RQ_txt fp, RQ_txt fq]
  rw [he] at hs
  rcases sumD_cases p q with h | ⟨h, hf⟩
  · rw [h] at hs
    exact ⟨[], [], 40, hs, fun h => by omega⟩
  · rw [h] at hs
    refine ⟨_, _, 0, hs, fun _ h g => ?_⟩
    rw [compare_val hf fu g, cmpQ_less hlt]
def roundsT : C := .seq (nthC 8 b3) (.seq (nthC 9 b3) (.seq (nthC 10 b3) (.seq (nthC 11 b3) (.seq (nthC 12 b3) (.seq (nthC 13 b3) (.seq (nthC 14 b3) .ret))))))
theorem unitQ_zero : unitQ 0 = 1 := by decide +kernel
/-- from the second rounding on -/
theorem rounds_tail {lo hi : Rat} (sl : Sh lo) (sh : Sh hi) (hle : lo ≤ hi) {m : Nat} (hm : m ≤ 30) {G : Hp} {o : EO} (g : Glb G) (e : ErrAt G o) {i10 : Nat} (g10 : hget G i10 = some (.box 29 [.d (.s (txt lo.num)), .d (.s (txt lo.den)), .d (.s (txt hi.num)), .d (.s (txt hi.den))])) :
    ∃ L, evI cS roundsT none [(2, .d (.i .i64 m)), (7, .d (.b true)), (10, .p i10 0), (11, .p G.length 0), (12, .d (.i .i64 0))] (.box 29 [.d (.s (txt (rdQ false m lo).num)), .d (.s (txt (rdQ false m lo).den)), .d (.s (txt (rdQ true m hi).num)), .d (.s (txt (rdQ true m hi).den))] :: G) = some (.rt, [(6, .d (.b true))], L ++ G) := by
  have h0 : (0 : Int) ≤ m := by omega
  have h30 : (m : Int) ≤ 30 := by omega
  obtain ⟨fL, fLT⟩ := sl.rd false h30
  obtain ⟨fU, fUT⟩ := sh.rd true h30
  obtain ⟨l1, l2⟩ := rdQ_down m lo
  obtain ⟨u1, u2⟩ := rdQ_up m hi
  have again := fun (h : Hp) (gh : Glb h) (eh : ErrAt h o) => round_val fL fU (Rat.le_trans l1 (Rat.le_trans hle u1)) h0 h30 fLT fUT gh eh
  rw [rdQ_again, rdQ_again] at again
  have wv := fun (h : Hp) (gh : Glb h) => within_val sl.fits sh.fits fL fU l1 hle u1 gh
  have hu : Rat.divInt 1 (tenP m) = unitQ m := by unfold tenP unitQ; simp
  rw [hu] at l2 u2
  obtain ⟨x1, y1, e1, s1, c1⟩ := sub_unit sl.fits fL (unitQ_fits hm) l2
  obtain ⟨x2, y2, e2, s2, c2⟩ := sub_unit fU sh.fits (unitQ_fits hm) u2
  simp only [dI4] at again wv
  generalize rdQ false m lo = Lo at *
  generalize rdQ true m hi = Up at *
  obtain ⟨h11, eh11⟩ : ∃ h11 : Hp, h11 = .box 29 [.d (.s (txt Lo.num)), .d (.s (txt Lo.den)), .d (.s (txt Up.num)), .d (.s (txt Up.den))] :: G := ⟨_, rfl⟩
  obtain ⟨h13, eh13⟩ : ∃ h13 : Hp, h13 = .box 29 [.d (.s (txt Lo.num)), .d (.s (txt Lo.den)), .d (.s (txt Up.num)), .d (.s (txt Up.den))] :: h11 := ⟨_, rfl⟩
  obtain ⟨h15, eh15⟩ : ∃ h15 : Hp, h15 = .box 26 [.d (.s (txt (unitQ m).num)), .d (.s (txt (unitQ m).den))] :: h13 := ⟨_, rfl⟩
  obtain ⟨h17, eh17⟩ : ∃ h17 : Hp, h17 = .box 26 [.d (.s x1), .d (.s y1)] :: h15 := ⟨_, rfl⟩
  obtain ⟨h19, eh19⟩ : ∃ h19 : Hp, h19 = .box 26 [.d (.s x2), .d (.s y2)] :: h17 := ⟨_, rfl⟩
  have gl11 : Glb h11 := by rw [eh11]; exact g.cons _
  have gl13 : Glb h13 := by rw [eh13]; exact gl11.cons _
  have gl15 : Glb h15 := by rw [eh15]; exact gl13.cons _
  have gl17 : Glb h17 := by rw [eh17]; exact gl15.cons _
  have gl19 : Glb h19 := by rw [eh19]; exact gl17.cons _
  have er11 : ErrAt h11 o := by rw [eh11]; exact e.cons _
  have li := hget_lt' g10
  have n11 : h11.length = G.length + 1 := by rw [eh11]; rfl
  have n13 : h13.length = G.length + 1 + 1 := by rw [eh13]; simp [n11]
  have n15 : h15.length = G.length + 1 + 1 + 1 := by rw [eh15]; simp [n13]
  have n17 : h17.length = G.length + 1 + 1 + 1 + 1 := by rw [eh17]; simp [n15]
  have up : ∀ {h h' : Hp} {x : Ob} {i : Nat} {y : Ob}, h' = x :: h → hget h i = some y → hget h' i = some y := fun {h h' x i y} hh hg => by
    have := hget_lt' hg
    rw [hh]; unfold hget; rw [if_neg (by omega)]; exact hg
  have top : ∀ {h h' : Hp} {x : Ob}, h' = x :: h → hget h' h.length = some x := fun {h h' x} hh => by rw [hh]; unfold hget; rw [if_pos rfl]
  have a10 := up eh11 g10
  have a11 := top eh11
  have b10 := up eh13 a10
  have b11 := up eh13 a11
  have b13 := top eh13
  have c10 := up eh15 b10
  have c11 := up eh15 b11
  have c15 := top eh15
  have d10 := up eh17 c10
  have d11 := up eh17 c11
  have d15 := up eh17 c15
  have d17 := top eh17
  have e15 := up eh19 d15
  have e17 := up eh19 d17
  have e19 := top eh19
  have q8 := rounds_r8 a11 (again h11 gl11 er11) (.d (.b true)) (.p i10 0) (.d (.i .i64 0))
  rw [← eh13] at q8
  have q9 := rounds_r9 b10 b11 b13 (wv h13 gl13) (.d (.i .i64 m)) (.d (.b true))
  have rt := ratio_q 1 1 1 (by unfold I64; omega) (by unfold I64; omega) (by omega) (by decide +kernel) h13
  have q10 := rounds_r10 rt (.d (.i .i64 m)) (.d (.b true)) (.p i10 0) (.p G.length 0) (.d (.b false))
  have q11 := rounds_r11 gl13 hm (.d (.b true)) (.p i10 0) (.p G.length 0)
  rw [unitQ_zero, ← eh15] at q11
  have q12 := rounds_r12 c10 c11 (s1 h15 gl15) (.d (.i .i64 m)) (.d (.b true)) (.p h13.length 0) (.d (.i .i64 m)) (.d (.b false))
  rw [← eh17] at q12
  have q13 := rounds_r13 d10 d11 (s2 h17 gl17) (.d (.b true)) (.p h13.length 0) (.p h15.length 0) (.d (.i .i64 e1))
  rw [← eh19] at q13
  have q14 := rounds_r14 e15 e17 e19 (fun h => c1 h h19 gl19) (fun h => c2 h h19 gl19)
  refine ⟨[.box 26 [.d (.s x2), .d (.s y2)], .box 26 [.d (.s x1), .d (.s y1)], .box 26 [.d (.s (txt (unitQ m).num)), .d (.s (txt (unitQ m).den))], .box 29 [.d (.s (txt Lo.num)), .d (.s (txt Lo.den)), .d (.s (txt Up.num)), .d (.s (txt Up.den))], .box 29 [.d (.s (txt Lo.num)), .d (.s (txt Lo.den)), .d (.s (txt Up.num)), .d (.s (txt Up.den))]], ?_⟩
  have hlast : ([.box 26 [.d (.s x2), .d (.s y2)], .box 26 [.d (.s x1), .d (.s y1)], .box 26 [.d (.s (txt (unitQ m).num)), .d (.s (txt (unitQ m).den))], .box 29 [.d (.s (txt Lo.num)), .d (.s (txt Lo.den)), .d (.s (txt Up.num)), .d (.s (txt Up.den))], .box 29 [.d (.s (txt Lo.num)), .d (.s (txt Lo.den)), .d (.s (txt Up.num)), .d (.s (txt Up.den))]] ++ G : Hp) = h19 := by rw [eh19, eh17, eh15, eh13, eh11]; rfl
  rw [hlast, ← eh11]
  unfold roundsT
  rw [evI_seq, q8]
  simp only [thenR]
  rw [evI_seq, q9]
  simp only [thenR]
  rw [evI_seq, q10]
  simp only [thenR]
  rw [evI_seq, q11]
  simp only [thenR]
  rw [evI_seq, q12]
  simp only [thenR]
  rw [evI_seq, q13]
  simp only [thenR]
  rw [evI_seq, q14]
  simp only [thenR]
  rw [evI_ret]
theorem Rounds_ok (x0 x1 x2 x3 y0 y1 y2 y3 n : Int) (hx0 : I64 x0) (hx1 : I64 x1) (hx2 : I64 x2) (hx3 : I64 x3) (hy0 : I64 y0) (hy1 : I64 y1) (hy2 : I64 y2) (hy3 : I64 y3) (hn : I64 n) {H : Hp} {o : EO} (hG : Glb H) (hE : ErrAt H o) :
    callV cS false (fnV 3) [.d (.agg [.i .i64 x0, .i .i64 x1, .i .i64 x2, .i .i64 x3]), .d (.agg [.i .i64 y0, .i .i64 y1, .i .i64 y2, .i .i64 y3]), .d (.i .i64 n)] H = some (.val (.d (.b true)), H) := by
  rw [callV_fn (sf := c3) rfl rfl rfl rfl]
  have hb : b3 = .seq (nthC 0 b3) (.seq (nthC 1 b3) (.seq (nthC 2 b3) (.seq (nthC 3 b3) (.seq (nthC 4 b3) (.seq (nthC 5 b3) (.seq (nthC 6 b3) (.seq (nthC 7 b3) roundsT))))))) := rfl
  obtain ⟨p, sp, lp⟩ := Long_ok x0 x1 x2 x3 hx0 hx1 hx2 hx3
  obtain ⟨q, sq, lq⟩ := Long_ok y0 y1 y2 y3 hy0 hy1 hy2 hy3
  obtain ⟨k0, k1⟩ := pickI_range n (show (0 : Int) < 31 by omega)
  obtain ⟨m, hm⟩ : ∃ m : Nat, pickI n 31 = m := ⟨(pickI n 31).toNat, by omega⟩
  have hm30 : m ≤ 30 := by omega
  have h30 : (m : Int) ≤ 30 := by omega
  have h0 : (0 : Int) ≤ m := by omega
  obtain ⟨hA, ehA⟩ : ∃ hA : Hp, hA = .box 22 [.d (.i .i64 y0), .d (.i .i64 y1), .d (.i .i64 y2), .d (.i .i64 y3)] :: .box 22 [.d (.i .i64 x0), .d (.i .i64 x1), .d (.i .i64 x2), .d (.i .i64 x3)] :: H := ⟨_, rfl⟩
  obtain ⟨h8, eh8⟩ : ∃ h8 : Hp, h8 = .box 26 [.d (.s (txt p.num)), .d (.s (txt p.den))] :: hA := ⟨_, rfl⟩
  obtain ⟨h9, eh9⟩ : ∃ h9 : Hp, h9 = .box 26 [.d (.s (txt q.num)), .d (.s (txt q.den))] :: h8 := ⟨_, rfl⟩
  have glA : Glb hA := by rw [ehA]; exact (hG.cons _).cons _
  have gl8 : Glb h8 := by rw [eh8]; exact glA.cons _
  have gl9 : Glb h9 := by rw [eh9]; exact gl8.cons _
  have erA : ErrAt hA o := by rw [ehA]; exact (hE.cons _).cons _
  have er8 : ErrAt h8 o := by rw [eh8]; exact erA.cons _
  have er9 : ErrAt h9 o := by rw [eh9]; exact er8.cons _
  have up : ∀ {h h' : Hp} {x : Ob} {i : Nat} {y : Ob}, h' = x :: h → hget h i = some y → hget h' i = some y := fun {h h' x i y} hh hg => by
    have := hget_lt' hg
    rw [hh]; unfold hget; rw [if_neg (by omega)]; exact hg
  have top : ∀ {h h' : Hp} {x : Ob}, h' = x :: h → hget h' h.length = some x := fun {h h' x} hh => by rw [hh]; unfold hget; rw [if_pos rfl]
  have a3 : hget hA H.length = some (.box 22 [.d (.i .i64 x0), .d (.i .i64 x1), .d (.i .i64 x2), .d (.i .i64 x3)]) := by rw [ehA]; simp [put, eset, eget, D.cells, V.cells, allD, hget, hset, fz, List.zipIdx_cons, List.zipIdx_nil]
  have a4 : hget hA (H.length + 1) = some (.box 22 [.d (.i .i64 y0), .d (.i .i64 y1), .d (.i .i64 y2), .d (.i .i64 y3)]) := by rw [ehA]; simp [put, eset, eget, D.cells, V.cells, allD, hget, hset, fz, List.zipIdx_cons, List.zipIdx_nil]
  have a4' := up eh8 a4
  have a8 := up eh9 (top eh8)
  have a9 := top eh9
  have q0 := rounds_r0 H x0 x1 x2 x3 y0 y1 y2 y3 n
  rw [← ehA] at q0
  have q1 := rounds_r1 glA erA (.d (.i .i64 n)) (.p H.length 0) (.p (H.length + 1) 0)
  have q2 := rounds_r2 (H := hA) n hn (.p H.length 0) (.p (H.length + 1) 0) (.d (.b true))
  rw [hm] at q2
  simp only [dR] at lp lq
  have q3 := rounds_r3 a3 lp (.d (.i .i64 m)) (.p (H.length + 1) 0) (.d (.b true))
  rw [← eh8] at q3
  have q4 := rounds_r4 a4' lq (.d (.i .i64 m)) (.d (.b true)) (.p hA.length 0)
  rw [← eh9] at q4
  have q5 := rounds_r5 a8 a9 (.d (.i .i64 m)) (.d (.b true))
  have cv := fun (h : Hp) (g : Glb h) => compare_val sp.fits sq.fits g
  -- the last step
  have fin2 : ∀ (L : Hp) (G : Hp), (∃ L0, G = L0 ++ H) → evI cS b3 none (enter [.d (.agg [.i .i64 x0, .i .i64 x1, .i .i64 x2, .i .i64 x3]), .d (.agg [.i .i64 y0, .i .i64 y1, .i .i64 y2, .i .i64 y3]), .d (.i .i64 n)]) H = some (.rt, [(6, .d (.b true))], L ++ G) →
      (match outOf c3.res (evI cS c3.body none (enter (([] : List D).map .d ++ [.d (.agg [.i .i64 x0, .i .i64 x1, .i .i64 x2, .i .i64 x3]), .d (.agg [.i .i64 y0, .i .i64 y1, .i .i64 y2, .i .i64 y3]), .d (.i .i64 n)] ++ ([] : List D).map .d)) H) with
        | some r => fin false H r
        | none => none) = some (.val (.d (.b true)), H) := by
    rintro L G ⟨L0, rfl⟩ hev
    have hbd : c3.body = b3 := rfl
    simp only [List.map_nil, List.nil_append, List.append_nil, hbd, hev]
    have := fin_app (L ++ L0) H (.b true)
    rw [List.append_assoc] at this
    simp only [c3, outOf, resAll, resOf, resV, eget, mkTup]
    simpa using this
  have pre : ∀ r, evI cS (.seq (nthC 6 b3) (.seq (nthC 7 b3) roundsT)) none [(2, .d (.i .i64 m)), (7, .d (.b true)), (8, .p hA.length 0), (9, .p h8.length 0), (10, .p h9.length 0)] (.box 29 [.d (.s (txt p.num)), .d (.s (txt p.den)), .d (.s (txt q.num)), .d (.s (txt q.den))] :: h9) = r →
      evI cS b3 none (enter [.d (.agg [.i .i64 x0, .i .i64 x1, .i .i64 x2, .i .i64 x3]), .d (.agg [.i .i64 y0, .i .i64 y1, .i .i64 y2, .i .i64 y3]), .d (.i .i64 n)]) H = r := by
    intro r hr
    have hen : enter [.d (.agg [.i .i64 x0, .i .i64 x1, .i .i64 x2, .i .i64 x3]), .d (.agg [.i .i64 y0, .i .i64 y1, .i .i64 y2, .i .i64 y3]), .d (.i .i64 n)] = [(0, .d (.agg [.i .i64 x0, .i .i64 x1, .i .i64 x2, .i .i64 x3])), (1, .d (.agg [.i .i64 y0, .i .i64 y1, .i .i64 y2, .i .i64 y3])), (2, .d (.i .i64 n))] := rfl
    rw [hen, hb, evI_seq, q0]
    simp only [thenR]
    rw [evI_seq, q1]
    simp only [thenR]
    rw [evI_seq, q2]
    simp only [thenR]
    rw [evI_seq, q3]
    simp only [thenR]
    rw [evI_seq, q4]
    simp only [thenR]
    rw [evI_seq, q5]
    simp only [thenR]
    exact hr
  have h9app : ∃ L0, h9 = L0 ++ H := ⟨[_, _, _, _], by rw [eh9, eh8, ehA]; rfl⟩
  by_cases hc : q < p
  · have q6 := rounds_r6a a8 a9 (cmpQ_gt.2 hc) (cv _ (gl9.cons _)) (.d (.i .i64 m)) (.d (.b true))
    obtain ⟨h10, eh10⟩ : ∃ h10 : Hp, h10 = .box 29 [.d (.s (txt q.num)), .d (.s (txt q.den)), .d (.s (txt p.num)), .d (.s (txt p.den))] :: h9 := ⟨_, rfl⟩
    rw [← eh10] at q6
    have gl10 : Glb h10 := by rw [eh10]; exact gl9.cons _
    have er10 : ErrAt h10 o := by rw [eh10]; exact er9.cons _
    have a10 := top eh10
    have rv := round_val sq.fits sp.fits (Rat.le_of_lt hc) h0 h30 (sq.fitT h30) (sp.fitT h30) gl10 er10
    simp only [dI4] at rv
    have q7 := rounds_r7 a10 rv (.d (.b true))
    obtain ⟨L, tl⟩ := rounds_tail sq sp (Rat.le_of_lt hc) hm30 gl10 er10 a10
    refine fin2 L h10 ?_ (pre _ ?_)
    · obtain ⟨L0, e0⟩ := h9app
      exact ⟨_ :: L0, by rw [eh10, e0]; rfl⟩
    · rw [evI_seq, q6]
      simp only [thenR]
      rw [evI_seq, q7]
      simp only [thenR]
      exact tl
  · have hpq : p ≤ q := Rat.not_lt.1 hc
    have q6 := rounds_r6b a8 a9 (fun h => hc (cmpQ_gt.1 h)) (cv _ (gl9.cons _)) (.d (.i .i64 m)) (.d (.b true))
    obtain ⟨h10, eh10⟩ : ∃ h10 : Hp, h10 = .box 29 [.d (.s (txt p.num)), .d (.s (txt p.den)), .d (.s (txt q.num)), .d (.s (txt q.den))] :: h9 := ⟨_, rfl⟩
    rw [← eh10] at q6 pre
    have gl10 : Glb h10 := by rw [eh10]; exact gl9.cons _
    have er10 : ErrAt h10 o := by rw [eh10]; exact er9.cons _
    have a10 := top eh10
    have rv := round_val sp.fits sq.fits hpq h0 h30 (sp.fitT h30) (sq.fitT h30) gl10 er10
    simp only [dI4] at rv
    have q7 := rounds_r7b a10 rv (.d (.b true)) (.p hA.length 0) (.p h8.length 0) (.d (.b false))
    obtain ⟨L, tl⟩ := rounds_tail sp sq hpq hm30 gl10 er10 a10
    refine fin2 L h10 ?_ (pre _ ?_)
    · obtain ⟨L0, e0⟩ := h9app
      exact ⟨_ :: L0, by rw [eh10, e0]; rfl⟩
    · rw [evI_seq, q6]
      simp only [thenR]
      rw [evI_seq, q7]
      simp only [thenR]
      exact tl
end Go.Proofs.YtmiioebapckcoaaGreatDoor
end
section
/- A call of the small semantics is a call of the model, from a world that holds the variables the code reads. -/
namespace Go.Proofs.YtmiioebapckcoaaGreatDoor
open Go Num
set_option maxRecDepth 4000

/-- what a call leaves: all that was there -/
def Kept (W W' : World) : Prop := W'.os = W.os ∧ W'.output = W.output ∧ W.heap.size ≤ W'.heap.size ∧ ∀ b, b < W.heap.size → W'.heap[b]? = W.heap[b]?
theorem Kept.but {W W' : World} (h : Kept W W') (may : MemPlace → Prop) : W.keptBut W' may := by
  refine ⟨h.1, h.2.1, fun i hi => ?_⟩
  rw [h.2.2.2 i hi]
  cases W.heap[i]? with
  | none => rfl
  | some o => cases o <;> simp
theorem Kept.frozen {W W' : World} (h : Kept W W') (a : Addr) (ha : a.block < W.heap.size) : W'.frozen? a = W.frozen? a := by
  unfold World.frozen?
  rw [h.2.2.2 _ ha]

theorem hget_rev : ∀ (H : Hp) (o : Nat), hget H o = H.reverse[o]?
  | [], o => by simp [hget]
  | x :: H, o => by
    unfold hget
    rw [List.reverse_cons, List.getElem?_append]
    split
    · rename_i h; subst h; simp
    · rename_i h
      rw [hget_rev H o]
      split
      · rfl
      · rename_i h2
        have h3 : H.length < o := by simp at h2; omega
        rw [List.getElem?_eq_none (by simp <;> omega), List.getElem?_eq_none (by simp <;> omega)]
/-- the heap at the start: the variables that the code reads, and the object that the sentinel names -/
def glN : Nat := 9
def glOb (i n : Nat) : Ob := if n = 0 then .ro [eV (glN, i)] else if n = 4 then .ro pow10V else .nop
def H0 (i : Nat) : Hp := .nop :: ((List.range glN).map (glOb i)).reverse
theorem H0_len (i : Nat) : (H0 i).length = glN + 1 := by simp [H0]
theorem H0_get (i o : Nat) : hget (H0 i) o = if o < glN then some (glOb i o) else if o = glN then some .nop else none := by
  rw [hget_rev, H0, List.reverse_cons, List.reverse_reverse, List.getElem?_append]
  simp only [List.length_map, List.length_range]
  split
  · rename_i h; simp [h]
  · rename_i h
    by_cases h2 : o = glN
    · subst h2; simp
    · rw [List.getElem?_eq_none (by simp <;> omega), if_neg h2]
theorem H0_err (i : Nat) : ErrAt (H0 i) (glN, i) := ⟨by rw [H0_get]; rfl, by rw [H0_len]; exact Nat.lt_succ_self _⟩
theorem H0_glb (i : Nat) : Glb (H0 i) := by unfold Glb; rw [H0_get]; rfl
theorem H0_gr (i o : Nat) : ¬ isGr (H0 i) o := by
  unfold isGr
  rw [H0_get]
  by_cases h1 : o < glN
  · rw [if_pos h1]
    unfold glOb
    by_cases h2 : o = 0
    · rw [if_pos h2]; exact fun h => h
    · rw [if_neg h2]
      by_cases h3 : o = 4
      · rw [if_pos h3]; exact fun h => h
      · rw [if_neg h3]; exact fun h => h
  · rw [if_neg h1]
    by_cases h2 : o = glN
    · rw [if_pos h2]; exact fun h => h
    · rw [if_neg h2]; exact fun h => h
theorem H0_own (i o : Nat) : ¬ ownedO (H0 i) o := by
  unfold ownedO
  rw [H0_get]
  by_cases h1 : o < glN
  · rw [if_pos h1]
    unfold glOb
    by_cases h2 : o = 0
    · rw [if_pos h2]; exact fun h => h
    · rw [if_neg h2]
      by_cases h3 : o = 4
      · rw [if_pos h3]; exact fun h => h
      · rw [if_neg h3]; exact fun h => h
  · rw [if_neg h1]
    by_cases h2 : o = glN
    · rw [if_pos h2]; exact fun h => h
    · rw [if_neg h2]; exact fun h => h
def mu0 (b : Nat) (n : Nat) : Option Nat := if n < glN then some n else some b
noncomputable def X0 : Cx := ⟨fun _ => False, Tryz.prog⟩
theorem own0 (i b c : Nat) : ¬ Own X0 (mu0 b) (H0 i) c := by
  rintro (h | ⟨o, h, _⟩)
  · exact h
  · exact H0_own i o h
/-- the world holds the two variables -/
structure Laid (b i : Nat) (W : World) : Prop where
  err : ∃ e z, W.heap[0]? = some (.cells #[.iface 227 (.pointer (some ⟨b, i, none⟩))] e z)
  tab : ∃ e z, W.heap[4]? = some (.cells (Lib.pow10Tab.map fun z => Value.int .u64 z).toArray e z)
theorem Laid.inv {b i : Nat} {W : World} (h : Laid b i W) : Inv X0 (mu0 b) (H0 i) W := by
  refine ⟨fun o ob ho => ?_, fun o _ _ _ h1 => absurd h1 (H0_own i o), fun o _ h1 => absurd h1 (H0_own i o), fun _ h => h.elim⟩
  rw [H0_get] at ho
  split at ho
  · rename_i hlt
    cases ho
    unfold glOb
    split
    · rename_i h1
      subst h1
      obtain ⟨e, z, he⟩ := h.err
      refine ⟨_, _, e, z, by simp [mu0, hlt], own0 i b _, he, rfl, fun j v hv => ?_⟩
      cases j with
      | zero =>
        cases hv
        exact .ifc _ _ _ (.p _ _ b (by rw [H0_len]; omega) (by simp [mu0]) (H0_gr _ _))
      | succ j => simp at hv
    · split
      · rename_i h1
        subst h1
        obtain ⟨e, z, he⟩ := h.tab
        refine ⟨_, _, e, z, by simp [mu0, hlt], own0 i b _, he, by simp [pow10V], fun j v hv => ?_⟩
        have hj : j < Lib.pow10Tab.length := by
          have := (List.getElem?_eq_some_iff.1 hv).1
          simpa [pow10V] using this
        have hv' : v = .d (.i .u64 Lib.pow10Tab[j]) := by
          simp [pow10V, hj] at hv; exact hv.symm
        subst hv'
        rw [Array.getD_eq_getD_getElem?]
        simp only [List.getElem?_toArray, List.getElem?_map, List.getElem?_eq_getElem hj, Option.map_some, Option.getD_some]
        exact .d _ _ (.i _ _)
      · trivial
  · split at ho
    · cases ho; trivial
    · cases ho
theorem gl0 (i b : Nat) : Gl Tryz.prog.globals.size (mu0 b) (H0 i) := by
  have hG : Tryz.prog.globals.size = glN := by kernel_rfl
  intro n hn
  rw [hG] at hn
  exact ⟨by rw [H0_len]; omega, by simp [mu0, hn], H0_gr i n⟩

theorem callV_run {f : FuncId} {args : List V} {H : Hp} {x : D} (h : callV cS false (fnV f) args H = some (.val (.d x), H)) : ∃ n v h', callN S n (.fn f) args H = some (.ret v, h') ∧ fz h' H.length 8 v = some x := by
  simp only [callV, List.map_nil, List.nil_append, List.append_nil] at h
  cases hc : cS (.fn f) args H with
  | none => rw [hc] at h; cases h
  | some r =>
    obtain ⟨o, h'⟩ := r
    obtain ⟨n, hn⟩ := (callI_some SX).1 hc
    rw [hc] at h
    cases o with
    | ret v =>
      simp only [fin, Bool.false_eq_true, if_false] at h
      split at h
      · rename_i y hy
        split at h
        · simp only [Option.some.injEq, Prod.mk.injEq, Re.val.injEq, V.d.injEq] at h
          exact ⟨n, v, h', hn, by rw [hy, h.1]⟩
        · cases h
      · cases h
    | pan v =>
      simp only [fin] at h
      split at h
      · simp at h
      · cases h
theorem calls_of {f : FuncId} {args : List V} {x : D} {b i : Nat} {W : World} {cargs : Array Value} (hL : Laid b i W) (h : callV cS false (fnV f) args (H0 i) = some (.val (.d x), H0 i)) (hv : HVs (Own X0 (mu0 b) (H0 i)) (mu0 b) (H0 i) (H0 i).length W args cargs) :
    Calls Tryz.prog f cargs W fun e W' => ∃ c O, e = .returned c ∧ HD O W' x c ∧ Kept W W' := by
  obtain ⟨n, v, h', hn, hf⟩ := callV_run h
  have hmix : Tryz.prog.follows .mixedOrders = true := by kernel_rfl
  refine ((callN_ok SOkS hmix n).fn f args (H0 i) _ hn X0 (mu0 b) W cargs rfl hL.inv (gl0 i b) hv).mono fun e W' he => ?_
  obtain ⟨c, hc, μ', hi, hx, hvc⟩ := he
  refine ⟨c, _, hc, fz_ok hi 8 hf hvc, hx.os, hx.output, hx.size, fun b' hb => hx.blk b' hb (own0 i b b')⟩
end Go.Proofs.YtmiioebapckcoaaGreatDoor
end
section
/- Arguments without memory: what a row's reading of them says, and how it is paid at the end. -/
namespace Go.Proofs.YtmiioebapckcoaaGreatDoor
open Go Num
set_option maxRecDepth 4000

/-- a type without pointers -/
def flatT (P : Program) : Nat → TypeId → Bool
  | 0, _ => false
  | n + 1, t => match P.underlying t with
    | some .bool => true
    | some (.int _) => true
    | some .string => true
    | some (.struct fs) => fs.toList.all fun f => flatT P n f.type
    | some (.array _ e) => flatT P n e
    | _ => false
theorem mapM_flat {α β : Type} {f g : α → Option β} {Q : β → Prop} : ∀ {l : List α} {r : List β}, (∀ a ∈ l, ∀ b, f a = some b → g a = some b ∧ Q b) → l.mapM f = some r → l.mapM g = some r ∧ ∀ b ∈ r, Q b
  | [], r, _, h => by
    simp at h; subst h; simp
  | a :: l, r, hq, h => by
    rw [List.mapM_cons] at h ⊢
    simp only [bind, Option.bind_eq_some_iff, pure, Option.some.injEq] at h
    obtain ⟨b, hb, bs, hbs, rfl⟩ := h
    obtain ⟨h1, h2⟩ := hq a (by simp) b hb
    obtain ⟨h3, h4⟩ := mapM_flat (fun a ha b hb => hq a (by simp [ha]) b hb) hbs
    refine ⟨by simp [h1, h3], ?_⟩
    intro x hx
    rcases List.mem_cons.1 hx with rfl | hx
    · exact h2
    · exact h4 x hx
theorem flatMap_nil {α β : Type} {l : List (α × List β)} (h : ∀ x ∈ l, x.2 = []) : l.flatMap (·.2) = [] := by
  rw [List.flatMap_eq_nil_iff]; exact h
theorem trod_flat {H : Type} {enc : TypeId × Value → H} {P : Program} {w w' : World} {base base' : Nat} {sp sp' : Nat → Bool} {held held' : Bool} : ∀ (fuel n : Nat) (t : TypeId) (cs : List Value) (d : DataW H) (ps : List MemPlace),
    flatT P n t = true → DataW.trod enc P w base sp held fuel t cs = some (d, ps) → DataW.trod enc P w' base' sp' held' fuel t cs = some (d, ps) ∧ ps = [] := by
  intro fuel
  induction fuel with
  | zero => intro n t cs d ps _ h; simp [DataW.trod] at h
  | succ fuel ih =>
    intro n t cs d ps hf h
    cases n with
    | zero => simp [flatT] at hf
    | succ n =>
      unfold flatT at hf
      split at hf
      · rename_i hu
        obtain ⟨b, rfl, hx⟩ := DataW.trod_bool hu h
        cases hx
        exact ⟨by simp [DataW.trod, hu], rfl⟩
      · rename_i k hu
        obtain ⟨b, rfl, hx, hw⟩ := DataW.trod_int hu h
        cases hx
        exact ⟨by simp [DataW.trod, hu, hw], rfl⟩
      · rename_i hu
        simp only [DataW.trod, hu] at h ⊢
        split at h <;> first | (simp_all; done) | (split at h <;> simp_all)
      · rename_i fs hu
        simp only [DataW.trod, hu] at h ⊢
        split at h
        · rename_i hl
          rw [if_pos hl]
          obtain ⟨xs, hm, hx⟩ := Option.map_eq_some_iff.1 h
          obtain ⟨h1, h2⟩ := mapM_flat (g := fun f : Field => DataW.trod enc P w' base' sp' held' fuel f.type ((cs.drop f.offset).take (P.cellsOf f.type))) (Q := fun x => x.2 = []) (fun f hfm x hx => ih n f.type _ x.1 x.2 (List.all_eq_true.1 hf f hfm) hx) hm
          rw [h1]
          cases hx
          exact ⟨rfl, flatMap_nil h2⟩
        · cases h
      · rename_i m e hu
        simp only [DataW.trod, hu] at h ⊢
        split at h
        · rename_i hl
          rw [if_pos hl]
          obtain ⟨xs, hm, hx⟩ := Option.map_eq_some_iff.1 h
          obtain ⟨h1, h2⟩ := mapM_flat (g := fun i : Nat => DataW.trod enc P w' base' sp' held' fuel e ((cs.drop (i * P.cellsOf e)).take (P.cellsOf e))) (Q := fun x => x.2 = []) (fun i _ x hx => ih n e _ x.1 x.2 hf hx) hm
          rw [h1]
          cases hx
          exact ⟨rfl, flatMap_nil h2⟩
        · cases h
      · cases hf
theorem trodAll_flat {H : Type} {enc : TypeId × Value → H} {P : Program} {w w' : World} {base base' : Nat} {sp sp' : Nat → Bool} {held held' : Bool} (n : Nat) : ∀ (ts : List TypeId) (vs : List Value) (ds : List (DataW H)) (ps : List MemPlace),
    ts.all (flatT P n) = true → DataW.TrodAll enc P w base sp held ts vs ds ps → DataW.TrodAll enc P w' base' sp' held' ts vs ds [] ∧ ps = []
  | [], [], [], ps, _, h => ⟨rfl, h⟩
  | t :: ts, v :: vs, d :: ds, ps, hf, h => by
    obtain ⟨p, q, ⟨fuel, h1⟩, h2, rfl⟩ := h
    simp only [List.all_cons, Bool.and_eq_true] at hf
    obtain ⟨h3, rfl⟩ := trod_flat (w' := w') (base' := base') (sp' := sp') (held' := held') fuel n t _ d p hf.1 h1
    obtain ⟨h4, rfl⟩ := trodAll_flat (w' := w') (base' := base') (sp' := sp') (held' := held') n ts vs ds q hf.2 h2
    exact ⟨⟨[], [], ⟨fuel, h3⟩, h4, rfl⟩, rfl⟩
  | [], [], _ :: _, _, _, h => h.elim
  | [], _ :: _, _, _, _, h => h.elim
  | _ :: _, [], _, _, _, h => h.elim
  | _ :: _, _ :: _, [], _, _, h => h.elim

/-- The end of a law's row: the answer is true, and nothing has changed. -/
theorem post_true {H : Type} {enc : TypeId × Value → H} {P : Program} {f : Func} {s : ChangeSpec} {apart fresh handsOn again : Bool} {W W' : World} {args : Array Value} {ds gs : List (DataW H)} {before : List MemPlace} {n : Nat} {t : TypeId}
    (hW : DataW.Whole enc P f.params.toList s.vars apart W args.toList ds gs before) (hp : f.params.toList.all (flatT P n) = true) (hvars : s.vars = []) (hr : f.resultTypes = #[t]) (ht : P.underlying t = some .bool)
    (hs : (s.fn H (ds ++ gs)).results = [.lit (.bool true)] ∧ (s.fn H (ds ++ gs)).args = ds ++ gs ∧ (s.fn H (ds ++ gs)).vars = []) (hK : Kept W W') :
    s.post enc P f apart fresh handsOn again W args (.bool true) W' := by
  have hW0 := hW
  obtain ⟨p, q, h1, h2, rfl, hz, hn⟩ := hW
  rw [hvars] at h2
  obtain ⟨hall, rfl⟩ := trodAll_flat (w' := W') (base' := 0) (sp' := fun _ => true) (held' := true) n _ _ _ _ hp h1
  have hall2 := fun sp => (trodAll_flat (w' := W') (base' := 0) (sp' := sp) (held' := true) n _ _ _ _ hp h1).1
  cases gs with
  | cons g gs => exact h2.elim
  | nil =>
    have hq : q = [] := h2
    subst hq
    obtain ⟨s1, s2, s3⟩ := hs
    have hbool : ∀ (b : Nat) (sp : Nat → Bool) (hd : Bool), DataW.TrodAll enc P W' b sp hd [t] [.bool true] [.lit (.bool true)] [] := fun b sp hd => ⟨[], [], RowKit.shut_bool ht true, rfl, rfl⟩
    have hres : ∀ (b : Nat) (sp : Nat → Bool) (hd : Bool), DataW.TrodAll enc P W' b sp hd f.resultTypes.toList ((Value.bool true).resultList f.resultTypes.size) (s.fn H (ds ++ [])).results [] := by
      intro b sp hd
      rw [hr, s1]
      exact hbool b sp hd
    refine ⟨ds, [], _, [], [], [], hW0, hres _ _ _, ?_, ?_, hK.but _, fun _ => ⟨?_, [.lit (.bool true)] ++ ds, [], [], ?_, ?_⟩⟩
    · rw [s2, List.append_nil]; exact hall2 _
    · rw [hvars, s3]; exact rfl
    · intro j u r hj hv
      rw [hr] at hj hv
      cases j with
      | zero =>
        cases hj
        have hv' : r = .bool true := by simp [Value.resultList] at hv; exact hv.symm
        subst hv'
        exact RowKit.okWide_bool_mk ht true
      | succ j => simp at hj
    · refine ⟨[], [], ?_, by rw [hvars]; exact rfl, rfl, fun b off hp => by simp at hp, fun _ => by simp⟩
      rw [hr]
      refine ⟨[], [], RowKit.shut_bool ht true, hall, rfl⟩
    · intro p hp; simp at hp
/-- an array of integers -/
theorem trod_ints {H : Type} {enc : TypeId × Value → H} {P : Program} {w : World} {base : Nat} {sp : Nat → Bool} {held : Bool} {fuel : Nat} {t e : TypeId} {n : Nat} {k : IntKind} {cs : List Value} {d : DataW H} {p : List MemPlace}
    (ht : P.underlying t = some (.array n e)) (he : P.underlying e = some (.int k)) (hce : P.cellsOf e = 1) (hct : P.cellsOf t = n)
    (h : DataW.trod enc P w base sp held fuel t cs = some (d, p)) : ∃ zs : List Int, zs.length = n ∧ cs = zs.map (Value.int k) ∧ ∀ z ∈ zs, (Lit.int k z).wf = true := by
  cases fuel with
  | zero => simp [DataW.trod] at h
  | succ fuel =>
    simp only [DataW.trod, ht, hce, hct, Nat.mul_one] at h
    split at h
    · rename_i hl
      obtain ⟨xs, hm, hx⟩ := Option.map_eq_some_iff.1 h
      have hxl : xs.length = n := by simpa using Lib.mapM_length hm
      have hg : ∀ i, i < n → ∃ z, cs[i]? = some (Value.int k z) ∧ (Lit.int k z).wf = true := by
        intro i hi
        obtain ⟨b, hb, hf⟩ := Lib.mapM_at hm i i (by simp [hi])
        obtain ⟨z, hc, _, hw⟩ := DataW.trod_int he hf
        refine ⟨z, ?_, hw⟩
        have := congrArg (·[0]?) hc
        simpa [List.getElem?_take, List.getElem?_drop] using this
      refine ⟨cs.map fun c => match c with | .int _ z => z | _ => 0, by simp [hl], ?_, ?_⟩
      · apply List.ext_getElem?
        intro i
        by_cases hi : i < n
        · obtain ⟨z, h1, _⟩ := hg i hi
          simp [h1]
        · rw [List.getElem?_eq_none (by omega), List.getElem?_eq_none (by simp <;> omega)]
      · intro z hz
        rw [List.mem_map] at hz
        obtain ⟨c, hc, rfl⟩ := hz
        obtain ⟨i, hi, rfl⟩ := List.mem_iff_getElem.1 hc
        obtain ⟨z, h1, h2⟩ := hg i (by omega)
        rw [List.getElem?_eq_getElem hi] at h1
        have e : cs[i] = Value.int k z := Option.some.inj h1
        simp only [e]; exact h2
    · cases h
theorem wf64 {n : Int} (h : (Lit.int .i64 n).wf = true) : I64 n := by
  simp only [Lit.wf, Bool.and_eq_true, decide_eq_true_eq] at h
  have h1 : IntKind.i64.min = -9223372036854775808 := by rfl
  have h2 : IntKind.i64.max = 9223372036854775807 := by rfl
  unfold I64
  omega
theorem arr_arg {H : Type} {enc : TypeId × Value → H} {P : Program} {W w : World} {r : Reach} {b0 base : Nat} {sp : Nat → Bool} {held : Bool} {t e : TypeId} {n : Nat} {v : Value} {d : DataW H} {ps : List MemPlace}
    (ht : P.underlying t = some (.array n e)) (he : P.underlying e = some (.int .i64)) (hce : P.cellsOf e = 1) (hct : P.cellsOf t = n)
    (hval : Value.okWide P W r b0 t v) (hd : DataW.Trod enc P w base sp held t v d ps) : ∃ zs : List Int, zs.length = n ∧ v = .agg (zs.map (Value.int .i64)).toArray ∧ ∀ z ∈ zs, I64 z := by
  simp only [Value.okWide, ht] at hval
  obtain ⟨cs, rfl, _, _⟩ := hval
  obtain ⟨fuel, hf⟩ := hd
  obtain ⟨zs, h1, h2, h3⟩ := trod_ints ht he hce hct hf
  refine ⟨zs, h1, ?_, fun z hz => wf64 (h3 z hz)⟩
  simp only [Value.cells] at h2
  rw [← h2]
theorem HD_arr {O : Bs} {w : World} (zs : List Int) : HD O w (.agg (zs.map (D.i .i64))) (.agg (zs.map (Value.int .i64)).toArray) := by
  refine .agg _ _ (by simp) fun j v hv => ?_
  rw [List.getElem?_map] at hv
  cases hz : zs[j]? with
  | none => rw [hz] at hv; cases hv
  | some z =>
    rw [hz] at hv
    cases hv
    rw [Array.getD_eq_getD_getElem?]
    simp only [List.getElem?_toArray, List.getElem?_map, hz, Option.map_some, Option.getD_some]
    exact .i _ _
end Go.Proofs.YtmiioebapckcoaaGreatDoor
end
section
/- From the row's listed variables to what the small semantics asks of the world; and the witness. -/
namespace Go.Proofs.YtmiioebapckcoaaGreatDoor
open Go Num
set_option maxRecDepth 4000

theorem LaidVars_at {P : Program} {w : World} : ∀ {l : List (String × DataW Unit)} {ps : List MemPlace}, DataW.LaidVars P w l ps → ∀ n d, (n, d) ∈ l →
    ∃ g t cs fuel p, P.globalNamed n = some g ∧ (P.globals[g]?).map (·.type) = some t ∧ w.var? P n = some cs ∧ DataW.trod (fun _ => ()) P w 0 (fun _ => true) false fuel t cs.toList = some (d, p) ∧ ∀ x ∈ MemPlace.row ⟨g, 0, none⟩ cs.size, x ∈ ps
  | [], _, _, _, _, hm => by cases hm
  | (n', d') :: r, ps, h, n, d, hm => by
    obtain ⟨g, t, cs, fuel, p, q, h1, h2, h3, h4, h5, h6⟩ := h
    rcases List.mem_cons.1 hm with e | e
    · cases e
      refine ⟨g, t, cs, fuel, p, h1, h2, h3, h4, fun x hx => ?_⟩
      rw [h6]; simp [hx]
    · obtain ⟨g', t', cs', fuel', p', k1, k2, k3, k4, k5⟩ := LaidVars_at h5 n d e
      refine ⟨g', t', cs', fuel', p', k1, k2, k3, k4, fun x hx => ?_⟩
      rw [h6]; simp [k5 x hx]
theorem var_heap {P : Program} {w : World} {n : String} {g : Nat} {cs : Array Value} (hg : P.globalNamed n = some g) (h : w.var? P n = some cs) : ∃ e z, w.heap[g]? = some (.cells cs e z) := by
  unfold World.var? at h
  rw [hg] at h
  simp only [Option.bind_some] at h
  split at h
  · rename_i c e z he; cases h; exact ⟨e, z, he⟩
  · cases h
theorem tab_cells {W : World} {fuel : Nat} {cs : List Value} {p : List MemPlace} {t : TypeId} (ht : (Tryz.prog.globals[4]?).map (·.type) = some t) (h : DataW.trod (fun _ => ()) Tryz.prog W 0 (fun _ => true) false fuel t cs = some (Rows.laid_internal_strconv_uint64pow10, p)) : cs = Lib.pow10Tab.map fun z => Value.int .u64 z := by
  have e : (Rows.laid_internal_strconv_uint64pow10 : DataW Unit) = Lib.tabData .u64 Lib.pow10Tab := by rfl
  rw [e] at h
  have e2 : (Tryz.prog.globals[4]?).map (·.type) = some 217 := by kernel_rfl
  rw [e2] at ht
  cases ht
  have e3 : Tryz.prog.underlying 217 = some (.array 20 180) := by kernel_rfl
  have e4 : Tryz.prog.underlying 180 = some (.int .u64) := by kernel_rfl
  exact Lib.cells_of_tab e3 e4 (by kernel_rfl) (by kernel_rfl) h
theorem sentinel_row (u : TypeId) (hu : Tryz.prog.typeName? 3 u = some "*errors.errorString") : u = 227 :=
  typeName_ptr_named (P := Tryz.prog) (nm := "errors.errorString") (tp := 227) (by kernel_rfl) (by kernel_rfl) (by decide) u hu
/-- what the row's list gives -/
theorem laid_of {W : World} {l : List (String × DataW Unit)} (hp : (l.all fun x => x.2.handleName?.isNone) = true) (hL : laidMetH Tryz.prog l W) (m1 : ("workpiece/enclosure.errFails", Rows.laid_workpiece_enclosure_errFails) ∈ l)
    (m2 : ("internal/strconv.uint64pow10", Rows.laid_internal_strconv_uint64pow10) ∈ l) : ∃ b i, Laid b i W := by
  rw [MakeChecks.laidMetH_plain _ _ _ hp] at hL
  obtain ⟨ps, hv, _, hc⟩ := hL
  obtain ⟨g1, t1, cs1, f1, p1, a1, a2, a3, a4, a5⟩ := LaidVars_at hv _ _ m1
  obtain ⟨g2, t2, cs2, f2, p2, b1, b2, b3, b4, b5⟩ := LaidVars_at hv _ _ m2
  have n1 : Tryz.prog.globalNamed "workpiece/enclosure.errFails" = some 0 := by kernel_rfl
  have n2 : Tryz.prog.globalNamed "internal/strconv.uint64pow10" = some 4 := by kernel_rfl
  rw [n1] at a1
  cases a1
  rw [n2] at b1
  cases b1
  obtain ⟨e1, z1, h1⟩ := var_heap n1 a3
  obtain ⟨e2, z2, h2⟩ := var_heap n2 b3
  have hcs2 : cs2 = (Lib.pow10Tab.map fun z => Value.int .u64 z).toArray := by
    have := tab_cells b2 b4
    rw [← this]
  have ty1 : (Tryz.prog.globals[0]?).map (·.type) = some 113 := by kernel_rfl
  rw [ty1] at a2
  cases a2
  obtain ⟨a, s, hcs1, ha, _, _, _⟩ := errorString_of_trod (P := Tryz.prog) (tp := 227) (te := 229) (ts := 9) Tryz.underlying113 sentinel_row Tryz.underlying227 Tryz.underlying229 rfl rfl Tryz.underlying9 (by kernel_rfl) (by kernel_rfl) a4 (fun u v huv => by
    have hx : MemPlace.cell 0 0 ∈ ps := a5 _ (by
      have hs : cs1.size = 1 := by
        have := congrArg List.length huv
        simpa using this
      simp [MemPlace.row, hs])
    refine (hc _ 0 hx).2 u v ?_
    unfold World.cell?
    rw [h1]
    have : cs1[0]? = some (.iface u v) := by
      have := congrArg (fun l => l[0]?) huv
      simpa using this
    simp [this])
  have hcs1' : cs1 = #[.iface 227 (.pointer (some a))] := by
    rw [← Array.toList_inj, hcs1]
  have hsp : a.spot = none := by
    unfold World.cell? at ha
    split at ha
    · split at ha
      · cases ha
      · rename_i hs; simpa using hs
    · cases ha
  refine ⟨a.block, a.off, ⟨⟨e1, z1, ?_⟩, ⟨e2, z2, by rw [h2, hcs2]⟩⟩⟩
  rw [h1, hcs1']
  obtain ⟨b, i, sp⟩ := a
  cases hsp
  rfl
end Go.Proofs.YtmiioebapckcoaaGreatDoor
end
