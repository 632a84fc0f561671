/- Part 15 of a proof: the small semantics, its soundness, the functions of the program in it, and the law. -/
import Derived.Test.YtmiioebapckcoaaGreatDoorJn
set_option linter.unusedVariables false
set_option linter.unusedSimpArgs false
set_option maxRecDepth 4000
namespace Go.Proofs.YtmiioebapckcoaaGreatDoor
section
open Go Num
def ivA:IV:=qV (-2) (3)
def ivB:IV:=qV (-5) (1)
def ivC:IV:=qV (-15) (10)
def ivD:IV:=qV (1) (2)
def ivE:IV:=qV (-1) (4)
def ivF:IV:=qV (2) (4)
def ivQ:IV:=qV (1/4) (1)
def ivS:IV:=qV (2) (3)
def ivR:IV:=qV (7/5) (9/5)
def ivM:IV:=qV (2) (5)
def ivN:IV:=qV (2) (2)
def ivO:IV:=qV (3) (5)
def ivT:IV:=qV (1/3) (2/3)
def ivU:IV:=qV (3/10) (7/10)
def ivV:IV:=qV (2) (1)
def ivP:IV:=qV (3) (3)
def ivW:List UInt8×List UInt8:=(txt (5:Rat).num,txt (5:Rat).den)
def ivZ:List UInt8×List UInt8:=(txt (0:Rat).num,txt (0:Rat).den)
theorem ratio_q (n d:Int) (q:Rat) (hn:I64 n) (hd:I64 d) (h0:d≠0) (hq:Rat.divInt n d=q) (h:Hp):callV cS false (fnV 16) [.d (.i .i64 n),.d (.i .i64 d)] h=some (.val (.d (.agg [.s (txt q.num),.s (txt q.den)])),h):=by
 rw[ratio_ok n d hn hd,ratioD,if_neg h0,hq];rfl
theorem span_q (n d:Int) (p q:Rat) (hn:I64 n) (hd:I64 d) (hp:Rat.divInt n 1=p) (hq:Rat.divInt d 1=q) (h:Hp):callV cS false (fnV 42) [.d (.i .i64 n),.d (.i .i64 d)] h=some (.val (.d (qV p q).D),h):=by
 rw[span_ok n d hn hd,hp,hq];rfl
theorem sp_A (h:Hp):callV cS false (fnV 42) [.d (.i .i64 (-2)),.d (.i .i64 (3))] h=some (.val (.d (.agg [.s ivA.a,.s ivA.b,.s ivA.c,.s ivA.d])),h):=span_q _ _ (-2) (3) (by unfold I64;omega) (by unfold I64;omega) (by decide +kernel) (by decide +kernel) h
theorem sp_B (h:Hp):callV cS false (fnV 42) [.d (.i .i64 (-5)),.d (.i .i64 (1))] h=some (.val (.d (.agg [.s ivB.a,.s ivB.b,.s ivB.c,.s ivB.d])),h):=span_q _ _ (-5) (1) (by unfold I64;omega) (by unfold I64;omega) (by decide +kernel) (by decide +kernel) h
theorem sp_D (h:Hp):callV cS false (fnV 42) [.d (.i .i64 (1)),.d (.i .i64 (2))] h=some (.val (.d (.agg [.s ivD.a,.s ivD.b,.s ivD.c,.s ivD.d])),h):=span_q _ _ (1) (2) (by unfold I64;omega) (by unfold I64;omega) (by decide +kernel) (by decide +kernel) h
theorem sp_E (h:Hp):callV cS false (fnV 42) [.d (.i .i64 (-1)),.d (.i .i64 (4))] h=some (.val (.d (.agg [.s ivE.a,.s ivE.b,.s ivE.c,.s ivE.d])),h):=span_q _ _ (-1) (4) (by unfold I64;omega) (by unfold I64;omega) (by decide +kernel) (by decide +kernel) h
theorem sp_F (h:Hp):callV cS false (fnV 42) [.d (.i .i64 (2)),.d (.i .i64 (4))] h=some (.val (.d (.agg [.s ivF.a,.s ivF.b,.s ivF.c,.s ivF.d])),h):=span_q _ _ (2) (4) (by unfold I64;omega) (by unfold I64;omega) (by decide +kernel) (by decide +kernel) h
theorem sp_S (h:Hp):callV cS false (fnV 42) [.d (.i .i64 (2)),.d (.i .i64 (3))] h=some (.val (.d (.agg [.s ivS.a,.s ivS.b,.s ivS.c,.s ivS.d])),h):=span_q _ _ (2) (3) (by unfold I64;omega) (by unfold I64;omega) (by decide +kernel) (by decide +kernel) h
theorem sp_M (h:Hp):callV cS false (fnV 42) [.d (.i .i64 (2)),.d (.i .i64 (5))] h=some (.val (.d (.agg [.s ivM.a,.s ivM.b,.s ivM.c,.s ivM.d])),h):=span_q _ _ (2) (5) (by unfold I64;omega) (by unfold I64;omega) (by decide +kernel) (by decide +kernel) h
theorem sp_O (h:Hp):callV cS false (fnV 42) [.d (.i .i64 (3)),.d (.i .i64 (5))] h=some (.val (.d (.agg [.s ivO.a,.s ivO.b,.s ivO.c,.s ivO.d])),h):=span_q _ _ (3) (5) (by unfold I64;omega) (by unfold I64;omega) (by decide +kernel) (by decide +kernel) h
theorem sp_C (h:Hp):callV cS false (fnV 42) [.d (.i .i64 (-15)),.d (.i .i64 (10))] h=some (.val (.d (.agg [.s ivC.a,.s ivC.b,.s ivC.c,.s ivC.d])),h):=span_q _ _ (-15) (10) (by unfold I64;omega) (by unfold I64;omega) (by decide +kernel) (by decide +kernel) h
theorem sp_N (h:Hp):callV cS false (fnV 42) [.d (.i .i64 (2)),.d (.i .i64 (2))] h=some (.val (.d (.agg [.s ivN.a,.s ivN.b,.s ivN.c,.s ivN.d])),h):=span_q _ _ (2) (2) (by unfold I64;omega) (by unfold I64;omega) (by decide +kernel) (by decide +kernel) h
theorem sp_V (h:Hp):callV cS false (fnV 42) [.d (.i .i64 (2)),.d (.i .i64 (1))] h=some (.val (.d (.agg [.s ivV.a,.s ivV.b,.s ivV.c,.s ivV.d])),h):=span_q _ _ (2) (1) (by unfold I64;omega) (by unfold I64;omega) (by decide +kernel) (by decide +kernel) h
theorem sp_P (h:Hp):callV cS false (fnV 42) [.d (.i .i64 (3)),.d (.i .i64 (3))] h=some (.val (.d (.agg [.s ivP.a,.s ivP.b,.s ivP.c,.s ivP.d])),h):=span_q _ _ (3) (3) (by unfold I64;omega) (by unfold I64;omega) (by decide +kernel) (by decide +kernel) h
theorem rt_1_3 (h:Hp):callV cS false (fnV 16) [.d (.i .i64 1),.d (.i .i64 3)] h=some (.val (.d (.agg [.s ivT.a,.s ivT.b])),h):=ratio_q 1 3 (1/3) (by unfold I64;omega) (by unfold I64;omega) (by decide +kernel) (by decide +kernel) h
theorem rt_2_3 (h:Hp):callV cS false (fnV 16) [.d (.i .i64 2),.d (.i .i64 3)] h=some (.val (.d (.agg [.s ivT.c,.s ivT.d])),h):=ratio_q 2 3 (2/3) (by unfold I64;omega) (by unfold I64;omega) (by decide +kernel) (by decide +kernel) h
theorem rt_1_4 (h:Hp):callV cS false (fnV 16) [.d (.i .i64 1),.d (.i .i64 4)] h=some (.val (.d (.agg [.s ivQ.a,.s ivQ.b])),h):=ratio_q 1 4 (1/4) (by unfold I64;omega) (by unfold I64;omega) (by decide +kernel) (by decide +kernel) h
theorem rt_1_1 (h:Hp):callV cS false (fnV 16) [.d (.i .i64 1),.d (.i .i64 1)] h=some (.val (.d (.agg [.s ivQ.c,.s ivQ.d])),h):=ratio_q 1 1 (1) (by unfold I64;omega) (by unfold I64;omega) (by decide +kernel) (by decide +kernel) h
theorem rt_7_5 (h:Hp):callV cS false (fnV 16) [.d (.i .i64 7),.d (.i .i64 5)] h=some (.val (.d (.agg [.s ivR.a,.s ivR.b])),h):=ratio_q 7 5 (7/5) (by unfold I64;omega) (by unfold I64;omega) (by decide +kernel) (by decide +kernel) h
theorem rt_9_5 (h:Hp):callV cS false (fnV 16) [.d (.i .i64 9),.d (.i .i64 5)] h=some (.val (.d (.agg [.s ivR.c,.s ivR.d])),h):=ratio_q 9 5 (9/5) (by unfold I64;omega) (by unfold I64;omega) (by decide +kernel) (by decide +kernel) h
theorem rt_3_10 (h:Hp):callV cS false (fnV 16) [.d (.i .i64 3),.d (.i .i64 10)] h=some (.val (.d (.agg [.s ivU.a,.s ivU.b])),h):=ratio_q 3 10 (3/10) (by unfold I64;omega) (by unfold I64;omega) (by decide +kernel) (by decide +kernel) h
theorem rt_7_10 (h:Hp):callV cS false (fnV 16) [.d (.i .i64 7),.d (.i .i64 10)] h=some (.val (.d (.agg [.s ivU.c,.s ivU.d])),h):=ratio_q 7 10 (7/10) (by unfold I64;omega) (by unfold I64;omega) (by decide +kernel) (by decide +kernel) h
theorem rt_3_1 (h:Hp):callV cS false (fnV 16) [.d (.i .i64 3),.d (.i .i64 1)] h=some (.val (.d (.agg [.s ivP.a,.s ivP.b])),h):=ratio_q 3 1 (3) (by unfold I64;omega) (by unfold I64;omega) (by decide +kernel) (by decide +kernel) h
theorem rt_5_1 (h:Hp):callV cS false (fnV 16) [.d (.i .i64 5),.d (.i .i64 1)] h=some (.val (.d (.agg [.s ivW.1,.s ivW.2])),h):=ratio_q 5 1 5 (by unfold I64;omega) (by unfold I64;omega) (by decide +kernel) (by decide +kernel) h
theorem rt_0_1 (h:Hp):callV cS false (fnV 16) [.d (.i .i64 0),.d (.i .i64 1)] h=some (.val (.d (.agg [.s ivZ.1,.s ivZ.2])),h):=ratio_q 0 1 0 (by unfold I64;omega) (by unfold I64;omega) (by decide +kernel) (by decide +kernel) h
theorem sa1 {h:Hp}{o:EO} (g:Glb h) (e:ErrAt h o):callV cS false (fnV 41) [.d (.agg [.s ivA.a,.s ivA.b,.s ivA.c,.s ivA.d]),.d (.agg [.s ivB.a,.s ivB.b,.s ivB.c,.s ivB.d])] h=some (.val (.d (.tup [(.agg [.s ivC.a,.s ivC.b,.s ivC.c,.s ivC.d]),.i .i64 0])),h):=by
 have:=EMul_ok ivA ivB g e
 unfold ivA ivB at this
 rw[ex_mul,workD_two (qV_ok (Sm.fits (by decide +kernel)) (Sm.fits (by decide +kernel)) (by decide +kernel)) (qV_ok (Sm.fits (by decide +kernel)) (Sm.fits (by decide +kernel)) (by decide +kernel))] at this
 exact this
theorem sa2 {h:Hp}{o:EO} (g:Glb h) (e:ErrAt h o):callV cS false (fnV 43) [.d (.agg [.s ivD.a,.s ivD.b,.s ivD.c,.s ivD.d]),.d (.agg [.s ivE.a,.s ivE.b,.s ivE.c,.s ivE.d])] h=some (.val (.d (.tup [.agg [.s [],.s [],.s [],.s []],.i .i64 50])),h):=by
 have:=EDiv_ok ivD ivE g e
 unfold ivD ivE at this
 rw[ex_div1,workD_none] at this
 exact this
theorem sa3 {h:Hp}{o:EO} (g:Glb h) (e:ErrAt h o):callV cS false (fnV 43) [.d (.agg [.s ivD.a,.s ivD.b,.s ivD.c,.s ivD.d]),.d (.agg [.s ivF.a,.s ivF.b,.s ivF.c,.s ivF.d])] h=some (.val (.d (.tup [(.agg [.s ivQ.a,.s ivQ.b,.s ivQ.c,.s ivQ.d]),.i .i64 0])),h):=by
 have:=EDiv_ok ivD ivF g e
 unfold ivD ivF at this
 rw[ex_div2,workD_two (qV_ok (Sm.fits (by decide +kernel)) (Sm.fits (by decide +kernel)) (by decide +kernel)) (qV_ok (Sm.fits (by decide +kernel)) (Sm.fits (by decide +kernel)) (by decide +kernel))] at this
 exact this
theorem sa4 {h:Hp}{o:EO} (g:Glb h) (e:ErrAt h o):callV cS false (fnV 22) [.d (.agg [.s ivS.a,.s ivS.b,.s ivS.c,.s ivS.d]),.d (.i .i64 1)] h=some (.val (.d (.tup [(.agg [.s ivR.a,.s ivR.b,.s ivR.c,.s ivR.d]),.i .i64 0])),h):=by
 have:=ESqrt_ok ivS 1 (by unfold I64;omega) g e
 unfold ivS at this
 rw[ex_sqrt,workD_one (qV_ok (Sm.fits (by decide +kernel)) (Sm.fits (by decide +kernel)) (by decide +kernel))] at this
 exact this
theorem sa5 {h:Hp}{o:EO} (g:Glb h) (e:ErrAt h o):callV cS false (fnV 26) [.d (.agg [.s ivD.a,.s ivD.b,.s ivD.c,.s ivD.d]),.d (.agg [.s ivM.a,.s ivM.b,.s ivM.c,.s ivM.d])] h=some (.val (.d (.tup [(.agg [.s ivN.a,.s ivN.b,.s ivN.c,.s ivN.d]),.i .i64 0])),h):=by
 have:=EMeet_ok ivD ivM g e
 unfold ivD ivM at this
 rw[ex_meet1,workD_two (qV_ok (Sm.fits (by decide +kernel)) (Sm.fits (by decide +kernel)) (by decide +kernel)) (qV_ok (Sm.fits (by decide +kernel)) (Sm.fits (by decide +kernel)) (by decide +kernel))] at this
 exact this
theorem sa6 {h:Hp}{o:EO} (g:Glb h) (e:ErrAt h o):callV cS false (fnV 26) [.d (.agg [.s ivD.a,.s ivD.b,.s ivD.c,.s ivD.d]),.d (.agg [.s ivO.a,.s ivO.b,.s ivO.c,.s ivO.d])] h=some (.val (.d (.tup [.agg [.s [],.s [],.s [],.s []],.i .i64 50])),h):=by
 have:=EMeet_ok ivD ivO g e
 unfold ivD ivO at this
 rw[ex_meet2,workD_none] at this
 exact this
theorem sa7 {h:Hp}{o:EO} (g:Glb h) (e:ErrAt h o):callV cS false (fnV 14) [.d (.agg [.s ivT.a,.s ivT.b,.s ivT.c,.s ivT.d]),.d (.i .i64 1)] h=some (.val (.d (.tup [(.agg [.s ivU.a,.s ivU.b,.s ivU.c,.s ivU.d]),.i .i64 0])),h):=by
 have:=ERound_ok ivT 1 (by unfold I64;omega) g e
 unfold ivT at this
 rw[ex_round,workD_one (qV_ok (Sm.fits (by decide +kernel)) (Sm.fits (by decide +kernel)) (by decide +kernel))] at this
 exact this
theorem sa8 {h:Hp}{o:EO} (g:Glb h) (e:ErrAt h o):callV cS false (fnV 33) [.d (.agg [.s ivE.a,.s ivE.b,.s ivE.c,.s ivE.d])] h=some (.val (.d (.tup [.agg [.s ivW.1,.s ivW.2],.i .i64 0])),h):=by
 have:=Width_ok ivE g e
 unfold ivE at this
 rw[ex_width,workQ,if_pos (by simp only[List.all_cons,List.all_nil,Bool.and_true];exact(qV_ok (Sm.fits (by decide +kernel)) (Sm.fits (by decide +kernel)) (by decide +kernel)))] at this
 exact this
theorem sv1 {h:Hp} (g:Glb h):callV cS false (fnV 35) [.d (.agg [.s ivC.a,.s ivC.b,.s ivC.c,.s ivC.d])] h=some (.val (.d (.b true)),h):=by
 have:=EValid_ok ivC.a ivC.b ivC.c ivC.d h g
 unfold ivC at this
 rw[VQ_qV (Sm.fits (by decide +kernel)) (Sm.fits (by decide +kernel)) (by decide +kernel)] at this
 exact this
theorem sv2 {h:Hp} (g:Glb h):callV cS false (fnV 35) [.d (.agg [.s ivV.a,.s ivV.b,.s ivV.c,.s ivV.d])] h=some (.val (.d (.b false)),h):=by
 have:=EValid_ok ivV.a ivV.b ivV.c ivV.d h g
 unfold ivV at this
 rw[VQ_qV' (Sm.fits (by decide +kernel)) (Sm.fits (by decide +kernel)) (by decide +kernel)] at this
 exact this
theorem sv3 {h:Hp} (g:Glb h):callV cS false (fnV 23) [.d (.agg [.s ivC.a,.s ivC.b,.s ivC.c,.s ivC.d]),.d (.agg [.s ivZ.1,.s ivZ.2])] h=some (.val (.d (.b true)),h):=by
 have:=Contains_ok ivC ivZ.1 ivZ.2 h g
 have e1:inB ivC ivZ.1 ivZ.2=true:=by
  show inB (qV (-15) 10) (txt (0:Rat).num) (txt (0:Rat).den)=true
  rw[inB_qV (Sm.fits (by decide +kernel)) (Sm.fits (by decide +kernel)) (Sm.fits (by decide +kernel)) (by decide +kernel)];decide +kernel
 rw[e1] at this
 exact this
theorem sv4 {h:Hp} (g:Glb h):callV cS false (fnV 15) [.d (.agg [.s ivQ.a,.s ivQ.b,.s ivQ.c,.s ivQ.d]),.d (.agg [.s ivR.a,.s ivR.b,.s ivR.c,.s ivR.d])] h=some (.val (.d (.b false)),h):=by
 have:=Within_ok ivQ ivR h g
 have e1:inB ivR ivQ.a ivQ.b=false:=by
  show inB (qV (7/5) (9/5)) (txt (1/4:Rat).num) (txt (1/4:Rat).den)=false
  rw[inB_qV (Sm.fits (by decide +kernel)) (Sm.fits (by decide +kernel)) (Sm.fits (by decide +kernel)) (by decide +kernel)];decide +kernel
 rw[e1,Bool.and_false,Bool.false_and] at this
 exact this
theorem ivP_c:ivP.c=ivP.a:=rfl
theorem ivP_d:ivP.d=ivP.b:=rfl
theorem sv5 {h:Hp} (g:Glb h):callV cS false (fnV 37) [.d (.agg [.s ivP.a,.s ivP.b])] h=some (.val (.d (.agg [.s ivP.a,.s ivP.b,.s ivP.c,.s ivP.d])),h):=by
 have:=Point_ok ivP.a ivP.b h g
 have e1:RQ ivP.a ivP.b=some 3:=by
  show RQ (txt (3:Rat).num) (txt (3:Rat).den)=some 3
  exact RQ_txt (Sm.fits (by decide +kernel))
 rw[e1] at this
 exact this
end
end Go.Proofs.YtmiioebapckcoaaGreatDoor
