/- Part 17 of a proof: the small semantics, its soundness, the functions of the program in it, and the law. -/
import Derived.RowKit
import Derived.ChangeArms
import Derived.Lib.LaidTab
import Derived.Test.YtmiioebapckcoaaGreatDoorCards
import Derived.Test.YtmiioebapckcoaaGreatDoorTie
import Derived.WalkKit
import Derived.ProofKit
import Derived.OpenShut
import Derived.MakeChecks
import Derived.Lay
import Derived.Deep.DeepHandedRow
import Derived.Deep.DeepWitnessRowRef
import Derived.Lib.LaidU8
import Derived.Test.YtmiioebapckcoaaGreatDoorJp
set_option linter.unusedVariables false
set_option linter.unusedSimpArgs false
set_option maxRecDepth 4000
namespace Go.Proofs.YtmiioebapckcoaaGreatDoor
section
open Go Num
theorem trunc_app:∀ (L H:Hp),trunc H.length (L++H)=H
 | [],H=>trunc_self H
 | x::L,H=>by rw[List.cons_append,trunc_cons' (by simp)];exact trunc_app L H
theorem HOk_app:∀ (L H:Hp),HOk H (L++H)
 | [],H=>HOk.refl H
 | x::L,H=>by rw[List.cons_append,HOk_cons' (by simp)];exact HOk_app L H
theorem fin_app (L H:Hp) (x:D):fin false H (.ret (.d x),L++H)=some (.val (.d x),H):=by
 rw[fin_val,if_pos ⟨by simp,HOk_app L H⟩,trunc_app]
theorem within_val {lo hi L U:Rat} (fl:RFits lo) (fh:RFits hi) (fL:RFits L) (fU:RFits U) (h1:L≤lo) (h2:lo≤hi) (h3:hi≤U) {h:Hp} (g:Glb h) :
 callV cS false (fnV 15) [.d (dI4 lo hi),.d (dI4 L U)] h=some (.val (.d (.b true)),h):=by
 have:=Within_ok (qV lo hi) (qV L U) h g
 have hLU:L≤U:=Rat.le_trans h1 (Rat.le_trans h2 h3)
 have e1:inB (qV L U) (qV lo hi).a (qV lo hi).b=true:=by
  show inB (qV L U) (txt lo.num) (txt lo.den)=true
  rw[inB_qV fL fU fl hLU,decide_eq_true h1,decide_eq_true (Rat.le_trans h2 h3)];rfl
 have e2:inB (qV L U) (qV lo hi).c (qV lo hi).d=true:=by
  show inB (qV L U) (txt hi.num) (txt hi.den)=true
  rw[inB_qV fL fU fh hLU,decide_eq_true (Rat.le_trans h1 h2),decide_eq_true h3];rfl
 rw[qV_ok fl fh h2,e1,e2] at this
 exact this
theorem compare_val {p q:Rat} (fp:RFits p) (fq:RFits q) {h:Hp} (g:Glb h) :
 callV cS false (fnV 13) [.d (.agg [.s (txt p.num),.s (txt p.den)]),.d (.agg [.s (txt q.num),.s (txt q.den)])] h=some (.val (.d (.i .i64 (cmpQ p q))),h):=by
 have:=RCompare_ok (txt p.num) (txt p.den) (txt q.num) (txt q.den) h g
 have he:opQ (fun p q=>.i .i64 (cmpQ p q)) (.i .i64 0) (txt p.num) (txt p.den) (txt q.num) (txt q.den)=.i .i64 (cmpQ p q):=by simp[opQ,RQ_txt fp,RQ_txt fq]
 rw[he] at this
 exact this
theorem minQ_eq (m x:Rat):minQ m x=if x<m then x else m:=by
 unfold minQ
 by_cases h:x<m
 ·rw[if_pos h,if_pos (cmpQ_lt.2 h)]
 ·rw[if_neg h,if_neg (fun k=>h (cmpQ_lt.1 k))]
theorem maxQ_eq (m x:Rat):maxQ m x=if m<x then x else m:=by
 unfold maxQ
 by_cases h:m<x
 ·rw[if_pos h,if_pos (cmpQ_gt.2 h)]
 ·rw[if_neg h,if_neg (fun k=>h (cmpQ_gt.1 k))]
theorem contains_val {p q r:Rat} (hp:RFits p) (hq:RFits q) (hr:RFits r) (hle:p≤q) {h:Hp} (g:Glb h) :
 callV cS false (fnV 23) [.d (dI4 p q),.d (.agg [.s (txt r.num),.s (txt r.den)])] h=some (.val (.d (.b (decide (p≤r)&&decide (r≤q)))),h):=by
 have:=Contains_ok (qV p q) (txt r.num) (txt r.den) h g
 rw[inB_qV hp hq hr hle] at this
 exact this
theorem contains_zero (r:Rat) {h:Hp} (g:Glb h) :
 callV cS false (fnV 23) [.d (.agg [.s [],.s [],.s [],.s []]),.d (.agg [.s (txt r.num),.s (txt r.den)])] h=some (.val (.d (.b false)),h):=by
 have:=Contains_ok ⟨[],[],[],[]⟩ (txt r.num) (txt r.den) h g
 have hi:ival []=none:=by decide +kernel
 have hv:VQ [] [] [] []=none:=by unfold VQ RQ;rw[hi]
 have he:inB ⟨[],[],[],[]⟩ (txt r.num) (txt r.den)=false:=by unfold inB;simp only[hv]
 rw[he] at this
 exact this
end
section
open Go Num
theorem Valid4_ok (a b:List UInt8) (sa:Short a) (sb:Short b) (H:Hp):callV cS false (fnV 30) [.d (.agg [.s a,.s b])] H=some (.val (.d (.b (RQ a b).isSome)),H):=by
 rw[callV_fn (sf:=c30) rfl rfl rfl rfl]
 have v1:=Valid3_ok a sa
 have v2:=Valid3_ok b sb
 rcases ival_cases a b with ⟨x,y,ha,hb⟩ | h
 ·have hrv:(RQ a b).isSome=decide (0<y∧Int.gcd x y=1):=by
   unfold RQ;rw[ha,hb];simp only
   split
   ·rename_i h;simp[h]
   ·rename_i h;rw[decide_eq_false h];rfl
  rw[hrv]
  rw[ha] at v1
  rw[hb] at v2
  obtain⟨fx,rfl⟩:=ival_some ha
  obtain⟨fy,rfl⟩:=ival_some hb
  have cmp:=Compare3_ok (txt y) [48] sb short48
  rw[opI_some (ival_txt fy) ival_zero] at cmp
  have gc:=Gcd3_ok (txt x) (txt y) sa sb
  rw[opI_txt fx fy,fitD_of (fitD_gcd fx fy)] at gc
  by_cases hy:0<y
  ·have hc:cmpI y 0=1:=by unfold cmpI;rw[if_neg (by omega),if_pos (by omega)]
   rw[hc] at cmp
   by_cases hg:Int.gcd x y=1
   ·have ht:txt (Int.gcd x y:Nat)=[49]:=by rw[hg];exact txt_one
    rw[ht] at gc
    simp[c30,b30,put,eset,eget,D.cells,V.cells,allD,hget,hset,fz,zC,zN,v1,v2,cmp,gc,hy,hg]
   ·have ht:txt (Int.gcd x y:Nat)≠[49]:=fun h=>by
     have:=txt_inj (h.trans txt_one.symm);omega
    have htb:(txt (Int.gcd x y:Nat)==[49])=false:=by rw[beq_eq_false_iff_ne];exact ht
    obtain⟨g,hgg⟩:∃ g,g=txt (Int.gcd x y:Nat):=⟨_,rfl⟩
    rw[← hgg] at gc htb ht
    simp[c30,b30,put,eset,eget,D.cells,V.cells,allD,hget,hset,fz,zC,zN,v1,v2,cmp,gc,hy,hg,htb,ht]
  ·have hc:cmpI y 0≤0:=by unfold cmpI;rw[if_neg hy];split<;>omega
   have hd:decide (0<y∧Int.gcd x y=1)=false:=decide_eq_false (fun h=>hy h.1)
   rw[hd]
   simp[c30,b30,put,eset,eget,D.cells,V.cells,allD,hget,hset,fz,zC,zN,v1,v2,cmp,hc]
 ·have hrv:(RQ a b).isSome=false:=by
   unfold RQ
   rcases h with h | h
   ·rw[h];rfl
   ·rw[h];cases ival a<;>rfl
  rw[hrv]
  by_cases ha:ival a=none
  ·rw[ha] at v1
   simp[c30,b30,put,eset,eget,D.cells,V.cells,allD,hget,hset,fz,zC,zN,v1,v2]
  ·have hb:ival b=none:=by rcases h with h | h;exact absurd h ha;exact h
   rw[hb] at v2
   have ha':(ival a).isSome=true:=Option.isSome_iff_ne_none.2 ha
   rw[ha'] at v1
   simp[c30,b30,put,eset,eget,D.cells,V.cells,allD,hget,hset,fz,zC,zN,v1,v2]
theorem zeroOr_ok (z:Int) (H:Hp):callV cS false (fnV 142) [.d (.s (txt z))] H=some (.val (.d (.s (txt (if z=0 then 0 else 1)))),H):=by
 rw[callV_fn (sf:=c142) rfl rfl rfl rfl]
 by_cases h:z=0
 ·subst h
  rw[if_pos rfl,txt_zero]
  simp[c142,b142,put,eset,eget,D.cells,V.cells,allD,hget,hset,fz,zC,zN]
 ·rw[if_neg h,txt_one]
  have hne:(txt z==[48])=false:=by rw[beq_eq_false_iff_ne];exact fun k=>h (txt_eq_zero.1 k)
  generalize txt z=t at *
  simp[c142,b142,put,eset,eget,D.cells,V.cells,allD,hget,hset,fz,zC,zN,hne]
theorem cmpI_range (a b:Int):cmpI a b=-1∨cmpI a b=0∨cmpI a b=1:=by
 unfold cmpI
 split
 ·exact .inl rfl
 ·split
  ·exact .inr (.inr rfl)
  ·exact .inr (.inl rfl)
theorem call_cmp3 {x y:Int} (fx:Fits x) (fy:Fits y) (H:Hp):callV cS false (fnV 80) [.d (.s (txt x)),.d (.s (txt y))] H=some (.val (.d (.i .i64 (cmpI x y))),H):=by
 rw[Compare3_ok _ _ (txt_short fx) (txt_short fy),opI_txt fx fy]
theorem call_div3 {x y:Int} (fx:Fits x) (fy:Fits y) (h:y≠0) (H:Hp):callV cS false (fnV 98) [.d (.s (txt x)),.d (.s (txt y))] H=some (.val (.d (.tup [.s (txt (x/y)),.s (txt (x%y)),.i .i64 0])),H):=by
 rw[Div3_ok _ _ (txt_short fx) (txt_short fy),opI_txt fx fy,divD,if_neg h]
set_option maxHeartbeats 4000000 in
theorem cmp4_loop (H:Hp):∀ (n:Nat) (s:Int),(s=1∨s=-1)→∀ (a b c d:Int),b.natAbs=n→Fits a→Fits b→Fits c→Fits d→0<b→0<d →
 evI cS (.loop l94_0) none [(7,.d (.i .i64 s)),(8,.d (.s (txt a))),(9,.d (.s (txt b))),(10,.d (.s (txt c))),(11,.d (.s (txt d)))] H=some (.rt,[(4,.d (.i .i64 (s*cmpI (a*d) (c*b))))],H):=by
 intro n
 induction n using Nat.strongRecOn with
 | _ n ih =>
   intro s hs a b c d hn fa fb fc fd hb hd
   rw[evI_loop]
   have d1:=call_div3 fa fb (by omega) H
   have d2:=call_div3 fc fd (by omega) H
   obtain⟨f1,f2⟩:=ediv_fits fa fb (by omega)
   obtain⟨f3,f4⟩:=ediv_fits fc fd (by omega)
   have cp:=call_cmp3 f1 f3 H
   have a1:=Int.emod_nonneg a (show b≠0 by omega)
   have a2:=Int.emod_lt_of_pos a hb
   have c1:=Int.emod_nonneg c (show d≠0 by omega)
   have c2:=Int.emod_lt_of_pos c hd
   by_cases hk:cmpI (a/b) (c/d)=0
   ·have he:a/b=c/d:=cmpI_zero.1 hk
    have hc:=cmp_rest he
    rw[hk] at cp
    by_cases h0:a%b=0∨c%d=0
    ·have z1:=zeroOr_ok (a%b) H
     have z2:=zeroOr_ok (c%d) H
     have cz:cmpI (a*d) (c*b)=cmpI (if a%b=0 then 0 else 1) (if c%d=0 then 0 else 1):=by
      rw[hc]
      by_cases h1:a%b=0
      ·rw[h1,if_pos rfl,Int.zero_mul]
       by_cases h2:c%d=0
       ·rw[h2,if_pos rfl,Int.zero_mul]
       ·rw[if_neg h2]
        have hp:0<c%d*b:=Int.mul_pos (by omega) hb
        unfold cmpI
        rw[if_pos hp,if_pos (by omega)]
      ·have h2:c%d=0:=by rcases h0 with h | h;exact absurd h h1;exact h
       rw[if_neg h1,h2,if_pos rfl,Int.zero_mul]
       have hp:0<a%b*d:=Int.mul_pos (by omega) hd
       unfold cmpI
       rw[if_neg (by omega),if_pos hp,if_neg (by omega),if_pos (by omega)]
     have cz2:=call_cmp3 (x:=if a%b=0 then 0 else 1) (y:=if c%d=0 then 0 else 1) (by split<;>first | exact fits_zero | exact fits_one) (by split<;>first | exact fits_zero | exact fits_one) H
     rw[← cz] at cz2
     have w:=cmpI_range (a*d) (c*b)
     have w1:IntKind.i64.wrap (s*cmpI (a*d) (c*b))=s*cmpI (a*d) (c*b):=by
      rcases hs with rfl | rfl<;>rcases w with w | w | w<;>rw[w]<;>exact wr64 (by omega) (by omega)
     generalize cmpI (a*d) (c*b)=k at *
     have hpick:((txt (a%b)==[48])=true)∨((txt (a%b)==[48])=false∧(txt (c%d)==[48])=true):=by
      by_cases h1:a%b=0
      ·rw[h1,txt_zero];exact .inl rfl
      ·have h2:c%d=0:=by rcases h0 with h | h;exact absurd h h1;exact h
       rw[h2,txt_zero]
       refine .inr ⟨?_,rfl⟩
       rw[beq_eq_false_iff_ne];exact fun k=>h1 (txt_eq_zero.1 k)
     generalize (if a%b=0 then (0:Int) else 1)=u1 at *
     generalize (if c%d=0 then (0:Int) else 1)=u2 at *
     generalize txt (a%b)=t1 at *
     generalize txt (c%d)=t2 at *
     generalize txt u1=y1 at *
     generalize txt u2=y2 at *
     generalize txt (a/b)=x1 at *
     generalize txt (c/d)=x2 at *
     rcases hpick with e1 | ⟨e1,e2⟩
     ·have e1':t1=[48]:=eq_of_beq e1
      subst e1'
      simp[l94_0,put,eset,eget,D.cells,V.cells,allD,hget,hset,fz,zC,zN,d1,d2,cp,z1,z2,cz2,w1]
     ·have e2':t2=[48]:=eq_of_beq e2
      subst e2'
      simp[l94_0,put,eset,eget,D.cells,V.cells,allD,hget,hset,fz,zC,zN,d1,d2,cp,z1,z2,cz2,w1,e1]
    ·have h1:¬ a%b=0:=fun h=>h0 (.inl h)
     have h2:¬ c%d=0:=fun h=>h0 (.inr h)
     have e1:(txt (a%b)==[48])=false:=by rw[beq_eq_false_iff_ne];exact fun k=>h1 (txt_eq_zero.1 k)
     have e2:(txt (c%d)==[48])=false:=by rw[beq_eq_false_iff_ne];exact fun k=>h2 (txt_eq_zero.1 k)
     have hih:=ih (a%b).natAbs (by omega) (-s) (by omega) b (a%b) d (c%d) rfl fb f2 fd f4 (by omega) (by omega)
     have hv:-s*cmpI (b*(c%d)) (d*(a%b))=s*cmpI (a*d) (c*b):=by
      rw[hc,← cmpI_neg (c%d*b) (a%b*d),Int.mul_comm b,Int.mul_comm d,Int.neg_mul,Int.mul_neg]
     rw[hv] at hih
     have w1:IntKind.i64.wrap (-s)=-s:=by rcases hs with rfl | rfl<;>exact wr64 (by omega) (by omega)
     generalize s*cmpI (a*d) (c*b)=k at *
     generalize txt (a%b)=t1 at *
     generalize txt (c%d)=t2 at *
     generalize txt (a/b)=x1 at *
     generalize txt (c/d)=x2 at *
     simp only[l94_0,o1,mv] at hih
     simp[l94_0,put,eset,eget,D.cells,V.cells,allD,hget,hset,fz,zC,zN,d1,d2,cp,w1,e1,e2,hih]
   ·rw[cmp_floor hb hd hk]
    have w:=cmpI_range (a/b) (c/d)
    have w1:IntKind.i64.wrap (s*cmpI (a/b) (c/d))=s*cmpI (a/b) (c/d):=by
     rcases hs with rfl | rfl<;>rcases w with w | w | w<;>rw[w]<;>exact wr64 (by omega) (by omega)
    generalize cmpI (a/b) (c/d)=k at *
    have hkb:(k==0)=false:=by rw[beq_eq_false_iff_ne];exact hk
    simp[l94_0,put,eset,eget,D.cells,V.cells,allD,hget,hset,fz,zC,zN,d1,d2,cp,w1,hk,bne,hkb]
theorem Compare4_ok (a b c d:List UInt8) (sa:Short a) (sb:Short b) (sc:Short c) (sd:Short d) (H:Hp):callV cS false (fnV 94) [.d (.agg [.s a,.s b]),.d (.agg [.s c,.s d])] H=some (.val (.d (opQ (fun p q=>.i .i64 (cmpQ p q)) (.i .i64 0) a b c d)),H):=by
 rw[callV_fn (sf:=c94) rfl rfl rfl rfl]
 have v1:=Valid4_ok a b sa sb
 have v2:=Valid4_ok c d sc sd
 cases hp:RQ a b with
 | none =>
   rw[hp] at v1
   have hq:opQ (fun p q=>.i .i64 (cmpQ p q)) (.i .i64 0) a b c d=.i .i64 0:=by simp[opQ,hp]
   rw[hq]
   simp[c94,b94,put,eset,eget,D.cells,V.cells,allD,hget,hset,fz,zC,zN,v1,v2]
 | some p =>
   rw[hp] at v1
   cases hq:RQ c d with
   | none =>
     rw[hq] at v2
     have he:opQ (fun p q=>.i .i64 (cmpQ p q)) (.i .i64 0) a b c d=.i .i64 0:=by simp[opQ,hp,hq]
     rw[he]
     simp[c94,b94,put,eset,eget,D.cells,V.cells,allD,hget,hset,fz,zC,zN,v1,v2]
   | some q =>
     rw[hq] at v2
     have he:opQ (fun p q=>.i .i64 (cmpQ p q)) (.i .i64 0) a b c d=.i .i64 (cmpQ p q):=by simp[opQ,hp,hq]
     rw[he]
     obtain⟨f1,rfl,rfl⟩:=RQ_some hp
     obtain⟨f2,rfl,rfl⟩:=RQ_some hq
     have lp:=fun h=>cmp4_loop h _ 1 (.inl rfl) p.num p.den q.num q.den rfl f1.1 f1.2 f2.1 f2.2 (den_pos p) (den_pos q)
     rw[Int.one_mul] at lp
     have hc:cmpI (p.num*q.den) (q.num*p.den)=cmpQ p q:=rfl
     rw[hc] at lp
     generalize cmpQ p q=k at *
     generalize txt p.num=t1 at *
     generalize txt p.den=t2 at *
     generalize txt q.num=t3 at *
     generalize txt q.den=t4 at *
     simp[c94,b94,put,eset,eget,D.cells,V.cells,allD,hget,hset,fz,zC,zN,v1,v2,lp]
end
section
open Go Num
def smallQ (x y:Int):Rat:=Rat.divInt (pickI x 1999-999) (1+pickI y 60)
theorem smallQ_sm (x y:Int):(smallQ x y).num.natAbs≤999∧(smallQ x y).den≤60:=by
 obtain⟨a0,a1⟩:=pickI_range x (show (0:Int)<1999 by omega)
 obtain⟨b0,b1⟩:=pickI_range y (show (0:Int)<60 by omega)
 obtain⟨p1,p2⟩:=divInt_abs (pickI x 1999-999) (show 0<1+pickI y 60 by omega)
 unfold smallQ
 omega
theorem smallQ_fits (x y:Int):RFits (smallQ x y):=by
 obtain⟨h1,h2⟩:=smallQ_sm x y
 exact Sm.fits (by simp only[Sm,Bool.and_eq_true,decide_eq_true_eq];omega)
theorem Small_ok (x y:Int) (hx:I64 x) (hy:I64 y) (H:Hp):callV cS false (fnV 25) [.d (.agg [.i .i64 x,.i .i64 y])] H=some (.val (.d (dR (smallQ x y))),H):=by
 rw[callV_fn (sf:=c25) rfl rfl rfl rfl]
 obtain⟨a0,a1⟩:=pickI_range x (show (0:Int)<1999 by omega)
 obtain⟨b0,b1⟩:=pickI_range y (show (0:Int)<60 by omega)
 have p1:=pick4_ok x 1999 hx (by unfold I64;omega) (by omega)
 have p2:=pick4_ok y 60 hy (by unfold I64;omega) (by omega)
 have w1:IntKind.i64.wrap (pickI x 1999-999)=pickI x 1999-999:=wr64 (by omega) (by omega)
 have w2:IntKind.i64.wrap (1+pickI y 60)=1+pickI y 60:=wr64 (by omega) (by omega)
 have o1:=Of_ok (pickI x 1999-999) (1+pickI y 60) (by unfold I64;omega) (by unfold I64;omega)
 rw[makeD,if_neg (by omega)] at o1
 simp only[dR,smallQ] at o1 ⊢
 generalize Rat.divInt (pickI x 1999-999) (1+pickI y 60)=q at *
 simp[c25,b25,put,eset,eget,D.cells,V.cells,allD,hget,hset,fz,zC,zN,p1,p2,w1,w2,o1,setParts,chunk1,allCellsD]
theorem cmp4_val {p q:Rat} (fp:RFits p) (fq:RFits q) (h:Hp) :
 callV cS false (fnV 94) [.d (.agg [.s (txt p.num),.s (txt p.den)]),.d (.agg [.s (txt q.num),.s (txt q.den)])] h=some (.val (.d (.i .i64 (cmpQ p q))),h):=by
 have:=Compare4_ok (txt p.num) (txt p.den) (txt q.num) (txt q.den) (txt_short fp.1) (txt_short fp.2) (txt_short fq.1) (txt_short fq.2) h
 have he:opQ (fun p q=>.i .i64 (cmpQ p q)) (.i .i64 0) (txt p.num) (txt p.den) (txt q.num) (txt q.den)=.i .i64 (cmpQ p q):=by simp[opQ,RQ_txt fp,RQ_txt fq]
 rw[he] at this
 exact this
def leastQ (p q:Rat):Rat:=if p≤q then p else q
def mostQ (p q:Rat):Rat:=if q≤p then p else q
theorem cmpQ_ge {p q:Rat}:0≤cmpQ p q↔q≤p:=by
 rw[← Int.not_lt,cmpQ_lt,Rat.not_lt]
theorem least_ok {p q:Rat} (fp:RFits p) (fq:RFits q) (H:Hp):callV cS false (fnV 60) [.d (dR p),.d (dR q)] H=some (.val (.d (dR (leastQ p q))),H):=by
 rw[callV_fn (sf:=c60) rfl rfl rfl rfl]
 have cv:=cmp4_val fp fq
 simp only[dR]
 unfold leastQ
 by_cases h:p≤q
 ·rw[if_pos h]
  have hk:=cmpQ_le.2 h
  generalize cmpQ p q=k at *
  simp[c60,b60,put,eset,eget,D.cells,V.cells,allD,hget,hset,fz,zC,zN,cv,hk]
 ·rw[if_neg h]
  have hk:¬ cmpQ p q≤0:=fun k=>h (cmpQ_le.1 k)
  generalize cmpQ p q=k at *
  simp[c60,b60,put,eset,eget,D.cells,V.cells,allD,hget,hset,fz,zC,zN,cv,hk]
theorem most_ok {p q:Rat} (fp:RFits p) (fq:RFits q) (H:Hp):callV cS false (fnV 61) [.d (dR p),.d (dR q)] H=some (.val (.d (dR (mostQ p q))),H):=by
 rw[callV_fn (sf:=c61) rfl rfl rfl rfl]
 have cv:=cmp4_val fp fq
 simp only[dR]
 unfold mostQ
 by_cases h:q≤p
 ·rw[if_pos h]
  have hk:=cmpQ_ge.2 h
  generalize cmpQ p q=k at *
  simp[c61,b61,put,eset,eget,D.cells,V.cells,allD,hget,hset,fz,zC,zN,cv,hk]
 ·rw[if_neg h]
  have hk:¬ 0≤cmpQ p q:=fun k=>h (cmpQ_ge.1 k)
  generalize cmpQ p q=k at *
  simp[c61,b61,put,eset,eget,D.cells,V.cells,allD,hget,hset,fz,zC,zN,cv,hk]
def madeLo (x0 x1 x2 x3:Int):Rat:=leastQ (smallQ x0 x1) (smallQ x2 x3)
def madeHi (x0 x1 x2 x3:Int):Rat:=mostQ (smallQ x0 x1) (smallQ x2 x3)
theorem made_le (x0 x1 x2 x3:Int):madeLo x0 x1 x2 x3≤madeHi x0 x1 x2 x3:=by
 unfold madeLo madeHi leastQ mostQ
 split<;>split<;>grind
theorem Made_ok (x0 x1 x2 x3:Int) (h0:I64 x0) (h1:I64 x1) (h2:I64 x2) (h3:I64 x3) (H:Hp):callV cS false (fnV 19) [.d (.agg [.i .i64 x0,.i .i64 x1,.i .i64 x2,.i .i64 x3])] H=some (.val (.d (dI4 (madeLo x0 x1 x2 x3) (madeHi x0 x1 x2 x3))),H):=by
 rw[callV_fn (sf:=c19) rfl rfl rfl rfl]
 have s1:=Small_ok x0 x1 h0 h1
 have s2:=Small_ok x2 x3 h2 h3
 have l1:=least_ok (smallQ_fits x0 x1) (smallQ_fits x2 x3)
 have m1:=most_ok (smallQ_fits x0 x1) (smallQ_fits x2 x3)
 simp only[dR,dI4,madeLo,madeHi] at *
 generalize leastQ (smallQ x0 x1) (smallQ x2 x3)=lo at *
 generalize mostQ (smallQ x0 x1) (smallQ x2 x3)=hi at *
 generalize smallQ x0 x1=p at *
 generalize smallQ x2 x3=q at *
 simp[c19,b19,put,eset,eget,D.cells,V.cells,allD,hget,hset,fz,zC,zN,s1,s2,l1,m1,setParts,chunk1,allCellsD]
theorem made_sm (x0 x1 x2 x3:Int):((madeLo x0 x1 x2 x3).num.natAbs≤999∧(madeLo x0 x1 x2 x3).den≤60)∧((madeHi x0 x1 x2 x3).num.natAbs≤999∧(madeHi x0 x1 x2 x3).den≤60):=by
 have h1:=smallQ_sm x0 x1
 have h2:=smallQ_sm x2 x3
 unfold madeLo madeHi leastQ mostQ
 constructor<;>split<;>assumption
end
section
open Go Num
def hullQ (p1 q1 p2 q2:Rat):D:=dI4 ([q1,p2,q2].foldl minQ p1) ([q1,p2,q2].foldl maxQ p1)
theorem hull1_ok {h:Hp}{i j:Nat}{p1 q1 p2 q2:Rat} (f1:RFits p1) (f2:RFits q1) (f3:RFits p2) (f4:RFits q2) (hG:Glb h) (hi:hget h i=some (.box 29 [.d (.s (txt p1.num)),.d (.s (txt p1.den)),.d (.s (txt q1.num)),.d (.s (txt q1.den))])) (hj:hget h j=some (.box 29 [.d (.s (txt p2.num)),.d (.s (txt p2.den)),.d (.s (txt q2.num)),.d (.s (txt q2.den))])) :
 callV cS false (.fn 75 [] [.p i 0,.p j 0]) [] h=some (.val (.d (hullQ p1 q1 p2 q2)),h):=by
 rw[callV_fnV (sf:=c75) rfl rfl rfl rfl]
 have hil:=hget_lt' hi
 have hjl:=hget_lt' hj
 have ni:¬ i=h.length:=by omega
 have nj:¬ j=h.length:=by omega
 have hh:=hull_ok p1 [q1,p2,q2] (by simp[f1,f2,f3,f4]) (by simp) _ (hG.cons (.box 29 [.d (.s []),.d (.s []),.d (.s []),.d (.s [])]))
 unfold hullQ
 obtain⟨mn,hmn⟩:∃ mn,mn=[q1,p2,q2].foldl minQ p1:=⟨_,rfl⟩
 obtain⟨mx,hmx⟩:∃ mx,mx=[q1,p2,q2].foldl maxQ p1:=⟨_,rfl⟩
 rw[← hmn,← hmx] at hh ⊢
 simp only[dI4,List.map_cons,List.map_nil,dR] at hh ⊢
 simp[c75,b75,put,eset,eget,D.cells,V.cells,allD,hget,hset,fz,zC,zN,hi,hj,ni,nj,hh,setParts,chunk1,allCellsD]
noncomputable def hullX (x y:IV):Option D:=match VQ x.a x.b x.c x.d,VQ y.a y.b y.c y.d with
 | some (p1,q1),some (p2,q2)=>some (hullQ p1 q1 p2 q2)
 | _,_=>none
theorem hullX_form (x y:IV):∀ z,hullX x y=some z→∃ s t u v,z=.agg [.s s,.s t,.s u,.s v]:=by
 intro z hz
 unfold hullX hullQ dI4 at hz
 split at hz
 ·cases hz;exact⟨_,_,_,_,rfl⟩
 ·cases hz
theorem EHull_ok (x y:IV) {H:Hp}{o:EO} (hG:Glb H) (hE:ErrAt H o):callV cS false (fnV 27) [.d x.D,.d y.D] H=some (.val (.d (workD [x,y] (hullX x y))),H):=by
 rw[callV_fn (sf:=c27) rfl rfl rfl rfl]
 obtain⟨H1,hH1⟩:∃ H1:Hp,H1=.box 29 [.d (.s []),.d (.s []),.d (.s []),.d (.s [])]::.box 29 [.d (.s y.a),.d (.s y.b),.d (.s y.c),.d (.s y.d)]::.box 29 [.d (.s x.a),.d (.s x.b),.d (.s x.c),.d (.s x.d)]::H:=⟨_,rfl⟩
 have hG1:Glb H1:=by rw[hH1];exact((hG.cons _).cons _).cons _
 have hE1:ErrAt H1 o:=by rw[hH1];exact((hE.cons _).cons _).cons _
 have hcomp:=compute_work (F:=.fn 75 [] [.p H.length 0,.p (H.length+1) 0]) (l:=[x,y]) (by simp) hG1 hE1 (by simp) (hullX_form x y) (by
  intro ha
  simp only[List.all_cons,List.all_nil,Bool.and_true,Bool.and_eq_true] at ha
  obtain⟨p1,q1,f1,f2,_,hv1,a1,a2,a3,a4⟩:=IV.ends ha.1
  obtain⟨p2,q2,f3,f4,_,hv2,b1,b2,b3,b4⟩:=IV.ends ha.2
  have hm:hullX x y=some (hullQ p1 q1 p2 q2):=by simp only[hullX,hv1,hv2]
  rw[hm]
  exact hull1_ok (h:=cbH H1 zI 0) (i:=H.length) (j:=H.length+1) f1 f2 f3 f4 ((hG1.cons _).cons _) (by rw[hH1,← a1,← a2,← a3,← a4];simp[cbH,hget,put,eset,eget,D.cells,V.cells,allD,hget,hset,fz,zC,zN]) (by rw[hH1,← b1,← b2,← b3,← b4];simp[cbH,hget,put,eset,eget,D.cells,V.cells,allD,hget,hset,fz,zC,zN]))
 obtain⟨s,t,u,v,e,he⟩:=workD_form (l:=[x,y]) (hullX_form x y)
 rw[he] at hcomp ⊢
 rw[hH1] at hcomp
 simp only[List.map_cons,List.map_nil,IV.D] at hcomp
 simp[c27,b27,put,eset,eget,D.cells,V.cells,allD,hget,hset,fz,zC,zN,IV.D,hcomp,setParts,chunk1,allCellsD]
end
section
open Go Num
def Kept (W W':World):Prop:=W'.os=W.os∧W'.output=W.output∧W.heap.size≤W'.heap.size∧∀ b,b<W.heap.size→W'.heap[b]? = W.heap[b]?
theorem Kept.but {W W':World} (h:Kept W W') (may:MemPlace→Prop):W.keptBut W' may:=by
 refine⟨h.1,h.2.1,fun i hi=>?_⟩
 rw[h.2.2.2 i hi]
 cases W.heap[i]? with
 | none=>rfl
 | some o=>cases o<;>simp
theorem Kept.frozen {W W':World} (h:Kept W W') (a:Addr) (ha:a.block<W.heap.size):W'.frozen? a=W.frozen? a:=by
 unfold World.frozen?
 rw[h.2.2.2 _ ha]
theorem hget_rev:∀ (H:Hp) (o:Nat),hget H o=H.reverse[o]?
 | [],o=>by simp[hget]
 | x::H,o=>by
   unfold hget
   rw[List.reverse_cons,List.getElem?_append]
   split
   ·rename_i h;subst h;simp
   ·rename_i h
    rw[hget_rev H o]
    split
    ·rfl
    ·rename_i h2
     have h3:H.length<o:=by simp at h2;omega
     rw[List.getElem?_eq_none (by simp<;>omega),List.getElem?_eq_none (by simp<;>omega)]
def glN:Nat:=9
def glOb (i n:Nat):Ob:=if n=0 then .ro [eV (glN,i)] else if n=4 then .ro pow10V else .nop
def H0 (i:Nat):Hp:=.nop::((List.range glN).map (glOb i)).reverse
theorem H0_len (i:Nat):(H0 i).length=glN+1:=by simp[H0]
theorem H0_get (i o:Nat):hget (H0 i) o=if o<glN then some (glOb i o) else if o=glN then some .nop else none:=by
 rw[hget_rev,H0,List.reverse_cons,List.reverse_reverse,List.getElem?_append]
 simp only[List.length_map,List.length_range]
 split
 ·rename_i h;simp[h]
 ·rename_i h
  by_cases h2:o=glN
  ·subst h2;simp
  ·rw[List.getElem?_eq_none (by simp<;>omega),if_neg h2]
theorem H0_err (i:Nat):ErrAt (H0 i) (glN,i):=⟨by rw[H0_get];rfl,by rw[H0_len];exact Nat.lt_succ_self _⟩
theorem H0_glb (i:Nat):Glb (H0 i):=by unfold Glb;rw[H0_get];rfl
theorem H0_gr (i o:Nat):¬ isGr (H0 i) o:=by
 unfold isGr
 rw[H0_get]
 by_cases h1:o<glN
 ·rw[if_pos h1]
  unfold glOb
  by_cases h2:o=0
  ·rw[if_pos h2];exact fun h=>h
  ·rw[if_neg h2]
   by_cases h3:o=4
   ·rw[if_pos h3];exact fun h=>h
   ·rw[if_neg h3];exact fun h=>h
 ·rw[if_neg h1]
  by_cases h2:o=glN
  ·rw[if_pos h2];exact fun h=>h
  ·rw[if_neg h2];exact fun h=>h
theorem H0_own (i o:Nat):¬ ownedO (H0 i) o:=by
 unfold ownedO
 rw[H0_get]
 by_cases h1:o<glN
 ·rw[if_pos h1]
  unfold glOb
  by_cases h2:o=0
  ·rw[if_pos h2];exact fun h=>h
  ·rw[if_neg h2]
   by_cases h3:o=4
   ·rw[if_pos h3];exact fun h=>h
   ·rw[if_neg h3];exact fun h=>h
 ·rw[if_neg h1]
  by_cases h2:o=glN
  ·rw[if_pos h2];exact fun h=>h
  ·rw[if_neg h2];exact fun h=>h
def mu0 (b:Nat) (n:Nat):Option Nat:=if n<glN then some n else some b
noncomputable def X0:Cx:=⟨fun _=>False,Tryz.prog⟩
theorem own0 (i b c:Nat):¬ Own X0 (mu0 b) (H0 i) c:=by
 rintro (h | ⟨o,h,_⟩)
 ·exact h
 ·exact H0_own i o h
structure Laid (b i:Nat) (W:World):Prop where
 err:∃ e z,W.heap[0]? = some (.cells #[.iface 227 (.pointer (some ⟨b,i,none⟩))] e z)
 tab:∃ e z,W.heap[4]? = some (.cells (Lib.pow10Tab.map fun z=>Value.int .u64 z).toArray e z)
theorem Laid.inv {b i:Nat}{W:World} (h:Laid b i W):Inv X0 (mu0 b) (H0 i) W:=by
 refine⟨fun o ob ho=>?_,fun o _ _ _ h1=>absurd h1 (H0_own i o),fun o _ h1=>absurd h1 (H0_own i o),fun _ h=>h.elim⟩
 rw[H0_get] at ho
 split at ho
 ·rename_i hlt
  cases ho
  unfold glOb
  split
  ·rename_i h1
   subst h1
   obtain⟨e,z,he⟩:=h.err
   refine⟨_,_,e,z,by simp[mu0,hlt],own0 i b _,he,rfl,fun j v hv=>?_⟩
   cases j with
   | zero =>
     cases hv
     exact .ifc _ _ _ (.p _ _ b (by rw[H0_len];omega) (by simp[mu0]) (H0_gr _ _))
   | succ j=>simp at hv
  ·split
   ·rename_i h1
    subst h1
    obtain⟨e,z,he⟩:=h.tab
    refine⟨_,_,e,z,by simp[mu0,hlt],own0 i b _,he,by simp[pow10V],fun j v hv=>?_⟩
    have hj:j<Lib.pow10Tab.length:=by
     have:=(List.getElem?_eq_some_iff.1 hv).1
     simpa[pow10V] using this
    have hv':v=.d (.i .u64 Lib.pow10Tab[j]):=by
     simp[pow10V,hj] at hv;exact hv.symm
    subst hv'
    rw[Array.getD_eq_getD_getElem?]
    simp only[List.getElem?_toArray,List.getElem?_map,List.getElem?_eq_getElem hj,Option.map_some,Option.getD_some]
    exact .d _ _ (.i _ _)
   ·trivial
 ·split at ho
  ·cases ho;trivial
  ·cases ho
theorem gl0 (i b:Nat):Gl Tryz.prog.globals.size (mu0 b) (H0 i):=by
 have hG:Tryz.prog.globals.size=glN:=by kernel_rfl
 intro n hn
 rw[hG] at hn
 exact⟨by rw[H0_len];omega,by simp[mu0,hn],H0_gr i n⟩
theorem callV_run {f:FuncId}{args:List V}{H:Hp}{x:D} (h:callV cS false (fnV f) args H=some (.val (.d x),H)):∃ n v h',callN S n (.fn f) args H=some (.ret v,h')∧fz h' H.length 8 v=some x:=by
 simp only[callV,List.map_nil,List.nil_append,List.append_nil] at h
 cases hc:cS (.fn f) args H with
 | none=>rw[hc] at h;cases h
 | some r =>
   obtain⟨o,h'⟩:=r
   obtain⟨n,hn⟩:=(callI_some SX).1 hc
   rw[hc] at h
   cases o with
   | ret v =>
     simp only[fin,Bool.false_eq_true,if_false] at h
     split at h
     ·rename_i y hy
      split at h
      ·simp only[Option.some.injEq,Prod.mk.injEq,Re.val.injEq,V.d.injEq] at h
       exact⟨n,v,h',hn,by rw[hy,h.1]⟩
      ·cases h
     ·cases h
   | pan v =>
     simp only[fin] at h
     split at h
     ·simp at h
     ·cases h
theorem calls_of {f:FuncId}{args:List V}{x:D}{b i:Nat}{W:World}{cargs:Array Value} (hL:Laid b i W) (h:callV cS false (fnV f) args (H0 i)=some (.val (.d x),H0 i)) (hv:HVs (Own X0 (mu0 b) (H0 i)) (mu0 b) (H0 i) (H0 i).length W args cargs) :
 Calls Tryz.prog f cargs W fun e W'=>∃ c O,e=.returned c∧HD O W' x c∧Kept W W':=by
 obtain⟨n,v,h',hn,hf⟩:=callV_run h
 have hmix:Tryz.prog.follows .mixedOrders=true:=by kernel_rfl
 refine((callN_ok SOkS hmix n).fn f args (H0 i) _ hn X0 (mu0 b) W cargs rfl hL.inv (gl0 i b) hv).mono fun e W' he=>?_
 obtain⟨c,hc,μ',hi,hx,hvc⟩:=he
 refine⟨c,_,hc,fz_ok hi 8 hf hvc,hx.os,hx.output,hx.size,fun b' hb=>hx.blk b' hb (own0 i b b')⟩
end
section
open Go Num
def flatT (P:Program):Nat→TypeId→Bool
 | 0,_=>false
 | n+1,t=>match P.underlying t with
   | some .bool=>true
   | some (.int _)=>true
   | some .string=>true
   | some (.struct fs)=>fs.toList.all fun f=>flatT P n f.type
   | some (.array _ e)=>flatT P n e
   | _=>false
theorem mapM_flat {α β:Type}{f g:α→Option β}{Q:β→Prop}:∀ {l:List α}{r:List β},(∀ a∈l,∀ b,f a=some b→g a=some b∧Q b)→l.mapM f=some r→l.mapM g=some r∧∀ b∈r,Q b
 | [],r,_,h=>by
   simp at h;subst h;simp
 | a::l,r,hq,h=>by
   rw[List.mapM_cons] at h ⊢
   simp only[bind,Option.bind_eq_some_iff,pure,Option.some.injEq] at h
   obtain⟨b,hb,bs,hbs,rfl⟩:=h
   obtain⟨h1,h2⟩:=hq a (by simp) b hb
   obtain⟨h3,h4⟩:=mapM_flat (fun a ha b hb=>hq a (by simp[ha]) b hb) hbs
   refine⟨by simp[h1,h3],?_⟩
   intro x hx
   rcases List.mem_cons.1 hx with rfl | hx
   ·exact h2
   ·exact h4 x hx
theorem flatMap_nil {α β:Type}{l:List (α×List β)} (h:∀ x∈l,x.2=[]):l.flatMap (·.2)=[]:=by
 rw[List.flatMap_eq_nil_iff];exact h
theorem trod_flat {H:Type}{enc:TypeId×Value→H}{P:Program}{w w':World}{base base':Nat}{sp sp':Nat→Bool}{held held':Bool}:∀ (fuel n:Nat) (t:TypeId) (cs:List Value) (d:DataW H) (ps:List MemPlace),
 flatT P n t=true→DataW.trod enc P w base sp held fuel t cs=some (d,ps)→DataW.trod enc P w' base' sp' held' fuel t cs=some (d,ps)∧ps=[]:=by
 intro fuel
 induction fuel with
 | zero=>intro n t cs d ps _ h;simp[DataW.trod] at h
 | succ fuel ih =>
   intro n t cs d ps hf h
   cases n with
   | zero=>simp[flatT] at hf
   | succ n =>
     unfold flatT at hf
     split at hf
     ·rename_i hu
      obtain⟨b,rfl,hx⟩:=DataW.trod_bool hu h
      cases hx
      exact⟨by simp[DataW.trod,hu],rfl⟩
     ·rename_i k hu
      obtain⟨b,rfl,hx,hw⟩:=DataW.trod_int hu h
      cases hx
      exact⟨by simp[DataW.trod,hu,hw],rfl⟩
     ·rename_i hu
      simp only[DataW.trod,hu] at h ⊢
      split at h<;>first | (simp_all;done) | (split at h<;>simp_all)
     ·rename_i fs hu
      simp only[DataW.trod,hu] at h ⊢
      split at h
      ·rename_i hl
       rw[if_pos hl]
       obtain⟨xs,hm,hx⟩:=Option.map_eq_some_iff.1 h
       obtain⟨h1,h2⟩:=mapM_flat (g:=fun f:Field=>DataW.trod enc P w' base' sp' held' fuel f.type ((cs.drop f.offset).take (P.cellsOf f.type))) (Q:=fun x=>x.2=[]) (fun f hfm x hx=>ih n f.type _ x.1 x.2 (List.all_eq_true.1 hf f hfm) hx) hm
       rw[h1]
       cases hx
       exact⟨rfl,flatMap_nil h2⟩
      ·cases h
     ·rename_i m e hu
      simp only[DataW.trod,hu] at h ⊢
      split at h
      ·rename_i hl
       rw[if_pos hl]
       obtain⟨xs,hm,hx⟩:=Option.map_eq_some_iff.1 h
       obtain⟨h1,h2⟩:=mapM_flat (g:=fun i:Nat=>DataW.trod enc P w' base' sp' held' fuel e ((cs.drop (i*P.cellsOf e)).take (P.cellsOf e))) (Q:=fun x=>x.2=[]) (fun i _ x hx=>ih n e _ x.1 x.2 hf hx) hm
       rw[h1]
       cases hx
       exact⟨rfl,flatMap_nil h2⟩
      ·cases h
     ·cases hf
theorem trodAll_flat {H:Type}{enc:TypeId×Value→H}{P:Program}{w w':World}{base base':Nat}{sp sp':Nat→Bool}{held held':Bool} (n:Nat):∀ (ts:List TypeId) (vs:List Value) (ds:List (DataW H)) (ps:List MemPlace),
 ts.all (flatT P n)=true→DataW.TrodAll enc P w base sp held ts vs ds ps→DataW.TrodAll enc P w' base' sp' held' ts vs ds []∧ps=[]
 | [],[],[],ps,_,h=>⟨rfl,h⟩
 | t::ts,v::vs,d::ds,ps,hf,h=>by
   obtain⟨p,q,⟨fuel,h1⟩,h2,rfl⟩:=h
   simp only[List.all_cons,Bool.and_eq_true] at hf
   obtain⟨h3,rfl⟩:=trod_flat (w':=w') (base':=base') (sp':=sp') (held':=held') fuel n t _ d p hf.1 h1
   obtain⟨h4,rfl⟩:=trodAll_flat (w':=w') (base':=base') (sp':=sp') (held':=held') n ts vs ds q hf.2 h2
   exact⟨⟨[],[],⟨fuel,h3⟩,h4,rfl⟩,rfl⟩
 | [],[],_::_,_,_,h=>h.elim
 | [],_::_,_,_,_,h=>h.elim
 | _::_,[],_,_,_,h=>h.elim
 | _::_,_::_,[],_,_,h=>h.elim
theorem post_true {H:Type}{enc:TypeId×Value→H}{P:Program}{f:Func}{s:ChangeSpec}{apart fresh handsOn again:Bool}{W W':World}{args:Array Value}{ds gs:List (DataW H)}{before:List MemPlace}{n:Nat}{t:TypeId}
 (hW:DataW.Whole enc P f.params.toList s.vars apart W args.toList ds gs before) (hp:f.params.toList.all (flatT P n)=true) (hvars:s.vars=[]) (hr:f.resultTypes = #[t]) (ht:P.underlying t=some .bool)
 (hs:(s.fn H (ds++gs)).results=[.lit (.bool true)]∧(s.fn H (ds++gs)).args=ds++gs∧(s.fn H (ds++gs)).vars=[]) (hK:Kept W W') :
 s.post enc P f apart fresh handsOn again W args (.bool true) W':=by
 have hW0:=hW
 obtain⟨p,q,h1,h2,rfl,hz,hn⟩:=hW
 rw[hvars] at h2
 obtain⟨hall,rfl⟩:=trodAll_flat (w':=W') (base':=0) (sp':=fun _=>true) (held':=true) n _ _ _ _ hp h1
 have hall2:=fun sp=>(trodAll_flat (w':=W') (base':=0) (sp':=sp) (held':=true) n _ _ _ _ hp h1).1
 cases gs with
 | cons g gs=>exact h2.elim
 | nil =>
   have hq:q=[]:=h2
   subst hq
   obtain⟨s1,s2,s3⟩:=hs
   have hbool:∀ (b:Nat) (sp:Nat→Bool) (hd:Bool),DataW.TrodAll enc P W' b sp hd [t] [.bool true] [.lit (.bool true)] []:=fun b sp hd=>⟨[],[],RowKit.shut_bool ht true,rfl,rfl⟩
   have hres:∀ (b:Nat) (sp:Nat→Bool) (hd:Bool),DataW.TrodAll enc P W' b sp hd f.resultTypes.toList ((Value.bool true).resultList f.resultTypes.size) (s.fn H (ds++[])).results []:=by
    intro b sp hd
    rw[hr,s1]
    exact hbool b sp hd
   refine⟨ds,[],_,[],[],[],hW0,hres _ _ _,?_,?_,hK.but _,fun _=>⟨?_,[.lit (.bool true)]++ds,[],[],?_,?_⟩⟩
   ·rw[s2,List.append_nil];exact hall2 _
   ·rw[hvars,s3];exact rfl
   ·intro j u r hj hv
    rw[hr] at hj hv
    cases j with
    | zero =>
      cases hj
      have hv':r=.bool true:=by simp[Value.resultList] at hv;exact hv.symm
      subst hv'
      exact RowKit.okWide_bool_mk ht true
    | succ j=>simp at hj
   ·refine⟨[],[],?_,by rw[hvars];exact rfl,rfl,fun b off hp=>by simp at hp,fun _=>by simp⟩
    rw[hr]
    refine⟨[],[],RowKit.shut_bool ht true,hall,rfl⟩
   ·intro p hp;simp at hp
theorem trod_ints {H:Type}{enc:TypeId×Value→H}{P:Program}{w:World}{base:Nat}{sp:Nat→Bool}{held:Bool}{fuel:Nat}{t e:TypeId}{n:Nat}{k:IntKind}{cs:List Value}{d:DataW H}{p:List MemPlace}
 (ht:P.underlying t=some (.array n e)) (he:P.underlying e=some (.int k)) (hce:P.cellsOf e=1) (hct:P.cellsOf t=n)
 (h:DataW.trod enc P w base sp held fuel t cs=some (d,p)):∃ zs:List Int,zs.length=n∧cs=zs.map (Value.int k)∧∀ z∈zs,(Lit.int k z).wf=true:=by
 cases fuel with
 | zero=>simp[DataW.trod] at h
 | succ fuel =>
   simp only[DataW.trod,ht,hce,hct,Nat.mul_one] at h
   split at h
   ·rename_i hl
    obtain⟨xs,hm,hx⟩:=Option.map_eq_some_iff.1 h
    have hxl:xs.length=n:=by simpa using Lib.mapM_length hm
    have hg:∀ i,i<n→∃ z,cs[i]? = some (Value.int k z)∧(Lit.int k z).wf=true:=by
     intro i hi
     obtain⟨b,hb,hf⟩:=Lib.mapM_at hm i i (by simp[hi])
     obtain⟨z,hc,_,hw⟩:=DataW.trod_int he hf
     refine⟨z,?_,hw⟩
     have:=congrArg (·[0]?) hc
     simpa[List.getElem?_take,List.getElem?_drop] using this
    refine⟨cs.map fun c=>match c with | .int _ z=>z | _=>0,by simp[hl],?_,?_⟩
    ·apply List.ext_getElem?
     intro i
     by_cases hi:i<n
     ·obtain⟨z,h1,_⟩:=hg i hi
      simp[h1]
     ·rw[List.getElem?_eq_none (by omega),List.getElem?_eq_none (by simp<;>omega)]
    ·intro z hz
     rw[List.mem_map] at hz
     obtain⟨c,hc,rfl⟩:=hz
     obtain⟨i,hi,rfl⟩:=List.mem_iff_getElem.1 hc
     obtain⟨z,h1,h2⟩:=hg i (by omega)
     rw[List.getElem?_eq_getElem hi] at h1
     have e:cs[i]=Value.int k z:=Option.some.inj h1
     simp only[e];exact h2
   ·cases h
theorem wf64 {n:Int} (h:(Lit.int .i64 n).wf=true):I64 n:=by
 simp only[Lit.wf,Bool.and_eq_true,decide_eq_true_eq] at h
 have h1:IntKind.i64.min=-9223372036854775808:=by rfl
 have h2:IntKind.i64.max=9223372036854775807:=by rfl
 unfold I64
 omega
theorem arr_arg {H:Type}{enc:TypeId×Value→H}{P:Program}{W w:World}{r:Reach}{b0 base:Nat}{sp:Nat→Bool}{held:Bool}{t e:TypeId}{n:Nat}{v:Value}{d:DataW H}{ps:List MemPlace}
 (ht:P.underlying t=some (.array n e)) (he:P.underlying e=some (.int .i64)) (hce:P.cellsOf e=1) (hct:P.cellsOf t=n)
 (hval:Value.okWide P W r b0 t v) (hd:DataW.Trod enc P w base sp held t v d ps):∃ zs:List Int,zs.length=n∧v=.agg (zs.map (Value.int .i64)).toArray∧∀ z∈zs,I64 z:=by
 simp only[Value.okWide,ht] at hval
 obtain⟨cs,rfl,_,_⟩:=hval
 obtain⟨fuel,hf⟩:=hd
 obtain⟨zs,h1,h2,h3⟩:=trod_ints ht he hce hct hf
 refine⟨zs,h1,?_,fun z hz=>wf64 (h3 z hz)⟩
 simp only[Value.cells] at h2
 rw[← h2]
theorem HD_arr {O:Bs}{w:World} (zs:List Int):HD O w (.agg (zs.map (D.i .i64))) (.agg (zs.map (Value.int .i64)).toArray):=by
 refine .agg _ _ (by simp) fun j v hv=>?_
 rw[List.getElem?_map] at hv
 cases hz:zs[j]? with
 | none=>rw[hz] at hv;cases hv
 | some z =>
   rw[hz] at hv
   cases hv
   rw[Array.getD_eq_getD_getElem?]
   simp only[List.getElem?_toArray,List.getElem?_map,hz,Option.map_some,Option.getD_some]
   exact .i _ _
theorem list4 {l:List Int} (h:l.length=4):∃ a b c d,l=[a,b,c,d]:=by
 match l,h with
 | [a,b,c,d],_=>exact⟨a,b,c,d,rfl⟩
theorem list2 {l:List Int} (h:l.length=2):∃ a b,l=[a,b]:=by
 match l,h with
 | [a,b],_=>exact⟨a,b,rfl⟩
end
section
open Go Num
theorem LaidVars_at {P:Program}{w:World}:∀ {l:List (String×DataW Unit)}{ps:List MemPlace},DataW.LaidVars P w l ps→∀ n d,(n,d)∈l →
 ∃ g t cs fuel p,P.globalNamed n=some g∧(P.globals[g]?).map (·.type)=some t∧w.var? P n=some cs∧DataW.trod (fun _=>()) P w 0 (fun _=>true) false fuel t cs.toList=some (d,p)∧∀ x∈MemPlace.row ⟨g,0,none⟩ cs.size,x∈ps
 | [],_,_,_,_,hm=>by cases hm
 | (n',d')::r,ps,h,n,d,hm=>by
   obtain⟨g,t,cs,fuel,p,q,h1,h2,h3,h4,h5,h6⟩:=h
   rcases List.mem_cons.1 hm with e | e
   ·cases e
    refine⟨g,t,cs,fuel,p,h1,h2,h3,h4,fun x hx=>?_⟩
    rw[h6];simp[hx]
   ·obtain⟨g',t',cs',fuel',p',k1,k2,k3,k4,k5⟩:=LaidVars_at h5 n d e
    refine⟨g',t',cs',fuel',p',k1,k2,k3,k4,fun x hx=>?_⟩
    rw[h6];simp[k5 x hx]
theorem var_heap {P:Program}{w:World}{n:String}{g:Nat}{cs:Array Value} (hg:P.globalNamed n=some g) (h:w.var? P n=some cs):∃ e z,w.heap[g]? = some (.cells cs e z):=by
 unfold World.var? at h
 rw[hg] at h
 simp only[Option.bind_some] at h
 split at h
 ·rename_i c e z he;cases h;exact⟨e,z,he⟩
 ·cases h
theorem tab_cells {W:World}{fuel:Nat}{cs:List Value}{p:List MemPlace}{t:TypeId} (ht:(Tryz.prog.globals[4]?).map (·.type)=some t) (h:DataW.trod (fun _=>()) Tryz.prog W 0 (fun _=>true) false fuel t cs=some (Rows.laid_internal_strconv_uint64pow10,p)):cs=Lib.pow10Tab.map fun z=>Value.int .u64 z:=by
 have e:(Rows.laid_internal_strconv_uint64pow10:DataW Unit)=Lib.tabData .u64 Lib.pow10Tab:=by rfl
 rw[e] at h
 have e2:(Tryz.prog.globals[4]?).map (·.type)=some 217:=by kernel_rfl
 rw[e2] at ht
 cases ht
 have e3:Tryz.prog.underlying 217=some (.array 20 180):=by kernel_rfl
 have e4:Tryz.prog.underlying 180=some (.int .u64):=by kernel_rfl
 exact Lib.cells_of_tab e3 e4 (by kernel_rfl) (by kernel_rfl) h
theorem sentinel_row (u : TypeId) (hu : Tryz.prog.typeName? 3 u = some "*errors.errorString") : u = 227 :=
 typeName_ptr_named (P := Tryz.prog) (nm := "errors.errorString") (tp := 227) (by kernel_rfl) (by kernel_rfl) (by decide) u hu
theorem laid_of {W : World} {l : List (String × DataW Unit)} (hp : (l.all fun x => x.2.handleName?.isNone) = true) (hL : laidMetH Tryz.prog l W) (m1 : ("workpiece/enclosure.errFails", Rows.laid_workpiece_enclosure_errFails) ∈ l)
 (m2 : ("internal/strconv.uint64pow10", Rows.laid_internal_strconv_uint64pow10) ∈ l) : ∃ b i, Laid b i W := by
 rw[MakeChecks.laidMetH_plain _ _ _ hp] at hL
 obtain⟨ps,hv,_,hc⟩:=hL
 obtain⟨g1,t1,cs1,f1,p1,a1,a2,a3,a4,a5⟩:=LaidVars_at hv _ _ m1
 obtain⟨g2,t2,cs2,f2,p2,b1,b2,b3,b4,b5⟩:=LaidVars_at hv _ _ m2
 have n1 : Tryz.prog.globalNamed "workpiece/enclosure.errFails" = some 0 := by kernel_rfl
 have n2 : Tryz.prog.globalNamed "internal/strconv.uint64pow10" = some 4 := by kernel_rfl
 rw[n1] at a1
 cases a1
 rw[n2] at b1
 cases b1
 obtain⟨e1,z1,h1⟩:=var_heap n1 a3
 obtain⟨e2,z2,h2⟩:=var_heap n2 b3
 have hcs2:cs2=(Lib.pow10Tab.map fun z=>Value.int .u64 z).toArray:=by
  have:=tab_cells b2 b4
  rw[← this]
 have ty1:(Tryz.prog.globals[0]?).map (·.type)=some 113:=by kernel_rfl
 rw[ty1] at a2
 cases a2
 obtain⟨a,s,hcs1,ha,_,_,_⟩:=errorString_of_trod (P:=Tryz.prog) (tp:=227) (te:=229) (ts:=9) Tryz.underlying113 sentinel_row Tryz.underlying227 Tryz.underlying229 rfl rfl Tryz.underlying9 (by kernel_rfl) (by kernel_rfl) a4 (fun u v huv=>by
  have hx:MemPlace.cell 0 0∈ps:=a5 _ (by
   have hs:cs1.size=1:=by
    have:=congrArg List.length huv
    simpa using this
   simp[MemPlace.row,hs])
  refine(hc _ 0 hx).2 u v ?_
  unfold World.cell?
  rw[h1]
  have:cs1[0]? = some (.iface u v):=by
   have:=congrArg (fun l=>l[0]?) huv
   simpa using this
  simp[this])
 have hcs1':cs1 = #[.iface 227 (.pointer (some a))]:=by
  rw[← Array.toList_inj,hcs1]
 have hsp:a.spot=none:=by
  unfold World.cell? at ha
  split at ha
  ·split at ha
   ·cases ha
   ·rename_i hs;simpa using hs
  ·cases ha
 refine⟨a.block,a.off,⟨⟨e1,z1,?_⟩,⟨e2,z2,by rw[h2,hcs2]⟩⟩⟩
 rw[h1,hcs1']
 obtain⟨b,i,sp⟩:=a
 cases hsp
 rfl
end
section
open Go Num
theorem RAdd_ok (a b c d:List UInt8) (H:Hp) (hG:Glb H):callV cS false (fnV 24) [.d (.agg [.s a,.s b]),.d (.agg [.s c,.s d])] H=some (.val (.d (opQ (sumD fun x y=>x+y) errR a b c d)),H):=by
 rw[callV_fn (sf:=c24) rfl rfl rfl rfl]
 have hs:=sum_ok 71 (fun x y=>x+y) (fun x y h hG fx fy=>by rw[Add_ok _ _ _ hG,opI_txt fx fy]) a b c d (ratBox [] []::ratBox c d::ratBox a b::H) (((hG.cons _).cons _).cons _)
 obtain⟨s,t,e,he⟩:=sumD_form (fun x y=>x+y) a b c d
 rw[he] at hs ⊢
 simp only[ratBox] at hs
 simp[c24,b24,put,eset,eget,D.cells,V.cells,allD,hget,hset,fz,zC,zN,hs]
open Classical in
noncomputable def sumO (op:Int→Int→Int) (p q:Rat):Option Rat:=if Fits (p.num*q.den)∧Fits (q.num*p.den) then twoQ (op (p.num*q.den) (q.num*p.den)) ((p.den:Int)*q.den) else none
theorem oneD_sum (op:Int→Int→Int) (p q:Rat):oneD (sumD op p q)=(sumO op p q).map dR:=by
 unfold sumD sumO
 split
 ·exact oneD_two _ _
 ·rfl
theorem sumO_fits {op:Int→Int→Int}{p q r:Rat} (h:sumO op p q=some r):RFits r:=by
 unfold sumO at h
 split at h
 ·simp only[twoQ] at h
  split at h
  ·rename_i h;cases h;exact divInt_fits h.1 h.2.1 h.2.2
  ·cases h
 ·cases h
theorem sumD_form1 (op:Int→Int→Int) (p q:Rat):∃ s t e,sumD op p q=D.tup [.agg [.s s,.s t],.i .i64 e]:=by
 unfold sumD
 split
 ·exact two_form _ _
 ·exact⟨_,_,_,rfl⟩
theorem sum_OpF {f:FuncId}{op:Int→Int→Int} (hf:∀ a b c d H,Glb H→callV cS false (fnV f) [.d (.agg [.s a,.s b]),.d (.agg [.s c,.s d])] H=some (.val (.d (opQ (sumD op) errR a b c d)),H)):OpF f (sumO op):=by
 intro p q fp fq
 refine⟨sumD op p q,sumD_form1 op p q,fun G hG=>?_,oneD_sum op p q,fun r hr=>sumO_fits hr⟩
 have:=hf (txt p.num) (txt p.den) (txt q.num) (txt q.den) G hG
 have he:opQ (sumD op) errR (txt p.num) (txt p.den) (txt q.num) (txt q.den)=sumD op p q:=by simp only[opQ,RQ_txt fp,RQ_txt fq]
 rw[he] at this
 exact this
theorem add_OpF:OpF 24 (sumO fun x y=>x+y):=sum_OpF RAdd_ok
theorem sub_OpF:OpF 18 (sumO fun x y=>x-y):=sum_OpF RSub_ok
noncomputable def pairO (x y:Option Rat):Option D:=match x,y with
 | some a,some b=>some (dI4 a b)
 | _,_=>none
theorem pairO_form (x y:Option Rat):∀ z,pairO x y=some z→∃ s t u v,z=.agg [.s s,.s t,.s u,.s v]:=by
 intro z hz
 unfold pairO dI4 at hz
 split at hz
 ·cases hz;exact⟨_,_,_,_,rfl⟩
 ·cases hz
end
end Go.Proofs.YtmiioebapckcoaaGreatDoor
