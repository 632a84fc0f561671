/- Part 13 of a proof: the small semantics, its soundness, the functions of the program in it, and the law. -/
import Derived.Test.YtmiioebapckcoaaGreatDoorJl
set_option linter.unusedVariables false
set_option linter.unusedSimpArgs false
set_option maxRecDepth 4000
namespace Go.Proofs.YtmiioebapckcoaaGreatDoor
section
open Go Num
theorem txt_eq_zero {z:Int}:txt z=[48]↔z=0:=⟨fun h=>txt_inj (h.trans txt_zero.symm),fun h=>by rw[h,txt_zero]⟩
theorem Div3_ok (a b:List UInt8) (sa:Short a) (sb:Short b) (H:Hp):callV cS false (fnV 98) [.d (.s a),.d (.s b)] H=some (.val (.d (opI divD errD a b)),H):=by
 rw[callV_fn (sf:=c98) rfl rfl rfl rfl]
 have v1:=Valid3_ok a sa
 have v2:=Valid3_ok b sb
 rcases ival_cases a b with ⟨x,y,ha,hb⟩ | h
 ·rw[opI_some ha hb]
  rw[ha] at v1
  rw[hb] at v2
  have hbt:=(ival_some hb).2
  by_cases hy:y=0
  ·subst hy
   have hb0:b=[48]:=by rw[hbt,txt_zero]
   subst hb0
   simp[c98,b98,put,eset,eget,D.cells,V.cells,allD,hget,hset,fz,zC,zN,v1,v2,divD,errD]
  ·have hbne:b≠[48]:=by rw[hbt];exact fun h=>hy (txt_eq_zero.1 h)
   have hbb:(b==[48])=false:=by rw[beq_eq_false_iff_ne];exact hbne
   have d1:=call_digits ha
   have d2:=call_digits hb
   have lx:=fits_len10 (ival_fits ha)
   have ly:=fits_len10 (ival_fits hb)
   have hyn:0<y.natAbs:=by omega
   have h2:=divided_ok x.natAbs y.natAbs hyn (by omega) (by omega)
   obtain⟨p1,p2⟩:=div_parts x y hy
   obtain⟨f1,f2⟩:=ediv_fits (ival_fits ha) (ival_fits hb) hy
   have g1:=fitD_of f1
   have hlq:(digs 10 (x.natAbs/y.natAbs)).length≤200:=Nat.le_trans (len10_le (Nat.div_le_self _ _)) lx
   have hml:=Nat.mod_lt x.natAbs hyn
   have hlr:(digs 10 (x.natAbs%y.natAbs)).length≤200:=Nat.le_trans (len10_le (Nat.le_of_lt hml)) ly
   have hdv:divD x y=.tup [.s (txt (x/y)),.s (txt (x%y)),.i .i64 0]:=by unfold divD;rw[if_neg hy]
   rw[hdv]
   simp only[nl] at h2
   by_cases hc:x<0∧0<x.natAbs%y.natAbs
   ·obtain⟨e1,e2⟩:=p1 hc.1 hc.2
    have d1':digs 10 1=[1]:=by rw[digs_pos (by omega) (by omega)];simp[digs_zero]
    have hl1:(digs 10 (x.natAbs/y.natAbs+1)).length≤201:=len10_add hlq (by rw[d1'];simp)
    have h3:=checked_ok (decide (x<0) != decide (y<0)) (x.natAbs/y.natAbs+1) (by omega)
    rw[e1,g1] at h3
    have hl2:(digs 10 (y.natAbs-x.natAbs%y.natAbs)).length≤200:=Nat.le_trans (len10_le (Nat.sub_le _ _)) ly
    have h4:=text3_ok false (y.natAbs-x.natAbs%y.natAbs) (by omega)
    simp only[txtD3] at h4
    rw[show sg false (y.natAbs-x.natAbs%y.natAbs)=x%y from e2] at h4
    have h5:=plus3_ok (x.natAbs/y.natAbs) 1 (by omega) (by rw[d1'];simp)
    rw[d1'] at h5
    have h6:=minus3_ok y.natAbs (x.natAbs%y.natAbs) (Nat.le_of_lt hml) (by omega)
    simp only[nl] at h3 h4 h5 h6
    obtain⟨q,hq⟩:∃ q,q=x.natAbs/y.natAbs:=⟨_,rfl⟩
    obtain⟨r,hr⟩:∃ r,r=x.natAbs%y.natAbs:=⟨_,rfl⟩
    rw[← hq,← hr] at h2
    rw[← hq] at h5 h3
    rw[← hr] at h6 h4 hc
    have hrl:0<(digs 10 r).length:=by
     refine List.length_pos_iff.2 fun h=>?_
     have:=(digs_eq_nil (b:=10) (by omega)).1 h;omega
    have hrl':¬ (digs 10 r)=[]:=fun h=>by rw[h] at hrl;simp at hrl
    obtain⟨bY,hby⟩:∃ bY,bY=decide (y<0):=⟨_,rfl⟩
    have hbx:decide (x<0)=true:=by simp[hc.1]
    obtain⟨okb,hok⟩:∃ okb,okb=decide (y.natAbs-r<10 ^ 200):=⟨_,rfl⟩
    rw[← hok] at h4
    rw[hbx] at d1 h3
    rw[← hby] at d2 h3
    simp only[bne,Bool.true_beq,Bool.false_beq,Bool.not_not] at h3
    simp only[nI,List.map_cons,List.map_nil,show ((1:Nat):Int)=1 from rfl] at h5
    simp[c98,b98,put,eset,eget,D.cells,V.cells,allD,hget,hset,fz,zC,zN,v1,v2,hbne,hbb,d1,d2,h2,h3,h4,h5,h6,hrl,hrl',setParts,chunk1,allCellsD]
   ·obtain⟨e1,e2⟩:=p2 hc
    have h3:=checked_ok (decide (x<0) != decide (y<0)) (x.natAbs/y.natAbs) (by omega)
    rw[e1,g1] at h3
    have h4:=text3_ok false (x.natAbs%y.natAbs) (by omega)
    simp only[txtD3] at h4
    rw[show sg false (x.natAbs%y.natAbs)=x%y from e2] at h4
    simp only[nl] at h3 h4
    obtain⟨q,hq⟩:∃ q,q=x.natAbs/y.natAbs:=⟨_,rfl⟩
    obtain⟨r,hr⟩:∃ r,r=x.natAbs%y.natAbs:=⟨_,rfl⟩
    rw[← hq,← hr] at h2
    rw[← hq] at h3
    rw[← hr] at h4 hc
    obtain⟨okb,hok⟩:∃ okb,okb=decide (r<10 ^ 200):=⟨_,rfl⟩
    rw[← hok] at h4
    obtain⟨bY,hby⟩:∃ bY,bY=decide (y<0):=⟨_,rfl⟩
    rw[← hby] at d2 h3
    by_cases hx:x<0
    ·have hr0:r=0:=by
      have:¬ 0<r:=fun h=>hc ⟨hx,h⟩
      omega
     subst hr0
     have hbx:decide (x<0)=true:=by simp[hx]
     rw[hbx] at d1 h3
     simp only[bne,Bool.true_beq,Bool.false_beq,Bool.not_not] at h3
     simp only[digs_zero,List.map_nil] at h2 h4
     simp[c98,b98,put,eset,eget,D.cells,V.cells,allD,hget,hset,fz,zC,zN,v1,v2,hbne,hbb,d1,d2,h2,h3,h4]
    ·have hbx:decide (x<0)=false:=by simp[hx]
     rw[hbx] at d1 h3
     simp only[bne,Bool.true_beq,Bool.false_beq,Bool.not_not] at h3
     simp[c98,b98,put,eset,eget,D.cells,V.cells,allD,hget,hset,fz,zC,zN,v1,v2,hbne,hbb,d1,d2,h2,h3,h4]
 ·rw[opI_none h]
  by_cases ha:ival a=none
  ·rw[ha] at v1
   simp[c98,b98,put,eset,eget,D.cells,V.cells,allD,hget,hset,fz,zC,zN,v1,errD]
  ·have hb:ival b=none:=by rcases h with h | h;exact absurd h ha;exact h
   rw[hb] at v2
   have ha':(ival a).isSome=true:=Option.isSome_iff_ne_none.2 ha
   rw[ha'] at v1
   simp[c98,b98,put,eset,eget,D.cells,V.cells,allD,hget,hset,fz,zC,zN,v1,v2,errD]
theorem gcd3_loop (h:Hp):∀ (b a:Nat),(digs 10 a).length≤200→(digs 10 b).length≤200 →
 evI cS (.loop l81_0) none [(7,.d (.ls ((digs 10 a).map nI))),(9,.d (.ls ((digs 10 b).map nI)))] h=some (.ex 0,[(7,.d (.ls ((digs 10 (Nat.gcd a b)).map nI))),(9,.d (.ls [])),(32,.d (.b false))],h):=by
 intro b
 induction b using Nat.strongRecOn with
 | _ b ih =>
   intro a la lb
   rw[evI_loop]
   by_cases hb:b=0
   ·subst hb
    simp[l81_0,put,eset,eget,D.cells,V.cells,allD,hget,hset,fz,zC,zN,digs_zero]
   ·have hm:=Nat.mod_lt a (show 0<b by omega)
    have hih:=ih (a%b) hm b lb (Nat.le_trans (len10_le (Nat.le_of_lt hm)) lb)
    have h2:=divided_ok a b (by omega) (by omega) (by omega) h
    simp only[nl] at h2
    have hpos:0<(digs 10 b).length:=List.length_pos_iff.2 fun h=>hb ((digs_eq_nil (b:=10) (by omega)).1 h)
    have hne:¬ digs 10 b=[]:=fun h=>hb ((digs_eq_nil (b:=10) (by omega)).1 h)
    have hg:Nat.gcd b (a%b)=Nat.gcd a b:=by rw[Nat.gcd_comm b (a%b),← Nat.gcd_rec,Nat.gcd_comm]
    rw[hg] at hih
    simp only[l81_0,o1,mv] at hih
    simp[l81_0,put,eset,eget,D.cells,V.cells,allD,hget,hset,fz,zC,zN,hpos,hne,h2,hih]
theorem Gcd3_ok (a b:List UInt8) (sa:Short a) (sb:Short b) (H:Hp):callV cS false (fnV 81) [.d (.s a),.d (.s b)] H=some (.val (.d (opI (fun x y=>fitD (Int.gcd x y:Nat)) errI a b)),H):=by
 rw[callV_fn (sf:=c81) rfl rfl rfl rfl]
 have v1:=Valid3_ok a sa
 have v2:=Valid3_ok b sb
 rcases ival_cases a b with ⟨x,y,ha,hb⟩ | h
 ·rw[opI_some ha hb]
  rw[ha] at v1
  rw[hb] at v2
  have d1:=call_digits ha
  have d2:=call_digits hb
  have lx:=fits_len10 (ival_fits ha)
  have ly:=fits_len10 (ival_fits hb)
  have h2:=gcd3_loop H y.natAbs x.natAbs lx ly
  have hg:Nat.gcd x.natAbs y.natAbs=Int.gcd x y:=rfl
  have lg:(digs 10 (Int.gcd x y)).length≤200:=by
   rw[← hg]
   by_cases h0:x.natAbs=0
   ·rw[h0,Nat.gcd_zero_left];exact ly
   ·exact Nat.le_trans (len10_le (Nat.gcd_le_left _ (by omega))) lx
  have h3:=checked_ok false (Int.gcd x y) (by omega)
  rw[show sg false (Int.gcd x y)=(Int.gcd x y:Nat) from rfl] at h3
  obtain⟨s,e,he⟩:=fitD_tup (Int.gcd x y:Nat)
  rw[he] at h3 ⊢
  rw[hg] at h2
  simp only[nl] at h3
  simp[c81,b81,put,eset,eget,D.cells,V.cells,allD,hget,hset,fz,zC,zN,v1,v2,d1,d2,h2,h3]
 ·rw[opI_none h]
  by_cases ha:ival a=none
  ·rw[ha] at v1
   simp[c81,b81,put,eset,eget,D.cells,V.cells,allD,hget,hset,fz,zC,zN,v1,errI]
  ·have hb:ival b=none:=by rcases h with h | h;exact absurd h ha;exact h
   rw[hb] at v2
   have ha':(ival a).isSome=true:=Option.isSome_iff_ne_none.2 ha
   rw[ha'] at v1
   simp[c81,b81,put,eset,eget,D.cells,V.cells,allD,hget,hset,fz,zC,zN,v1,v2,errI]
end
section
open Go Num
def fiE (H:Hp) (n0:Int) (k:Nat) (n:Int):En:=[(0,.d (.i .i64 n0)),(3,.gr H.length k),(4,.d (.i .i64 n))]
theorem fromInt_loop (H:Hp) (n0:Int):∀ (m:Nat) (n:Int) (ds:List Nat),n.natAbs=m→-9223372036854775808≤n∧n<9223372036854775808→ds.length+m≤20000000000000000000→ds.length+(digs 10 m).length≤1000 →
 evI cS (.loop l113_0) none (fiE H n0 ds.length n) (.gr 3 1 (vl ds)::H)=some (.ex 0,fiE H n0 (ds++digs 10 m).length 0++[(10,.d (.b false))],.gr 3 1 (vl (ds++digs 10 m))::H):=by
 intro m
 induction m using Nat.strongRecOn with
 | _ m ih =>
   intro n ds hm hn hb hb2
   rw[evI_loop]
   by_cases h0:n=0
   ·subst h0
    have:m=0:=by omega
    subst this
    rw[digs_zero,List.append_nil]
    simp[l113_0,fiE,put,eset,eget,D.cells,V.cells,allD,hget,hset,fz,zC,zN]
   ·have hmp:0<m:=by omega
    have hq:(n.tdiv 10).natAbs=m/10:=by rw[Int.natAbs_tdiv,hm];rfl
    have hr:(n.tmod 10).natAbs=m%10:=by rw[Int.natAbs_tmod,hm];rfl
    have hdg:digs 10 m=m%10::digs 10 (m/10):=digs_pos (by omega) hmp
    have hih:=ih (m/10) (by omega) (n.tdiv 10) (ds++[m%10]) hq (by omega) (by simp<;>omega) (by rw[hdg] at hb2;simp at hb2 ⊢; omega)
    rw[hdg]
    rw[List.append_assoc,List.singleton_append] at hih
    rw[← hih]
    have hvl:=vl_len ds
    have hav:=allV ds
    have bnd:(ds.length+1)*8≤140737488355328:=by omega
    have bnd2:ds.length+1≤140737488355328:=by omega
    have hva:vl (ds++[m%10])=vl ds++[.d (.i .i64 ((m%10:Nat):Int))]:=by rw[vl_append];rfl
    obtain⟨q,hq'⟩:∃ q,q=n.tdiv 10:=⟨_,rfl⟩
    obtain⟨r,hr'⟩:∃ r,r=n.tmod 10:=⟨_,rfl⟩
    obtain⟨d,hd⟩:∃ d,d=((m%10:Nat):Int):=⟨_,rfl⟩
    have hrd:(if r<0 then -r else r)=d:=by rw[← hr'] at hr;split<;>omega
    have wq:IntKind.i64.wrap q=q:=wr64 (by omega) (by omega)
    have wr:IntKind.i64.wrap (-r)=-r:=wr64 (by rw[← hr'] at hr;omega) (by rw[← hr'] at hr;omega)
    rw[hva,← hd,← hq']
    obtain⟨v,hv⟩:∃ v,v=vl ds:=⟨_,rfl⟩
    rw[← hv] at hvl hav ⊢
    have hn0:(n != 0)=true:=by simp[h0]
    by_cases hneg:r<0
    ·rw[if_pos hneg] at hrd
     rw[hrd] at wr
     simp[l113_0,fiE,put,eset,eget,D.cells,V.cells,allD,hget,hset,fz,zC,zN,h0,hn0,← hq',← hr',hneg,hrd,wr,wq,evApp,elemsOf,allCells,allCellsD,setParts,chunk1,notGr,hvl,hav,bnd,bnd2]
    ·rw[if_neg hneg] at hrd
     have hnd:¬ d<0:=by omega
     simp[l113_0,fiE,put,eset,eget,D.cells,V.cells,allD,hget,hset,fz,zC,zN,h0,hn0,← hq',← hr',hnd,hrd,wq,evApp,elemsOf,allCells,allCellsD,setParts,chunk1,notGr,hvl,hav,bnd,bnd2]
theorem FromInt_ok (n:Int) (hn:-9223372036854775808≤n∧n<9223372036854775808) (H:Hp):callV cS false (fnV 113) [.d (.i .i64 n)] H=some (.val (.d (.s (txt n))),H):=by
 rw[callV_fn (sf:=c113) rfl rfl rfl rfl]
 have hl:(digs 10 n.natAbs).length≤20:=(digs_length_le (by omega)).2 (by omega)
 have h1:=fromInt_loop H n n.natAbs n [] rfl hn (by simp<;>omega) (by simp<;>omega)
 have h2:=text3_ok (decide (n<0)) n.natAbs (by omega)
 simp only[txtD3,sg_dZ] at h2
 rw[List.nil_append] at h1
 simp only[fiE,List.length_nil,show vl []=[] from rfl] at h1
 obtain⟨okb,hok⟩:∃ okb,okb=decide (n.natAbs<10 ^ 200):=⟨_,rfl⟩
 rw[← hok] at h2
 obtain⟨ds,hds⟩:∃ ds,ds=digs 10 n.natAbs:=⟨_,rfl⟩
 rw[← hds] at h1 h2
 have hvl:=vl_len ds
 simp only[nl] at h2
 simp[c113,b113,put,eset,eget,D.cells,V.cells,allD,hget,hset,fz,zC,zN,h1,frzV,hvl,allD_vl,h2]
end
section
open Go Num
def dR (q:Rat):D:=.agg [.s (txt q.num),.s (txt q.den)]
def dR0:D:=.agg [.s [],.s []]
def errR:D:=.tup [dR0,.i .i64 40]
theorem txt_short {z:Int} (h:Fits z):Short (txt z):=by
 have h1:=(fits_len z.natAbs).2 h
 unfold Short txt
 split<;>simp<;>omega
theorem ival_short {a:List UInt8}{x:Int} (h:ival a=some x):Short a:=by
 obtain⟨hf,rfl⟩:=ival_some h
 exact txt_short hf
theorem fits_zero:Fits 0:=by unfold Fits;exact Nat.pow_pos (by omega)
theorem fits_one:Fits 1:=by
 unfold Fits
 exact Nat.one_lt_pow (by omega) (by omega)
theorem ival_zero:ival [48]=some 0:=ival_txt fits_zero
theorem short48:Short [48]:=ival_short ival_zero
noncomputable def makeD (x y:Int):D:=if y=0 then errR else .tup [dR (Rat.divInt x y),.i .i64 0]
theorem opI_txt {f:Int→Int→D}{e:D}{x y:Int} (hx:Fits x) (hy:Fits y):opI f e (txt x) (txt y)=f x y:=opI_some (ival_txt hx) (ival_txt hy)
theorem fits_neg {x:Int} (h:Fits x):Fits (-x):=by unfold Fits at *; omega
theorem divInt_neg_neg (x y:Int) (hy:y≠0):Rat.divInt (-x) (-y)=Rat.divInt x y:=by rw[Rat.divInt_eq_divInt_iff (by omega) hy];grind
theorem divInt_parts (x y:Int) (hy:0<y):(Rat.divInt x y).num=x/(Int.gcd x y:Nat)∧((Rat.divInt x y).den:Int)=y/(Int.gcd x y:Nat):=by
 rw[Rat.num_divInt,Rat.den_divInt,if_neg (by omega),Int.sign_eq_one_of_pos hy,Int.one_mul,Int.gcd_comm]
 refine⟨rfl,?_⟩
 rw[Int.natCast_ediv]
 congr 1
 omega
theorem gcd_pos {x y:Int} (hy:y≠0):0<Int.gcd x y:=Int.gcd_pos_of_ne_zero_right x hy
theorem gcd_fits {x y:Int} (hfy:Fits y) (hy:y≠0):Fits (Int.gcd x y:Nat):=by
 unfold Fits at *
 have:=Int.gcd_le_natAbs_right x hy
 simp;omega
theorem Make3_ok (a b:List UInt8) (sa:Short a) (sb:Short b) (H:Hp):callV cS false (fnV 45) [.d (.s a),.d (.s b)] H=some (.val (.d (opI makeD errR a b)),H):=by
 rw[callV_fn (sf:=c45) rfl rfl rfl rfl]
 have v1:=Valid3_ok a sa
 have v2:=Valid3_ok b sb
 rcases ival_cases a b with ⟨x,y,ha,hb⟩ | h
 ·rw[opI_some ha hb]
  rw[ha] at v1
  rw[hb] at v2
  obtain⟨fx,rfl⟩:=ival_some ha
  obtain⟨fy,rfl⟩:=ival_some hb
  by_cases hy:y=0
  ·subst hy
   rw[txt_zero] at v2 ⊢
   simp[c45,b45,put,eset,eget,D.cells,V.cells,allD,hget,hset,fz,zC,zN,v1,v2,makeD,errR,dR0]
  ·have hbne:txt y≠[48]:=fun h=>hy (txt_eq_zero.1 h)
   have hbb:(txt y==[48])=false:=by rw[beq_eq_false_iff_ne];exact hbne
   have cmp:=Compare3_ok (txt y) [48] sb short48
   rw[opI_some (ival_txt fy) ival_zero] at cmp
   have hmk:makeD x y=.tup [dR (Rat.divInt x y),.i .i64 0]:=by unfold makeD;rw[if_neg hy]
   rw[hmk]
   have main:∀ (x' y':Int),Fits x'→Fits y'→0<y'→(∀ h,callV cS false (fnV 81) [.d (.s (txt x')),.d (.s (txt y'))] h=some (.val (.d (.tup [.s (txt (Int.gcd x' y':Nat)),.i .i64 0])),h)) ∧
    (∀ h,callV cS false (fnV 98) [.d (.s (txt x')),.d (.s (txt (Int.gcd x' y':Nat)))] h=some (.val (.d (.tup [.s (txt (Rat.divInt x' y').num),.s (txt (x'%(Int.gcd x' y':Nat))),.i .i64 0])),h)) ∧
    (∀ h,callV cS false (fnV 98) [.d (.s (txt y')),.d (.s (txt (Int.gcd x' y':Nat)))] h=some (.val (.d (.tup [.s (txt (Rat.divInt x' y').den),.s (txt (y'%(Int.gcd x' y':Nat))),.i .i64 0])),h)):=by
    intro x' y' fx' fy' hy'
    have hg:=gcd_pos (x:=x') (y:=y') (by omega)
    have fg:=gcd_fits (x:=x') fy' (by omega)
    obtain⟨p1,p2⟩:=divInt_parts x' y' hy'
    have hg0:((Int.gcd x' y':Nat):Int)≠0:=by omega
    refine⟨fun h=>?_,fun h=>?_,fun h=>?_⟩
    ·rw[Gcd3_ok _ _ (txt_short fx') (txt_short fy'),opI_txt fx' fy',fitD_of fg]
    ·rw[Div3_ok _ _ (txt_short fx') (txt_short fg),opI_txt fx' fg,divD,if_neg hg0,p1]
    ·rw[Div3_ok _ _ (txt_short fy') (txt_short fg),opI_txt fy' fg,divD,if_neg hg0,p2]
   by_cases hneg:y<0
   ·have hc:cmpI y 0=-1:=by unfold cmpI;rw[if_pos hneg]
    rw[hc] at cmp
    have s1:=Sub3_ok [48] (txt x) short48 sa
    rw[opI_some ival_zero (ival_txt fx),Int.zero_sub,fitD_of (fits_neg fx)] at s1
    have s2:=Sub3_ok [48] (txt y) short48 sb
    rw[opI_some ival_zero (ival_txt fy),Int.zero_sub,fitD_of (fits_neg fy)] at s2
    obtain⟨m1,m2,m3⟩:=main (-x) (-y) (fits_neg fx) (fits_neg fy) (by omega)
    rw[divInt_neg_neg x y hy] at m2 m3
    simp only[Int.gcd_neg,Int.neg_gcd] at m1 m2 m3
    simp[c45,b45,put,eset,eget,D.cells,V.cells,allD,hget,hset,fz,zC,zN,v1,v2,hbne,hbb,cmp,s1,s2,m1,m2,m3,dR]
   ·have hc:cmpI y 0=1:=by unfold cmpI;rw[if_neg hneg,if_pos (by omega)]
    rw[hc] at cmp
    obtain⟨m1,m2,m3⟩:=main x y fx fy (by omega)
    simp[c45,b45,put,eset,eget,D.cells,V.cells,allD,hget,hset,fz,zC,zN,v1,v2,hbne,hbb,cmp,m1,m2,m3,dR]
 ·rw[opI_none h]
  by_cases ha:ival a=none
  ·rw[ha] at v1
   simp[c45,b45,put,eset,eget,D.cells,V.cells,allD,hget,hset,fz,zC,zN,v1,v2,errR,dR0]
  ·have hb:ival b=none:=by rcases h with h | h;exact absurd h ha;exact h
   rw[hb] at v2
   have ha':(ival a).isSome=true:=Option.isSome_iff_ne_none.2 ha
   rw[ha'] at v1
   simp[c45,b45,put,eset,eget,D.cells,V.cells,allD,hget,hset,fz,zC,zN,v1,v2,errR,dR0]
theorem dR_cells (q:Rat):∃ s t,dR q=.agg [.s s,.s t]:=⟨_,_,rfl⟩
def I64 (n:Int):Prop:=-9223372036854775808≤n∧n<9223372036854775808
theorem I64.fits {n:Int} (h:I64 n):Fits n:=by
 unfold Fits
 have h1:n.natAbs<10 ^ 20:=by obtain⟨a,b⟩:=h;omega
 exact Nat.lt_of_lt_of_le h1 (Nat.pow_le_pow_right (by omega) (by omega))
theorem Of_ok (n d:Int) (hn:I64 n) (hd:I64 d) (H:Hp):callV cS false (fnV 54) [.d (.i .i64 n),.d (.i .i64 d)] H=some (.val (.d (makeD n d)),H):=by
 rw[callV_fn (sf:=c54) rfl rfl rfl rfl]
 have h1:=FromInt_ok n hn
 have h2:=FromInt_ok d hd
 have h3:=Make3_ok (txt n) (txt d) (txt_short hn.fits) (txt_short hd.fits)
 rw[opI_txt hn.fits hd.fits] at h3
 have he:∃ s t e,makeD n d=.tup [.agg [.s s,.s t],.i .i64 e]:=by
  unfold makeD errR dR0 dR;split<;>exact⟨_,_,_,rfl⟩
 obtain⟨s,t,e,he⟩:=he
 rw[he] at h3 ⊢
 simp[c54,b54,put,eset,eget,D.cells,V.cells,allD,hget,hset,fz,zC,zN,h1,h2,h3]
noncomputable def ratioD (n d:Int):D:=if d=0 then dR0 else dR (Rat.divInt n d)
theorem ratio_ok (n d:Int) (hn:I64 n) (hd:I64 d) (H:Hp):callV cS false (fnV 16) [.d (.i .i64 n),.d (.i .i64 d)] H=some (.val (.d (ratioD n d)),H):=by
 rw[callV_fn (sf:=c16) rfl rfl rfl rfl]
 have h1:=Of_ok n d hn hd
 have he:∃ s t e,makeD n d=.tup [.agg [.s s,.s t],.i .i64 e]∧ratioD n d=.agg [.s s,.s t]:=by
  unfold makeD ratioD errR dR0 dR;split<;>exact⟨_,_,_,rfl,rfl⟩
 obtain⟨s,t,e,he,he2⟩:=he
 rw[he] at h1
 rw[he2]
 simp[c16,b16,put,eset,eget,D.cells,V.cells,allD,hget,hset,fz,zC,zN,h1]
def pickI (x n:Int):Int:=(if x<0 then -(x+1) else x)%n
theorem pick4_ok (x n:Int) (hx:I64 x) (hn:I64 n) (h0:0<n) (H:Hp):callV cS false (fnV 44) [.d (.i .i64 x),.d (.i .i64 n)] H=some (.val (.d (.i .i64 (pickI x n))),H):=by
 rw[callV_fn (sf:=c44) rfl rfl rfl rfl]
 obtain⟨a1,a2⟩:=hx
 obtain⟨b1,b2⟩:=hn
 have hn0:¬ n=0:=by omega
 have hn1:¬ n<0:=by omega
 by_cases hneg:x<0
 ·have w1:IntKind.i64.wrap (x+1)=x+1:=wr64 (by omega) (by omega)
  have w2:IntKind.i64.wrap (-(x+1))=-(x+1):=wr64 (by omega) (by omega)
  have r1:(-(x+1)).tmod n=pickI x n:=by rw[Int.tmod_eq_emod_of_nonneg (by omega),pickI,if_pos hneg]
  have r2:IntKind.i64.wrap (pickI x n)=pickI x n:=by
   have h1:0≤pickI x n:=Int.emod_nonneg _ hn0
   have h2:pickI x n<n:=Int.emod_lt_of_pos _ h0
   exact wr64 (by omega) (by omega)
  obtain⟨y,hy⟩:∃ y,y=-(x+1):=⟨_,rfl⟩
  rw[← hy] at w2 r1
  have hy':y=-x+-1:=by omega
  simp[c44,b44,put,eset,eget,D.cells,V.cells,allD,hget,hset,fz,zC,zN,hneg,w1,hn0]
  rw[← hy,w2]
  simp[r1,r2]
 ·have r1:x.tmod n=pickI x n:=by rw[Int.tmod_eq_emod_of_nonneg (by omega),pickI,if_neg hneg]
  have r2:IntKind.i64.wrap (pickI x n)=pickI x n:=by
   have h1:0≤pickI x n:=Int.emod_nonneg _ hn0
   have h2:pickI x n<n:=Int.emod_lt_of_pos _ h0
   exact wr64 (by omega) (by omega)
  simp[c44,b44,put,eset,eget,D.cells,V.cells,allD,hget,hset,fz,zC,zN,hneg,hn0,r1,r2]
end
section
open Go Num
def wk (fl:Bool):Ob:=.box 78 [.d (.b fl)]
theorem do_true {h:Hp}{o:Nat}{f:FuncId}{a b:D} (ho:hget h o=some (wk true)):callV cS false (fnV 114) [.p o 0,.d (.fn f [] []),.d a,.d b] h=some (.val (.d (.s [])),h):=by
 rw[callV_fn (sf:=c114) rfl rfl rfl rfl]
 simp only[wk] at ho
 simp[c114,b114,put,eset,eget,D.cells,V.cells,allD,hget,hset,fz,zC,zN,ho]
theorem do_false {h:Hp}{o:Nat}{f:FuncId}{a b:D}{s:List UInt8}{e:Int} (ho:hget h o=some (wk false)) (hf:callV cS false (fnV f) [.d a,.d b] h=some (.val (.d (.tup [.s s,.i .i64 e])),h)) :
 callV cS false (fnV 114) [.p o 0,.d (.fn f [] []),.d a,.d b] h=some (.val (.d (.s s)),hset h o (wk (e != 0))):=by
 rw[callV_fn (sf:=c114) rfl rfl rfl rfl]
 have hk:HOk h (hset h o (wk (e != 0))):=HOk_hset (HOk.refl h) rfl
 have ht:=trunc_hset_self (h:=h) (h':=hset h o (wk (e != 0))) (hset_len _ _ _)
 have hl:h.length≤(hset h o (wk (e != 0))).length:=by rw[hset_len];omega
 simp only[wk] at ho hk ht hl ⊢
 by_cases he:e=0
 ·subst he
  simp only[show ((0:Int) != 0)=false from rfl] at hk ht hl ⊢
  simp[c114,b114,put,eset,eget,D.cells,V.cells,allD,hget,hset,fz,zC,zN,ho,hf,hk,ht,hl,fin_val]
 ·have heb:(e != 0)=true:=by simp[he]
  simp only[heb] at hk ht hl ⊢
  simp[c114,b114,put,eset,eget,D.cells,V.cells,allD,hget,hset,fz,zC,zN,ho,hf,heb,he,hk,ht,hl,fin_val]
theorem do_ok {h:Hp}{o:Nat}{f:FuncId}{a b:D}{s:List UInt8} (ho:hget h o=some (wk false)) (hf:callV cS false (fnV f) [.d a,.d b] h=some (.val (.d (.tup [.s s,.i .i64 0])),h)) :
 callV cS false (fnV 114) [.p o 0,.d (.fn f [] []),.d a,.d b] h=some (.val (.d (.s s)),h):=by
 rw[do_false ho hf]
 rw[show ((0:Int) != 0)=false from rfl,hset_self ho]
theorem quo1_ok {h:Hp}{a b s t:List UInt8}{e:Int} (hf:callV cS false (fnV 47) [.d (.s a),.d (.s b)] h=some (.val (.d (.tup [.s s,.s t,.i .i64 e])),h)) :
 callV cS false (fnV 165) [.d (.s a),.d (.s b)] h=some (.val (.d (.tup [.s s,.i .i64 e])),h):=by
 rw[callV_fn (sf:=c165) rfl rfl rfl rfl]
 simp[c165,b165,put,eset,eget,D.cells,V.cells,allD,hget,hset,fz,zC,zN,hf]
theorem fin_self {h:Hp}{x:D}:fin false h (.ret (.d x),h)=some (.val (.d x),h):=by
 simp[fin_val,HOk.refl,trunc_self]
theorem quotient_ok {h:Hp}{o:Nat}{a b s t:List UInt8} (ho:hget h o=some (wk false)) (hf:callV cS false (fnV 47) [.d (.s a),.d (.s b)] h=some (.val (.d (.tup [.s s,.s t,.i .i64 0])),h)) :
 callV cS false (fnV 116) [.p o 0,.d (.s a),.d (.s b)] h=some (.val (.d (.s s)),h):=by
 rw[callV_fn (sf:=c116) rfl rfl rfl rfl]
 have h1:=do_ok ho (quo1_ok hf)
 simp[c116,b116,put,eset,eget,D.cells,V.cells,allD,hget,hset,fz,zC,zN,h1]
theorem mul_true {h:Hp}{o:Nat}{a b:List UInt8} (ho:hget h o=some (wk true)):callV cS false (fnV 56) [.p o 0,.d (.s a),.d (.s b)] h=some (.val (.d (.s [])),h):=by
 rw[callV_fn (sf:=c56) rfl rfl rfl rfl]
 have h1:=fun f a b=>do_true (f:=f) (a:=a) (b:=b) ho
 simp[c56,b56,put,eset,eget,D.cells,V.cells,allD,hget,hset,fz,zC,zN,h1]
theorem mul_false {h:Hp}{o:Nat}{a b s:List UInt8}{e:Int} (ho:hget h o=some (wk false)) (hf:callV cS false (fnV 115) [.d (.s a),.d (.s b)] h=some (.val (.d (.tup [.s s,.i .i64 e])),h)) :
 callV cS false (fnV 56) [.p o 0,.d (.s a),.d (.s b)] h=some (.val (.d (.s s)),hset h o (wk (e != 0))):=by
 rw[callV_fn (sf:=c56) rfl rfl rfl rfl]
 have h1:=do_false ho hf
 have hk:HOk h (hset h o (wk (e != 0))):=HOk_hset (HOk.refl h) rfl
 have ht:=trunc_hset_self (h:=h) (h':=hset h o (wk (e != 0))) (hset_len _ _ _)
 have hl:h.length≤(hset h o (wk (e != 0))).length:=by rw[hset_len];omega
 simp[c56,b56,put,eset,eget,D.cells,V.cells,allD,hget,hset,fz,zC,zN,h1,fin_val,hk,ht,hl]
theorem reduced_true {h:Hp}{o:Nat}{a b:List UInt8} (ho:hget h o=some (wk true)):callV cS false (fnV 57) [.p o 0,.d (.s a),.d (.s b)] h=some (.val (.d errR),h):=by
 rw[callV_fn (sf:=c57) rfl rfl rfl rfl]
 have hol:=hget_lt' ho
 have hne:¬ o=h.length:=by omega
 simp only[wk] at ho
 simp[c57,b57,put,eset,eget,D.cells,V.cells,allD,hget,hset,fz,zC,zN,ho,hne,errR,dR0]
theorem reduced_false {h:Hp}{o:Nat} (hG:Glb h) (ho:hget h o=some (wk false)) {x y:Int} (fx:Fits x) (fy:Fits y) :
 callV cS false (fnV 57) [.p o 0,.d (.s (txt x)),.d (.s (txt y))] h=some (.val (.d (makeD x y)),h):=by
 rw[callV_fn (sf:=c57) rfl rfl rfl rfl]
 have hol:=hget_lt' ho
 have hne:¬ o=h.length:=by omega
 have hne2:¬ o=h.length+1:=by omega
 by_cases hy:y=0
 ·subst hy
  rw[txt_zero]
  simp only[wk] at ho
  simp[c57,b57,put,eset,eget,D.cells,V.cells,allD,hget,hset,fz,zC,zN,ho,hne,makeD,errR,dR0]
 ·have hbne:txt y≠[48]:=fun h=>hy (txt_eq_zero.1 h)
  have hbb:(txt y==[48])=false:=by rw[beq_eq_false_iff_ne];exact hbne
  have hmk:makeD x y=.tup [dR (Rat.divInt x y),.i .i64 0]:=by unfold makeD;rw[if_neg hy]
  rw[hmk]
  have cmp:=Compare_ok (txt y) [48]
  rw[opI_some (ival_txt fy) ival_zero] at cmp
  have main:∀ (B:Ob) (x' y':Int),Fits x'→Fits y'→0<y' →
   (callV cS false (fnV 114) [.p o 0,.d (.fn 100 [] []),.d (.s (txt x')),.d (.s (txt y'))] (B::h)=some (.val (.d (.s (txt (Int.gcd x' y':Nat)))),B::h)) ∧
   (callV cS false (fnV 116) [.p o 0,.d (.s (txt x')),.d (.s (txt (Int.gcd x' y':Nat)))] (B::h)=some (.val (.d (.s (txt (Rat.divInt x' y').num))),B::h)) ∧
   (callV cS false (fnV 116) [.p o 0,.d (.s (txt y')),.d (.s (txt (Int.gcd x' y':Nat)))] (B::h)=some (.val (.d (.s (txt (Rat.divInt x' y').den))),B::h)):=by
   intro B x' y' fx' fy' hy'
   have hG':Glb (B::h):=hG.cons B
   have ho':hget (B::h) o=some (wk false):=by rw[hget,if_neg hne];exact ho
   have hg:=gcd_pos (x:=x') (y:=y') (by omega)
   have fg:=gcd_fits (x:=x') fy' (by omega)
   obtain⟨p1,p2⟩:=divInt_parts x' y' hy'
   have hg0:((Int.gcd x' y':Nat):Int)≠0:=by omega
   refine⟨do_ok ho' ?_,quotient_ok (t:=txt (x'%(Int.gcd x' y':Nat))) ho' ?_,quotient_ok (t:=txt (y'%(Int.gcd x' y':Nat))) ho' ?_⟩
   ·rw[Gcd_ok _ _ _ hG',opI_txt fx' fy',fitD_of fg]
   ·rw[Div_ok _ _ _ hG',opI_txt fx' fg,divD,if_neg hg0,p1]
   ·rw[Div_ok _ _ _ hG',opI_txt fy' fg,divD,if_neg hg0,p2]
  by_cases hneg:y<0
  ·have hc:cmpI y 0=-1:=by unfold cmpI;rw[if_pos hneg]
   rw[hc] at cmp
   have sub0:∀ (B:Ob) (z:Int),Fits z→callV cS false (fnV 114) [.p o 0,.d (.fn 59 [] []),.d (.s [48]),.d (.s (txt z))] (B::h)=some (.val (.d (.s (txt (-z)))),B::h):=by
    intro B z fz
    have ho':hget (B::h) o=some (wk false):=by rw[hget,if_neg hne];exact ho
    refine do_ok ho' ?_
    rw[Sub_ok _ _ _ (hG.cons B),opI_some ival_zero (ival_txt fz),Int.zero_sub,fitD_of (fits_neg fz)]
   have s1:=sub0 (.box 26 [.d (.s []),.d (.s [])]) x fx
   have s2:=sub0 (.box 26 [.d (.s []),.d (.s [])]) y fy
   obtain⟨m1,m2,m3⟩:=main (.box 26 [.d (.s []),.d (.s [])]) (-x) (-y) (fits_neg fx) (fits_neg fy) (by omega)
   rw[divInt_neg_neg x y hy] at m2 m3
   simp only[Int.gcd_neg,Int.neg_gcd] at m1 m2 m3
   simp only[wk] at ho
   simp[c57,b57,put,eset,eget,D.cells,V.cells,allD,hget,hset,fz,zC,zN,ho,hne,hne2,hbne,hbb,cmp,s1,s2,m1,m2,m3,dR]
  ·have hc:cmpI y 0=1:=by unfold cmpI;rw[if_neg hneg,if_pos (by omega)]
   rw[hc] at cmp
   obtain⟨m1,m2,m3⟩:=main (.box 26 [.d (.s []),.d (.s [])]) x y fx fy (by omega)
   simp only[wk] at ho
   simp[c57,b57,put,eset,eget,D.cells,V.cells,allD,hget,hset,fz,zC,zN,ho,hne,hne2,hbne,hbb,cmp,m1,m2,m3,dR]
noncomputable def RQ (a b:List UInt8):Option Rat:=match ival a,ival b with
 | some x,some y=>if 0<y∧Int.gcd x y=1 then some (Rat.divInt x y) else none
 | _,_=>none
def RFits (q:Rat):Prop:=Fits q.num∧Fits q.den
theorem divInt_self (q:Rat):Rat.divInt q.num q.den=q:=Rat.num_divInt_den q
theorem RQ_some {a b:List UInt8}{q:Rat} (h:RQ a b=some q):RFits q∧a=txt q.num∧b=txt q.den:=by
 unfold RQ at h
 split at h
 ·rename_i x y hx hy
  split at h
  ·rename_i hc
   cases h
   obtain⟨p1,p2⟩:=divInt_parts x y hc.1
   rw[hc.2] at p1 p2
   have p1':(Rat.divInt x y).num=x:=by rw[p1];simp
   have p2':((Rat.divInt x y).den:Int)=y:=by rw[p2];simp
   obtain⟨fx,rfl⟩:=ival_some hx
   obtain⟨fy,rfl⟩:=ival_some hy
   exact⟨⟨by rw[p1'];exact fx,by rw[p2'];exact fy⟩,by rw[p1'],by rw[p2']⟩
  ·cases h
 ·cases h
theorem RQ_txt {q:Rat} (h:RFits q):RQ (txt q.num) (txt q.den)=some q:=by
 unfold RQ
 rw[ival_txt h.1,ival_txt h.2]
 have h1:(0:Int)<q.den:=by have:=q.den_pos;omega
 have h2:Int.gcd q.num q.den=1:=q.reduced
 simp only
 rw[if_pos ⟨h1,h2⟩,divInt_self]
theorem fitD_gcd {x y:Int} (hx:Fits x) (hy:Fits y):Fits (Int.gcd x y:Nat):=by
 by_cases h:y=0
 ·subst h
  unfold Fits at *
  simpa[Int.gcd] using hx
 ·exact gcd_fits hy h
theorem RValid_ok (a b:List UInt8) (H:Hp) (hG:Glb H):callV cS false (fnV 46) [.d (.agg [.s a,.s b])] H=some (.val (.d (.b (RQ a b).isSome)),H):=by
 rw[callV_fn (sf:=c46) rfl rfl rfl rfl]
 have v1:=Valid_ok a
 have v2:=Valid_ok b
 have hG1:Glb (.box 26 [.d (.s a),.d (.s b)]::H):=hG.cons _
 rcases ival_cases a b with ⟨x,y,ha,hb⟩ | h
 ·have hrv:(RQ a b).isSome=decide (0<y∧Int.gcd x y=1):=by
   unfold RQ;rw[ha,hb];simp only
   split
   ·rename_i h;simp[h]
   ·rename_i h;rw[decide_eq_false h];rfl
  rw[hrv]
  rw[ha] at v1
  rw[hb] at v2
  obtain⟨fx,rfl⟩:=ival_some ha
  obtain⟨fy,rfl⟩:=ival_some hb
  have cmp:=Compare_ok (txt y) [48]
  rw[opI_some (ival_txt fy) ival_zero] at cmp
  have gc:=Gcd_ok (txt x) (txt y) _ hG1
  rw[opI_txt fx fy,fitD_of (fitD_gcd fx fy)] at gc
  by_cases hy:0<y
  ·have hc:cmpI y 0=1:=by unfold cmpI;rw[if_neg (by omega),if_pos (by omega)]
   rw[hc] at cmp
   by_cases hg:Int.gcd x y=1
   ·have ht:txt (Int.gcd x y:Nat)=[49]:=by rw[hg];exact txt_one
    rw[ht] at gc
    simp[c46,b46,put,eset,eget,D.cells,V.cells,allD,hget,hset,fz,zC,zN,v1,v2,cmp,gc,hy,hg]
   ·have ht:txt (Int.gcd x y:Nat)≠[49]:=fun h=>by
     have:=txt_inj (h.trans txt_one.symm);omega
    have htb:(txt (Int.gcd x y:Nat)==[49])=false:=by rw[beq_eq_false_iff_ne];exact ht
    obtain⟨g,hgg⟩:∃ g,g=txt (Int.gcd x y:Nat):=⟨_,rfl⟩
    rw[← hgg] at gc htb ht
    simp[c46,b46,put,eset,eget,D.cells,V.cells,allD,hget,hset,fz,zC,zN,v1,v2,cmp,gc,hy,hg,htb,ht]
  ·have hc:cmpI y 0≤0:=by unfold cmpI;rw[if_neg hy];split<;>omega
   have hd:decide (0<y∧Int.gcd x y=1)=false:=decide_eq_false (fun h=>hy h.1)
   rw[hd]
   simp[c46,b46,put,eset,eget,D.cells,V.cells,allD,hget,hset,fz,zC,zN,v1,v2,cmp,hc]
 ·have hrv:(RQ a b).isSome=false:=by
   unfold RQ
   rcases h with h | h
   ·rw[h];rfl
   ·rw[h];cases ival a<;>rfl
  rw[hrv]
  by_cases ha:ival a=none
  ·rw[ha] at v1
   simp[c46,b46,put,eset,eget,D.cells,V.cells,allD,hget,hset,fz,zC,zN,v1]
  ·have hb:ival b=none:=by rcases h with h | h;exact absurd h ha;exact h
   rw[hb] at v2
   have ha':(ival a).isSome=true:=Option.isSome_iff_ne_none.2 ha
   rw[ha'] at v1
   simp[c46,b46,put,eset,eget,D.cells,V.cells,allD,hget,hset,fz,zC,zN,v1,v2]
theorem RMake_ok (a b:List UInt8) (H:Hp) (hG:Glb H):callV cS false (fnV 72) [.d (.s a),.d (.s b)] H=some (.val (.d (opI makeD errR a b)),H):=by
 rw[callV_fn (sf:=c72) rfl rfl rfl rfl]
 have v1:=Valid_ok a
 have v2:=Valid_ok b
 have hG1:∀ x,Glb (wk x::.box 26 [.d (.s []),.d (.s [])]::H):=fun x=>(hG.cons _).cons _
 have hh:∀ x,hget (wk x::.box 26 [.d (.s []),.d (.s [])]::H) (H.length+1)=some (wk x):=fun x=>by simp[hget]
 have he:∃ s t e,opI makeD errR a b=.tup [.agg [.s s,.s t],.i .i64 e]:=by
  unfold opI makeD errR dR0 dR
  split
  ·split<;>exact⟨_,_,_,rfl⟩
  ·exact⟨_,_,_,rfl⟩
 obtain⟨s,t,e,he⟩:=he
 rcases ival_cases a b with ⟨x,y,ha,hb⟩ | h
 ·rw[opI_some ha hb] at he ⊢
  rw[ha] at v1
  rw[hb] at v2
  obtain⟨fx,rfl⟩:=ival_some ha
  obtain⟨fy,rfl⟩:=ival_some hb
  have hr:=reduced_false (hG1 false) (hh false) fx fy
  rw[he] at hr ⊢
  simp only[wk] at hr
  simp[c72,b72,put,eset,eget,D.cells,V.cells,allD,hget,hset,fz,zC,zN,v1,v2,hr]
 ·rw[opI_none h] at he ⊢
  have hr:=reduced_true (a:=a) (b:=b) (hh true)
  rw[he] at hr ⊢
  simp only[wk] at hr
  by_cases ha:ival a=none
  ·rw[ha] at v1
   simp[c72,b72,put,eset,eget,D.cells,V.cells,allD,hget,hset,fz,zC,zN,v1,hr]
  ·have hb:ival b=none:=by rcases h with h | h;exact absurd h ha;exact h
   rw[hb] at v2
   have ha':(ival a).isSome=true:=Option.isSome_iff_ne_none.2 ha
   rw[ha'] at v1
   simp[c72,b72,put,eset,eget,D.cells,V.cells,allD,hget,hset,fz,zC,zN,v1,v2,hr]
end
section
open Go Num
theorem Glb_hset {h:Hp}{o:Nat}{x:Ob}{fl:Bool} (hG:Glb h) (ho:hget h o=some (wk fl)):Glb (hset h o x):=by
 have hne:o≠4:=fun e=>by subst e;rw[hG] at ho;cases ho
 show hget (hset h o x) _=_
 rw[hget_hset_ne hne];exact hG
theorem check1_ok {h:Hp}{o:Nat}{fl:Bool} (hG:Glb h) (ho:hget h o=some (wk fl)) (a b:List UInt8) :
 callV cS false (fnV 55) [.p o 0,.d (.ls [.agg [.s a,.s b]])] h=some (.val (.d (.tup [])),hset h o (wk (fl || !(RQ a b).isSome))):=by
 rw[callV_fn (sf:=c55) rfl rfl rfl rfl]
 have hol:=hget_lt' ho
 have hne:¬ o=h.length:=by omega
 have hv:=RValid_ok a b (.box 26 [.d (.s a),.d (.s b)]::h) (hG.cons _)
 obtain⟨v,hv'⟩:∃ v,v=(RQ a b).isSome:=⟨_,rfl⟩
 rw[← hv'] at hv ⊢
 have hk:HOk h (hset h o (wk (fl || !v))):=HOk_hset (HOk.refl h) rfl
 have ht:=trunc_hset_self (h:=h) (h':=hset h o (wk (fl || !v))) (hset_len _ _ _)
 have hl:h.length≤(hset h o (wk (fl || !v))).length:=by rw[hset_len];omega
 have w:IntKind.i64.wrap 1=1:=wr64 (by omega) (by omega)
 have hkl:∀ B:Ob,HOk h (B::hset h o (wk (fl || !v))):=fun B=>by rw[HOk_cons' (by rw[hset_len];omega)];exact hk
 have htl:∀ B:Ob,trunc h.length (B::hset h o (wk (fl || !v)))=hset h o (wk (fl || !v)):=fun B=>by rw[trunc_cons' (by rw[hset_len];omega)];exact ht
 have hbl:h.length≤(hset h o (wk (fl || !v))).length+1:=by omega
 simp only[wk] at ho hk ht hl hkl htl hbl ⊢
 cases fl
 ·simp only[Bool.false_or] at hk ht hl hkl htl hbl ⊢
  simp[c55,b55,put,eset,eget,D.cells,V.cells,allD,hget,hset,fz,zC,zN]
  rw[evI_loop]
  simp[l55_0,put,eset,eget,D.cells,V.cells,allD,hget,hset,fz,zC,zN,ho,hv,hne,w,chunk1,allCellsD]
  rw[evI_loop]
  simp[put,eset,eget,D.cells,V.cells,allD,hget,hset,fz,zC,zN,fin_val,hkl,htl,hbl]
 ·simp only[Bool.true_or] at hk ht hl hkl htl hbl ⊢
  simp[c55,b55,put,eset,eget,D.cells,V.cells,allD,hget,hset,fz,zC,zN]
  rw[evI_loop]
  simp[l55_0,put,eset,eget,D.cells,V.cells,allD,hget,hset,fz,zC,zN,ho,hne,w,chunk1,allCellsD]
  rw[evI_loop]
  simp[put,eset,eget,D.cells,V.cells,allD,hget,hset,fz,zC,zN,fin_val,hkl,htl,hbl]
theorem check2_ok {h:Hp}{o:Nat} (hG:Glb h) (ho:hget h o=some (wk false)) (a b c d:List UInt8) :
 callV cS false (fnV 55) [.p o 0,.d (.ls [.agg [.s a,.s b],.agg [.s c,.s d]])] h=some (.val (.d (.tup [])),hset h o (wk (!(RQ a b).isSome || !(RQ c d).isSome))):=by
 rw[callV_fn (sf:=c55) rfl rfl rfl rfl]
 have hol:=hget_lt' ho
 have hne:¬ o=h.length:=by omega
 have hne1:¬ o=h.length+1:=by omega
 have hv:=RValid_ok a b (.box 26 [.d (.s a),.d (.s b)]::h) (hG.cons _)
 have hG1:∀ x,Glb (hset h o x):=fun x=>Glb_hset hG ho
 have hv2:=fun x=>RValid_ok c d (.box 26 [.d (.s c),.d (.s d)]::.box 26 [.d (.s a),.d (.s b)]::hset h o (wk x)) (((hG1 _).cons _).cons _)
 obtain⟨v,hv'⟩:∃ v,v=(RQ a b).isSome:=⟨_,rfl⟩
 obtain⟨u,hu'⟩:∃ u,u=(RQ c d).isSome:=⟨_,rfl⟩
 rw[← hv'] at hv ⊢
 rw[← hu'] at hv2 ⊢
 have hk:∀ x,HOk h (hset h o (wk x)):=fun x=>HOk_hset (HOk.refl h) rfl
 have ht:∀ x,trunc h.length (hset h o (wk x))=hset h o (wk x):=fun x=>trunc_hset_self (hset_len _ _ _)
 have hlen:∀ x,(hset h o (wk x)).length=h.length:=fun x=>hset_len _ _ _
 have w1:IntKind.i64.wrap 1=1:=wr64 (by omega) (by omega)
 have w2:IntKind.i64.wrap 2=2:=wr64 (by omega) (by omega)
 have hgs:∀ x,hget (hset h o (wk x)) o=some (wk x):=fun x=>hget_hset hol
 have hss:∀ x y,hset (hset h o (wk x)) o (wk y)=hset h o (wk y):=fun x y=>hset_hset _ _ _ _
 have hkl:∀ (B C:Ob) x,HOk h (B::C::hset h o (wk x)):=fun B C x=>by rw[HOk_cons' (by simp[hset_len]),HOk_cons' (by rw[hset_len];omega)];exact hk x
 have htl:∀ (B C:Ob) x,trunc h.length (B::C::hset h o (wk x))=hset h o (wk x):=fun B C x=>by rw[trunc_cons' (by simp[hset_len]),trunc_cons' (by rw[hset_len];omega)];exact ht x
 simp only[wk] at ho hk ht hlen hkl htl hgs hss hv2 ⊢
 cases v
 ·simp only[Bool.not_false,Bool.true_or] at hkl htl ⊢
  simp[c55,b55,put,eset,eget,D.cells,V.cells,allD,hget,hset,fz,zC,zN]
  rw[evI_loop]
  simp[l55_0,put,eset,eget,D.cells,V.cells,allD,hget,hset,fz,zC,zN,ho,hv,hne,w1,chunk1,allCellsD]
  rw[evI_loop]
  simp[put,eset,eget,D.cells,V.cells,allD,hget,hset,fz,zC,zN,hgs,hss,hlen,hne,hne1,w2,chunk1,allCellsD]
  rw[evI_loop]
  simp[put,eset,eget,D.cells,V.cells,allD,hget,hset,fz,zC,zN,fin_val,hkl,htl,hlen]
 ·simp only[Bool.not_true,Bool.false_or] at hkl htl ⊢
  simp[c55,b55,put,eset,eget,D.cells,V.cells,allD,hget,hset,fz,zC,zN]
  rw[evI_loop]
  simp[l55_0,put,eset,eget,D.cells,V.cells,allD,hget,hset,fz,zC,zN,ho,hv,hne,w1,chunk1,allCellsD]
  rw[evI_loop]
  simp[put,eset,eget,D.cells,V.cells,allD,hget,hset,fz,zC,zN,hgs,hss,hlen,hne,hne1,w2,hv2,chunk1,allCellsD]
  rw[evI_loop]
  simp[put,eset,eget,D.cells,V.cells,allD,hget,hset,fz,zC,zN,fin_val,hkl,htl,hlen]
end
section
open Go Num
theorem mul_fit {h:Hp}{o:Nat} (hG:Glb h) (ho:hget h o=some (wk false)) {x y:Int} (fx:Fits x) (fy:Fits y) (hf:Fits (x*y)):callV cS false (fnV 56) [.p o 0,.d (.s (txt x)),.d (.s (txt y))] h=some (.val (.d (.s (txt (x*y)))),h):=by
 have h1:=Mul_ok (txt x) (txt y) h hG
 rw[opI_txt fx fy,fitD_of hf] at h1
 rw[mul_false ho h1,show ((0:Int) != 0)=false from rfl,hset_self ho]
theorem mul_nofit {h:Hp}{o:Nat} (hG:Glb h) (ho:hget h o=some (wk false)) {x y:Int} (fx:Fits x) (fy:Fits y) (hf:¬ Fits (x*y)):callV cS false (fnV 56) [.p o 0,.d (.s (txt x)),.d (.s (txt y))] h=some (.val (.d (.s [])),hset h o (wk true)):=by
 have h1:=Mul_ok (txt x) (txt y) h hG
 have h2:fitD (x*y)=errI:=by unfold fitD;rw[if_neg hf]
 rw[opI_txt fx fy,h2,errI] at h1
 rw[mul_false ho h1];rfl
noncomputable def opQ (f:Rat→Rat→D) (e:D) (a b c d:List UInt8):D:=match RQ a b,RQ c d with
 | some p,some q=>f p q
 | _,_=>e
open Classical in
noncomputable def two (x y:Int):D:=if Fits x∧Fits y then makeD x y else errR
theorem makeD_form (x y:Int):∃ s t e,makeD x y=.tup [.agg [.s s,.s t],.i .i64 e]:=by
 unfold makeD errR dR0 dR
 split<;>exact⟨_,_,_,rfl⟩
theorem two_form (x y:Int):∃ s t e,two x y=.tup [.agg [.s s,.s t],.i .i64 e]:=by
 unfold two
 split
 ·exact makeD_form x y
 ·exact⟨_,_,_,rfl⟩
def ratBox (a b:List UInt8):Ob:=.box 26 [.d (.s a),.d (.s b)]
def opH (H:Hp) (a b c d:List UInt8) (fl:Bool):Hp:=wk fl::ratBox [] []::ratBox c d::ratBox a b::H
theorem opH_glb {H:Hp} (hG:Glb H) (a b c d:List UInt8) (fl:Bool):Glb (opH H a b c d fl):=(((hG.cons _).cons _).cons _).cons _
theorem opH_get (H:Hp) (a b c d:List UInt8) (fl:Bool):hget (opH H a b c d fl) (H.length+1+1+1)=some (wk fl):=by simp[opH,hget]
theorem opH_set (H:Hp) (a b c d:List UInt8) (fl fl':Bool):hset (opH H a b c d fl) (H.length+1+1+1) (wk fl')=opH H a b c d fl':=by simp[opH,hset]
theorem opQ_cases (a b c d:List UInt8):(∃ p q,RQ a b=some p∧RQ c d=some q)∨((!(RQ a b).isSome || !(RQ c d).isSome)=true∧∀ f e,opQ f e a b c d=e):=by
 cases ha:RQ a b with
 | none=>exact .inr ⟨by simp,fun f e=>by simp[opQ,ha]⟩
 | some p =>
   cases hb:RQ c d with
   | none=>exact .inr ⟨by simp,fun f e=>by simp[opQ,ha,hb]⟩
   | some q=>exact .inl ⟨p,q,rfl,rfl⟩
theorem RMul_ok (a b c d:List UInt8) (H:Hp) (hG:Glb H):callV cS false (fnV 21) [.d (.agg [.s a,.s b]),.d (.agg [.s c,.s d])] H=some (.val (.d (opQ (fun p q=>two (p.num*q.num) ((p.den:Int)*q.den)) errR a b c d)),H):=by
 rw[callV_fn (sf:=c21) rfl rfl rfl rfl]
 have hc:=check2_ok (opH_glb hG a b c d false) (opH_get H a b c d false) a b c d
 rw[opH_set] at hc
 rcases opQ_cases a b c d with ⟨p,q,hp,hq⟩ | ⟨h1,h2⟩
 ·have he:opQ (fun p q=>two (p.num*q.num) ((p.den:Int)*q.den)) errR a b c d=two (p.num*q.num) ((p.den:Int)*q.den):=by simp[opQ,hp,hq]
  rw[he]
  rw[hp,hq,show (!(some p).isSome || !(some q).isSome)=false from rfl] at hc
  obtain⟨⟨fp1,fp2⟩,rfl,rfl⟩:=RQ_some hp
  obtain⟨⟨fq1,fq2⟩,rfl,rfl⟩:=RQ_some hq
  have G0:=opH_glb hG (txt p.num) (txt p.den) (txt q.num) (txt q.den) false
  have g0:=opH_get H (txt p.num) (txt p.den) (txt q.num) (txt q.den) false
  have g1:=opH_get H (txt p.num) (txt p.den) (txt q.num) (txt q.den) true
  by_cases f1:Fits (p.num*q.num)
  ·have m1:=mul_fit G0 g0 fp1 fq1 f1
   by_cases f2:Fits ((p.den:Int)*q.den)
   ·have m2:=mul_fit G0 g0 fp2 fq2 f2
    have hr:=reduced_false G0 g0 f1 f2
    have ht:two (p.num*q.num) ((p.den:Int)*q.den)=makeD (p.num*q.num) ((p.den:Int)*q.den):=by unfold two;rw[if_pos ⟨f1,f2⟩]
    rw[ht]
    obtain⟨s,t,e,hf⟩:=makeD_form (p.num*q.num) ((p.den:Int)*q.den)
    rw[hf] at hr ⊢
    simp only[opH,ratBox,wk] at hc m1 m2 hr
    simp[c21,b21,put,eset,eget,D.cells,V.cells,allD,hget,hset,fz,zC,zN,hc,m1,m2,hr,setParts,chunk1,allCellsD]
   ·have m2:=mul_nofit G0 g0 fp2 fq2 f2
    rw[opH_set] at m2
    have hr:=reduced_true (a:=txt (p.num*q.num)) (b:=[]) g1
    have ht:two (p.num*q.num) ((p.den:Int)*q.den)=errR:=by unfold two;rw[if_neg (fun h=>f2 h.2)]
    rw[ht]
    simp only[opH,ratBox,wk,errR,dR0] at hc m1 m2 hr ⊢
    simp[c21,b21,put,eset,eget,D.cells,V.cells,allD,hget,hset,fz,zC,zN,hc,m1,m2,hr,setParts,chunk1,allCellsD]
  ·have m1:=mul_nofit G0 g0 fp1 fq1 f1
   rw[opH_set] at m1
   have m2:=mul_true (a:=txt p.den) (b:=txt q.den) g1
   have hr:=reduced_true (a:=[]) (b:=[]) g1
   have ht:two (p.num*q.num) ((p.den:Int)*q.den)=errR:=by unfold two;rw[if_neg (fun h=>f1 h.1)]
   rw[ht]
   simp only[opH,ratBox,wk,errR,dR0] at hc m1 m2 hr ⊢
   simp[c21,b21,put,eset,eget,D.cells,V.cells,allD,hget,hset,fz,zC,zN,hc,m1,m2,hr,setParts,chunk1,allCellsD]
 ·rw[h2]
  rw[h1] at hc
  have g1:=opH_get H a b c d true
  have m:=fun s t=>mul_true (a:=s) (b:=t) g1
  have hr:=reduced_true (a:=[]) (b:=[]) g1
  simp only[opH,ratBox,wk,errR,dR0] at hc m hr ⊢
  simp[c21,b21,put,eset,eget,D.cells,V.cells,allD,hget,hset,fz,zC,zN,hc,m,hr,setParts,chunk1,allCellsD]
theorem RDiv_ok (a b c d:List UInt8) (H:Hp) (hG:Glb H):callV cS false (fnV 17) [.d (.agg [.s a,.s b]),.d (.agg [.s c,.s d])] H=some (.val (.d (opQ (fun p q=>two (p.num*q.den) ((p.den:Int)*q.num)) errR a b c d)),H):=by
 rw[callV_fn (sf:=c17) rfl rfl rfl rfl]
 have hc:=check2_ok (opH_glb hG a b c d false) (opH_get H a b c d false) a b c d
 rw[opH_set] at hc
 rcases opQ_cases a b c d with ⟨p,q,hp,hq⟩ | ⟨h1,h2⟩
 ·have he:opQ (fun p q=>two (p.num*q.den) ((p.den:Int)*q.num)) errR a b c d=two (p.num*q.den) ((p.den:Int)*q.num):=by simp[opQ,hp,hq]
  rw[he]
  rw[hp,hq,show (!(some p).isSome || !(some q).isSome)=false from rfl] at hc
  obtain⟨⟨fp1,fp2⟩,rfl,rfl⟩:=RQ_some hp
  obtain⟨⟨fq1,fq2⟩,rfl,rfl⟩:=RQ_some hq
  have G0:=opH_glb hG (txt p.num) (txt p.den) (txt q.num) (txt q.den) false
  have g0:=opH_get H (txt p.num) (txt p.den) (txt q.num) (txt q.den) false
  have g1:=opH_get H (txt p.num) (txt p.den) (txt q.num) (txt q.den) true
  by_cases f1:Fits (p.num*q.den)
  ·have m1:=mul_fit G0 g0 fp1 fq2 f1
   by_cases f2:Fits ((p.den:Int)*q.num)
   ·have m2:=mul_fit G0 g0 fp2 fq1 f2
    have hr:=reduced_false G0 g0 f1 f2
    have ht:two (p.num*q.den) ((p.den:Int)*q.num)=makeD (p.num*q.den) ((p.den:Int)*q.num):=by unfold two;rw[if_pos ⟨f1,f2⟩]
    rw[ht]
    obtain⟨s,t,e,hf⟩:=makeD_form (p.num*q.den) ((p.den:Int)*q.num)
    rw[hf] at hr ⊢
    simp only[opH,ratBox,wk] at hc m1 m2 hr
    simp[c17,b17,put,eset,eget,D.cells,V.cells,allD,hget,hset,fz,zC,zN,hc,m1,m2,hr,setParts,chunk1,allCellsD]
   ·have m2:=mul_nofit G0 g0 fp2 fq1 f2
    rw[opH_set] at m2
    have hr:=reduced_true (a:=txt (p.num*q.den)) (b:=[]) g1
    have ht:two (p.num*q.den) ((p.den:Int)*q.num)=errR:=by unfold two;rw[if_neg (fun h=>f2 h.2)]
    rw[ht]
    simp only[opH,ratBox,wk,errR,dR0] at hc m1 m2 hr ⊢
    simp[c17,b17,put,eset,eget,D.cells,V.cells,allD,hget,hset,fz,zC,zN,hc,m1,m2,hr,setParts,chunk1,allCellsD]
  ·have m1:=mul_nofit G0 g0 fp1 fq2 f1
   rw[opH_set] at m1
   have m2:=mul_true (a:=txt p.den) (b:=txt q.num) g1
   have hr:=reduced_true (a:=[]) (b:=[]) g1
   have ht:two (p.num*q.den) ((p.den:Int)*q.num)=errR:=by unfold two;rw[if_neg (fun h=>f1 h.1)]
   rw[ht]
   simp only[opH,ratBox,wk,errR,dR0] at hc m1 m2 hr ⊢
   simp[c17,b17,put,eset,eget,D.cells,V.cells,allD,hget,hset,fz,zC,zN,hc,m1,m2,hr,setParts,chunk1,allCellsD]
 ·rw[h2]
  rw[h1] at hc
  have g1:=opH_get H a b c d true
  have m:=fun s t=>mul_true (a:=s) (b:=t) g1
  have hr:=reduced_true (a:=[]) (b:=[]) g1
  simp only[opH,ratBox,wk,errR,dR0] at hc m hr ⊢
  simp[c17,b17,put,eset,eget,D.cells,V.cells,allD,hget,hset,fz,zC,zN,hc,m,hr,setParts,chunk1,allCellsD]
end
section
open Go Num
open Classical in
noncomputable def sumD (op:Int→Int→Int) (p q:Rat):D:=if Fits (p.num*q.den)∧Fits (q.num*p.den) then two (op (p.num*q.den) (q.num*p.den)) ((p.den:Int)*q.den) else errR
set_option maxHeartbeats 2000000 in
theorem sum_ok (f:FuncId) (op:Int→Int→Int) (hf:∀ x y h,Glb h→Fits x→Fits y→callV cS false (fnV f) [.d (.s (txt x)),.d (.s (txt y))] h=some (.val (.d (fitD (op x y))),h)) (a b c d:List UInt8) (H:Hp) (hG:Glb H) :
 callV cS false (fnV 58) [.d (.fn f [] []),.d (.agg [.s a,.s b]),.d (.agg [.s c,.s d])] H=some (.val (.d (opQ (sumD op) errR a b c d)),H):=by
 rw[callV_fn (sf:=c58) rfl rfl rfl rfl]
 have hc:=check2_ok (opH_glb hG a b c d false) (opH_get H a b c d false) a b c d
 rw[opH_set] at hc
 have g1:=opH_get H a b c d true
 have mt:=fun s t=>mul_true (a:=s) (b:=t) g1
 have dt:=fun a b=>do_true (f:=f) (a:=a) (b:=b) g1
 have rt:=fun s t=>reduced_true (a:=s) (b:=t) g1
 rcases opQ_cases a b c d with ⟨p,q,hp,hq⟩ | ⟨h1,h2⟩
 ·have he:opQ (sumD op) errR a b c d=sumD op p q:=by simp[opQ,hp,hq]
  rw[he]
  rw[hp,hq,show (!(some p).isSome || !(some q).isSome)=false from rfl] at hc
  obtain⟨⟨fp1,fp2⟩,rfl,rfl⟩:=RQ_some hp
  obtain⟨⟨fq1,fq2⟩,rfl,rfl⟩:=RQ_some hq
  have G0:=opH_glb hG (txt p.num) (txt p.den) (txt q.num) (txt q.den) false
  have g0:=opH_get H (txt p.num) (txt p.den) (txt q.num) (txt q.den) false
  by_cases f1:Fits (p.num*q.den)
  ·have m1:=mul_fit G0 g0 fp1 fq2 f1
   by_cases f2:Fits (q.num*p.den)
   ·have m2:=mul_fit G0 g0 fq1 fp2 f2
    have hs:sumD op p q=two (op (p.num*q.den) (q.num*p.den)) ((p.den:Int)*q.den):=by unfold sumD;rw[if_pos ⟨f1,f2⟩]
    rw[hs]
    obtain⟨x,hx⟩:∃ x,x=p.num*q.den:=⟨_,rfl⟩
    obtain⟨y,hy⟩:∃ y,y=q.num*p.den:=⟨_,rfl⟩
    rw[← hx] at m1 f1
    rw[← hy] at m2 f2
    rw[← hx,← hy]
    have hop:=hf x y _ G0 f1 f2
    by_cases f3:Fits (op x y)
    ·rw[fitD_of f3] at hop
     have m3:=do_ok g0 hop
     by_cases f4:Fits ((p.den:Int)*q.den)
     ·have m4:=mul_fit G0 g0 fp2 fq2 f4
      have hr:=reduced_false G0 g0 f3 f4
      have ht:two (op x y) ((p.den:Int)*q.den)=makeD (op x y) ((p.den:Int)*q.den):=by unfold two;rw[if_pos ⟨f3,f4⟩]
      rw[ht]
      obtain⟨s,t,e,hfm⟩:=makeD_form (op x y) ((p.den:Int)*q.den)
      rw[hfm] at hr ⊢
      simp only[opH,ratBox,wk] at hc m1 m2 m3 m4 hr
      simp[c58,b58,put,eset,eget,D.cells,V.cells,allD,hget,hset,fz,zC,zN,hc,m1,m2,m3,m4,hr,setParts,chunk1,allCellsD]
     ·have m4:=mul_nofit G0 g0 fp2 fq2 f4
      rw[opH_set] at m4
      have ht:two (op x y) ((p.den:Int)*q.den)=errR:=by unfold two;rw[if_neg (fun h=>f4 h.2)]
      rw[ht]
      have hr:=rt (txt (op x y)) []
      simp only[opH,ratBox,wk,errR,dR0] at hc m1 m2 m3 m4 hr ⊢
      simp[c58,b58,put,eset,eget,D.cells,V.cells,allD,hget,hset,fz,zC,zN,hc,m1,m2,m3,m4,hr,setParts,chunk1,allCellsD]
    ·have he3:fitD (op x y)=errI:=by unfold fitD;rw[if_neg f3]
     rw[he3,errI] at hop
     have m3:=do_false g0 hop
     rw[show ((30:Int) != 0)=true from rfl,opH_set] at m3
     have ht:two (op x y) ((p.den:Int)*q.den)=errR:=by unfold two;rw[if_neg (fun h=>f3 h.1)]
     rw[ht]
     have hr:=rt [] []
     have m4:=mt (txt p.den) (txt q.den)
     simp only[opH,ratBox,wk,errR,dR0] at hc m1 m2 m3 m4 hr ⊢
     simp[c58,b58,put,eset,eget,D.cells,V.cells,allD,hget,hset,fz,zC,zN,hc,m1,m2,m3,m4,hr,setParts,chunk1,allCellsD]
   ·have m2:=mul_nofit G0 g0 fq1 fp2 f2
    rw[opH_set] at m2
    have hs:sumD op p q=errR:=by unfold sumD;rw[if_neg (fun h=>f2 h.2)]
    rw[hs]
    have hr:=rt [] []
    have m3:=dt (.s (txt (p.num*q.den))) (.s [])
    have m4:=mt (txt p.den) (txt q.den)
    simp only[opH,ratBox,wk,errR,dR0] at hc m1 m2 m3 m4 hr ⊢
    simp[c58,b58,put,eset,eget,D.cells,V.cells,allD,hget,hset,fz,zC,zN,hc,m1,m2,m3,m4,hr,setParts,chunk1,allCellsD]
  ·have m1:=mul_nofit G0 g0 fp1 fq2 f1
   rw[opH_set] at m1
   have hs:sumD op p q=errR:=by unfold sumD;rw[if_neg (fun h=>f1 h.1)]
   rw[hs]
   have hr:=rt [] []
   have m2:=mt (txt q.num) (txt p.den)
   have m3:=dt (.s []) (.s [])
   have m4:=mt (txt p.den) (txt q.den)
   simp only[opH,ratBox,wk,errR,dR0] at hc m1 m2 m3 m4 hr ⊢
   simp[c58,b58,put,eset,eget,D.cells,V.cells,allD,hget,hset,fz,zC,zN,hc,m1,m2,m3,m4,hr,setParts,chunk1,allCellsD]
 ·rw[h2]
  rw[h1] at hc
  have hr:=rt [] []
  have m3:=dt (.s []) (.s [])
  simp only[opH,ratBox,wk,errR,dR0] at hc mt m3 hr ⊢
  simp[c58,b58,put,eset,eget,D.cells,V.cells,allD,hget,hset,fz,zC,zN,hc,mt,m3,hr,setParts,chunk1,allCellsD]
theorem sumD_form (op:Int→Int→Int) (a b c d:List UInt8):∃ s t e,opQ (sumD op) errR a b c d=.tup [.agg [.s s,.s t],.i .i64 e]:=by
 unfold opQ
 split
 ·unfold sumD;split
  ·exact two_form _ _
  ·exact⟨_,_,_,rfl⟩
 ·exact⟨_,_,_,rfl⟩
theorem RSub_ok (a b c d:List UInt8) (H:Hp) (hG:Glb H):callV cS false (fnV 18) [.d (.agg [.s a,.s b]),.d (.agg [.s c,.s d])] H=some (.val (.d (opQ (sumD fun x y=>x-y) errR a b c d)),H):=by
 rw[callV_fn (sf:=c18) rfl rfl rfl rfl]
 have hs:=sum_ok 59 (fun x y=>x-y) (fun x y h hG fx fy=>by rw[Sub_ok _ _ _ hG,opI_txt fx fy]) a b c d (ratBox [] []::ratBox c d::ratBox a b::H) (((hG.cons _).cons _).cons _)
 obtain⟨s,t,e,he⟩:=sumD_form (fun x y=>x-y) a b c d
 rw[he] at hs ⊢
 simp only[ratBox] at hs
 simp[c18,b18,put,eset,eget,D.cells,V.cells,allD,hget,hset,fz,zC,zN,hs]
end
section
open Go Num
noncomputable def jumpsI (a:C) (l:Nat) (e:En) (h:Hp):Option (Ex×En×Hp):=lim fun n=>jumps l (evC cS n a (some l)) n e h
theorem jumpsI_some {a:C}{l:Nat}{e:En}{h:Hp}{r:Ex×En×Hp}:jumpsI a l e h=some r↔∃ n,jumps l (evC cS n a (some l)) n e h=some r :=
 lim_some fun _ _ hn=>jumps_mono (fun e h=>evC_mono (fun _ _ _=>Le.refl _) hn a (some l) e h) hn
theorem jumpsI_next {a:C}{l:Nat}{e e':En}{h h':Hp}{r:Ex×En×Hp} (h1:evI cS a (some l) e h=some (.go l,e',h')) (h2:jumpsI a l e' h'=some r):jumpsI a l e h=some r:=by
 obtain⟨n1,g1⟩:=evI_some.1 h1
 obtain⟨n2,g2⟩:=jumpsI_some.1 h2
 refine jumpsI_some.2 ⟨max n1 n2+1,?_⟩
 have k1:=evC_mono (fun _ _ _=>Le.refl _) (show n1≤max n1 n2+1 by omega) a (some l) e h _ g1
 have k2:=jumps_mono (fun e h=>evC_mono (fun _ _ _=>Le.refl _) (show n2≤max n1 n2+1 by omega) a (some l) e h) (show n2≤max n1 n2 by omega) r g2
 rw[jumps,k1]
 simp only[if_true]
 exact k2
theorem jumpsI_stop {a:C}{l:Nat}{e e':En}{h h':Hp}{x:Ex} (hx:∀ l',x≠.go l') (h1:evI cS a (some l) e h=some (x,e',h')):jumpsI a l e h=some (x,e',h'):=by
 obtain⟨n1,g1⟩:=evI_some.1 h1
 refine jumpsI_some.2 ⟨n1+1,?_⟩
 have k1:=evC_mono (fun _ _ _=>Le.refl _) (show n1≤n1+1 by omega) a (some l) e h _ g1
 rw[jumps,k1]
 cases x<;>first | rfl | exact absurd rfl (hx _)
theorem scope_go {a:C}{l:Nat}{e e':En}{h h':Hp}{r:Ex×En×Hp} (hl:hasL a l=true) (h1:evI cS a none e h=some (.go l,e',h')) (h2:jumpsI a l e' h'=some r):evI cS (.scope a) none e h=some r:=by
 rw[evI_scope,h1]
 simp only[scopeR]
 rw[if_pos hl]
 exact h2
theorem scope_stop {a:C}{e e':En}{h h':Hp}{x:Ex} (hx:∀ l',x≠.go l') (h1:evI cS a none e h=some (x,e',h')):evI cS (.scope a) none e h=some (x,e',h'):=by
 rw[evI_scope,h1]
 cases x<;>first | rfl | exact absurd rfl (hx _)
theorem cmpI_neg (a b:Int):-cmpI a b=cmpI b a:=by unfold cmpI;split<;>(split<;>(try split)<;>omega)
theorem cmp_floor {a b c d:Int} (hb:0<b) (hd:0<d) (h:cmpI (a/b) (c/d)≠0):cmpI (a*d) (c*b)=cmpI (a/b) (c/d):=by
 have e1:=Int.mul_ediv_add_emod a b
 have e2:=Int.mul_ediv_add_emod c d
 have a1:=Int.emod_nonneg a (show b≠0 by omega)
 have a2:=Int.emod_lt_of_pos a hb
 have c1:=Int.emod_nonneg c (show d≠0 by omega)
 have c2:=Int.emod_lt_of_pos c hd
 generalize a/b=f at *
 generalize a%b=r at *
 generalize c/d=g at *
 generalize c%d=s at *
 have key:∀ {f g r s b d:Int},0<b→0<d→0≤s→r<b→f<g→(b*f+r)*d<(d*g+s)*b:=by
  intro f g r s b d hb hd hs hr hfg
  have h1:b*(f+1)*d≤b*g*d:=Int.mul_le_mul_of_nonneg_right (Int.mul_le_mul_of_nonneg_left (by omega) (by omega)) (by omega)
  have h2:r*d<b*d:=Int.mul_lt_mul_of_pos_right hr hd
  have h3:0≤s*b:=Int.mul_nonneg hs (by omega)
  have h4:(b*f+r)*d=b*f*d+r*d:=by grind
  have h5:(d*g+s)*b=b*g*d+s*b:=by grind
  have h6:b*(f+1)*d=b*f*d+b*d:=by grind
  omega
 unfold cmpI at h ⊢
 by_cases h1:f<g
 ·have:=key (f:=f) (g:=g) (r:=r) (s:=s) hb hd c1 a2 h1
  rw[e1,e2] at this
  rw[if_pos this,if_pos h1]
 ·by_cases h2:g<f
  ·have:=key (f:=g) (g:=f) (r:=s) (s:=r) hd hb a1 c2 h2
   rw[e1,e2] at this
   rw[if_neg (by omega),if_pos this,if_neg h1,if_pos h2]
  ·simp[h1,h2] at h
theorem cmp_rest {a b c d:Int} (h:a/b=c/d):cmpI (a*d) (c*b)=cmpI (a%b*d) (c%d*b):=by
 have e1:=Int.mul_ediv_add_emod a b
 have e2:=Int.mul_ediv_add_emod c d
 rw[h] at e1
 generalize c/d=f at *
 generalize a%b=r at *
 generalize c%d=s at *
 have h1:a*d=b*f*d+r*d:=by rw[← e1];grind
 have h2:c*b=b*f*d+s*b:=by rw[← e2];grind
 unfold cmpI
 have i1:(a*d<c*b)=(r*d<s*b):=by apply propext;omega
 have i2:(c*b<a*d)=(s*b<r*d):=by apply propext;omega
 simp only[i1,i2]
theorem cmpI_zero {a b:Int}:cmpI a b=0↔a=b:=by unfold cmpI;split<;>(try split)<;>omega
end
section
open Go Num
def cmpX:C:=match b13 with
 | .seq _ (.scope x)=>x
 | _=>.skip
def cmpR:C:=match cmpX with
 | .seq _ (.seq _ (.seq _ x))=>x
 | _=>.skip
def cmpV:C:=match cmpX with
 | .seq x _=>x
 | _=>.skip
def cmpS:C:=match cmpX with
 | .seq _ (.seq x _)=>x
 | _=>.skip
theorem cmpX_eq:cmpX=.seq cmpV (.seq cmpS (.seq (.label 0) cmpR)):=rfl
theorem cmpX_has:hasL cmpX 0=true:=rfl
theorem cmpV_has:hasL cmpV 0=false:=rfl
theorem cmpS_has:hasL cmpS 0=false:=rfl
theorem cmpX_jump (e:En) (h:Hp):evI cS cmpX (some 0) e h=evI cS cmpR none e h:=by
 rw[cmpX_eq,evI_seqL,cmpV_has,evI_seqL,cmpS_has,evI_seqL]
 simp[hasL,evI_label,thenR]
def cpE (H:Hp) (s:Int):En:=[(2,.p H.length 0),(3,.p (H.length+1) 0),(5,.d (.i .i64 s))]
def cpH (H:Hp) (a b c d:Int):Hp:=ratBox (txt c) (txt d)::ratBox (txt a) (txt b)::H
theorem div_call {x y:Int}{h:Hp} (hG:Glb h) (fx:Fits x) (fy:Fits y) (hy:0<y):callV cS false (fnV 47) [.d (.s (txt x)),.d (.s (txt y))] h=some (.val (.d (.tup [.s (txt (x/y)),.s (txt (x%y)),.i .i64 0])),h):=by
 rw[Div_ok _ _ _ hG,opI_txt fx fy,divD,if_neg (by omega)]
set_option maxHeartbeats 4000000 in
theorem cmp_round (H:Hp) (hG:Glb H) (s:Int) (hs:s=1∨s=-1) (a b c d:Int) (fa:Fits a) (fb:Fits b) (fc:Fits c) (fd:Fits d) (hb:0<b) (hd:0<d) :
 evI cS cmpR none (cpE H s) (cpH H a b c d)=some (
  if cmpI (a/b) (c/d)≠0 then (.rt,[(4,.d (.i .i64 (s*cmpI (a/b) (c/d))))],cpH H a b c d)
  else if a%b=0 then (if c%d=0 then (.rt,[(4,.d (.i .i64 0))],cpH H a b c d) else (.rt,[(4,.d (.i .i64 (-s)))],cpH H a b c d))
  else if c%d=0 then (.rt,[(4,.d (.i .i64 s))],cpH H a b c d)
  else (.go 0,cpE H (-s),cpH H b (a%b) d (c%d))):=by
 have hG1:Glb (cpH H a b c d):=(hG.cons _).cons _
 have m1:=div_call hG1 fa fb hb
 have m2:=div_call hG1 fc fd hd
 obtain⟨f1,f2⟩:=ediv_fits fa fb (by omega)
 obtain⟨f3,f4⟩:=ediv_fits fc fd (by omega)
 have cm:=Compare_ok (txt (a/b)) (txt (c/d)) (cpH H a b c d)
 rw[opI_txt f1 f3] at cm
 have hc3:cmpI (a/b) (c/d)=-1∨cmpI (a/b) (c/d)=0∨cmpI (a/b) (c/d)=1:=by unfold cmpI;split<;>(try split)<;>simp
 have w1:IntKind.i64.wrap (s*cmpI (a/b) (c/d))=s*cmpI (a/b) (c/d):=by
  rcases hs with rfl | rfl<;>rcases hc3 with h | h | h<;>rw[h]<;>exact wr64 (by omega) (by omega)
 have w2:IntKind.i64.wrap (-s)=-s:=by rcases hs with rfl | rfl<;>exact wr64 (by omega) (by omega)
 have t1:(txt (a%b)==[48])=decide (a%b=0):=by
  by_cases h:a%b=0
  ·rw[h,txt_zero];rfl
  ·rw[decide_eq_false h,beq_eq_false_iff_ne];exact fun h'=>h (txt_eq_zero.1 h')
 have t2:(txt (c%d)==[48])=decide (c%d=0):=by
  by_cases h:c%d=0
  ·rw[h,txt_zero];rfl
  ·rw[decide_eq_false h,beq_eq_false_iff_ne];exact fun h'=>h (txt_eq_zero.1 h')
 have t1':(txt (a%b)=[48])=(a%b=0):=propext txt_eq_zero
 have t2':(txt (c%d)=[48])=(c%d=0):=propext txt_eq_zero
 obtain⟨k,hk⟩:∃ k,k=cmpI (a/b) (c/d):=⟨_,rfl⟩
 rw[← hk] at cm w1 ⊢
 obtain⟨ra,hra⟩:∃ r,r=a%b:=⟨_,rfl⟩
 obtain⟨rc,hrc⟩:∃ r,r=c%d:=⟨_,rfl⟩
 obtain⟨fa',hfa⟩:∃ r,r=a/b:=⟨_,rfl⟩
 obtain⟨fc',hfc⟩:∃ r,r=c/d:=⟨_,rfl⟩
 rw[← hra] at m1 t1 t1' ⊢
 rw[← hrc] at m2 t2 t2' ⊢
 rw[← hfa] at m1 cm
 rw[← hfc] at m2 cm
 simp only[cpH,ratBox,cpE] at m1 m2 cm ⊢
 obtain⟨ta,hta⟩:∃ t,t=txt ra:=⟨_,rfl⟩
 obtain⟨tc,htc⟩:∃ t,t=txt rc:=⟨_,rfl⟩
 rw[← hta] at m1 t1 t1' ⊢
 rw[← htc] at m2 t2 t2' ⊢
 by_cases hk0:k=0
 ·have hkb:(k != 0)=false:=by simp[hk0]
  by_cases h1:ra=0
  ·by_cases h2:rc=0
   ·simp[cmpR,cmpX,b13,put,eset,eget,D.cells,V.cells,allD,hget,hset,fz,zC,zN,m1,m2,cm,hk0,hkb,t1,t2,t1',t2',h1,h2]
   ·simp[cmpR,cmpX,b13,put,eset,eget,D.cells,V.cells,allD,hget,hset,fz,zC,zN,m1,m2,cm,hk0,hkb,t1,t2,t1',t2',h1,h2,w2]
  ·by_cases h2:rc=0
   ·simp[cmpR,cmpX,b13,put,eset,eget,D.cells,V.cells,allD,hget,hset,fz,zC,zN,m1,m2,cm,hk0,hkb,t1,t2,t1',t2',h1,h2]
   ·simp[cmpR,cmpX,b13,put,eset,eget,D.cells,V.cells,allD,hget,hset,fz,zC,zN,m1,m2,cm,hk0,hkb,t1,t2,t1',t2',h1,h2,w2,evI_goto]
 ·have hkb:(k != 0)=true:=by simp[hk0]
  simp[cmpR,cmpX,b13,put,eset,eget,D.cells,V.cells,allD,hget,hset,fz,zC,zN,m1,m2,cm,hk0,hkb,w1]
end
section
open Go Num
theorem jumpsI_cases {a:C}{l:Nat}{e:En}{h:Hp}{x:Ex}{e2:En}{h2:Hp} (hx:∀ l',x≠.go l') (hj:jumpsI a l e h=some (x,e2,h2)) :
 evI cS a (some l) e h=some (x,e2,h2)∨∃ e' h',evI cS a (some l) e h=some (.go l,e',h')∧jumpsI a l e' h'=some (x,e2,h2):=by
 obtain⟨n,hn⟩:=jumpsI_some.1 hj
 cases n with
 | zero=>simp[jumps] at hn
 | succ n =>
   rw[jumps] at hn
   split at hn
   ·rename_i l' e' h' he
    split at hn
    ·rename_i hl
     subst hl
     refine .inr ⟨e',h',evI_some.2 ⟨_,he⟩,jumpsI_some.2 ⟨n+1,?_⟩⟩
     exact jumps_mono (fun e h=>Le.refl _) (Nat.le_succ n) _ hn
    ·cases hn
   ·exact .inl (evI_some.2 ⟨_,hn⟩)
theorem scope_jump {a:C}{l:Nat}{e e':En}{h h':Hp}{x:Ex}{e2:En}{h2:Hp} (hl:hasL a l=true) (hx:∀ l',x≠.go l') (h1:evI cS a none e h=evI cS a (some l) e' h') (hj:jumpsI a l e' h'=some (x,e2,h2)):evI cS (.scope a) none e h=some (x,e2,h2):=by
 rcases jumpsI_cases hx hj with k | ⟨e3,h3,k1,k2⟩
 ·exact scope_stop hx (h1.trans k)
 ·exact scope_go hl (h1.trans k1) k2
theorem cmp_jump (H:Hp) (hG:Glb H):∀ (n:Nat) (s:Int),(s=1∨s=-1)→∀ (a b c d:Int),b.natAbs=n→Fits a→Fits b→Fits c→Fits d→0<b→0<d →
 ∃ B1 B2,jumpsI cmpX 0 (cpE H s) (cpH H a b c d)=some (.rt,[(4,.d (.i .i64 (s*cmpI (a*d) (c*b))))],B1::B2::H):=by
 intro n
 induction n using Nat.strongRecOn with
 | _ n ih =>
   intro s hs a b c d hn fa fb fc fd hb hd
   have hr:=cmp_round H hG s hs a b c d fa fb fc fd hb hd
   rw[← cmpX_jump] at hr
   have nogo:∀ l',Ex.rt≠.go l':=fun l' h=>by cases h
   by_cases hk:cmpI (a/b) (c/d)=0
   ·rw[if_neg (by simp[hk])] at hr
    have he:a/b=c/d:=cmpI_zero.1 hk
    have hc:=cmp_rest he
    have a1:=Int.emod_nonneg a (show b≠0 by omega)
    have a2:=Int.emod_lt_of_pos a hb
    have c1:=Int.emod_nonneg c (show d≠0 by omega)
    have c2:=Int.emod_lt_of_pos c hd
    obtain⟨f1,f2⟩:=ediv_fits fa fb (by omega)
    obtain⟨f3,f4⟩:=ediv_fits fc fd (by omega)
    by_cases h1:a%b=0
    ·rw[if_pos h1] at hr
     by_cases h2:c%d=0
     ·rw[if_pos h2] at hr
      have:cmpI (a*d) (c*b)=0:=by rw[hc,h1,h2,Int.zero_mul,Int.zero_mul];rfl
      rw[this,Int.mul_zero]
      exact⟨_,_,jumpsI_stop nogo hr⟩
     ·rw[if_neg h2] at hr
      have hp:0<c%d*b:=Int.mul_pos (by omega) hb
      have:cmpI (a*d) (c*b)=-1:=by rw[hc,h1,Int.zero_mul];unfold cmpI;rw[if_pos hp]
      rw[this,show s * -1=-s by omega]
      exact⟨_,_,jumpsI_stop nogo hr⟩
    ·rw[if_neg h1] at hr
     by_cases h2:c%d=0
     ·rw[if_pos h2] at hr
      have hp:0<a%b*d:=Int.mul_pos (by omega) hd
      have:cmpI (a*d) (c*b)=1:=by rw[hc,h2,Int.zero_mul];unfold cmpI;rw[if_neg (by omega),if_pos hp]
      rw[this,Int.mul_one]
      exact⟨_,_,jumpsI_stop nogo hr⟩
     ·rw[if_neg h2] at hr
      obtain⟨B1,B2,hj⟩:=ih (a%b).natAbs (by omega) (-s) (by omega) b (a%b) d (c%d) rfl fb f2 fd f4 (by omega) (by omega)
      have:-s*cmpI (b*(c%d)) (d*(a%b))=s*cmpI (a*d) (c*b):=by
       rw[hc,← cmpI_neg (c%d*b) (a%b*d),Int.mul_comm b,Int.mul_comm d,Int.neg_mul,Int.mul_neg]
      rw[this] at hj
      exact⟨B1,B2,jumpsI_next hr hj⟩
   ·rw[if_pos hk] at hr
    rw[cmp_floor hb hd hk]
    exact⟨_,_,jumpsI_stop nogo hr⟩
def cmpQ (p q:Rat):Int:=cmpI (p.num*q.den) (q.num*p.den)
theorem RCompare_ok (a b c d:List UInt8) (H:Hp) (hG:Glb H):callV cS false (fnV 13) [.d (.agg [.s a,.s b]),.d (.agg [.s c,.s d])] H=some (.val (.d (opQ (fun p q=>.i .i64 (cmpQ p q)) (.i .i64 0) a b c d)),H):=by
 rw[callV_fn (sf:=c13) rfl rfl rfl rfl]
 have hG1:Glb (ratBox c d::ratBox a b::H):=(hG.cons _).cons _
 have v1:=RValid_ok a b _ hG1
 have v2:=RValid_ok c d _ hG1
 have hb13:b13=.seq (.reg [⟨some 2,.box 26 (.t 0),none⟩,⟨some 3,.box 26 (.t 1),none⟩,⟨some 4,.move (.c (.i .i64 0)),none⟩] [2,3]) (.scope cmpX):=rfl
 have hin:∀ k,evI cS b13 none (enter [.d (.agg [.s a,.s b]),.d (.agg [.s c,.s d])]) H=k↔evI cS (.scope cmpX) none [(2,.p H.length 0),(3,.p (H.length+1) 0)] (ratBox c d::ratBox a b::H)=k:=by
  intro k
  rw[hb13]
  simp[put,eset,eget,D.cells,V.cells,allD,hget,hset,fz,zC,zN,ratBox]
 cases hp:RQ a b with
 | none =>
   rw[hp] at v1
   have hq:opQ (fun p q=>.i .i64 (cmpQ p q)) (.i .i64 0) a b c d=.i .i64 0:=by simp[opQ,hp]
   rw[hq]
   have hs:evI cS cmpX none [(2,.p H.length 0),(3,.p (H.length+1) 0)] (ratBox c d::ratBox a b::H)=some (.rt,[(4,.d (.i .i64 0))],ratBox c d::ratBox a b::H):=by
    simp only[ratBox] at v1 ⊢
    simp[cmpX,b13,put,eset,eget,D.cells,V.cells,allD,hget,hset,fz,zC,zN,v1]
   have:=(hin _).2 (scope_stop (fun l' h=>by cases h) hs)
   simp only[List.map_nil,List.nil_append,List.append_nil,c13]
   rw[this]
   simp[put,eset,eget,D.cells,V.cells,allD,hget,hset,fz,zC,zN,ratBox]
 | some p =>
   rw[hp] at v1
   cases hq:RQ c d with
   | none =>
     rw[hq] at v2
     have he:opQ (fun p q=>.i .i64 (cmpQ p q)) (.i .i64 0) a b c d=.i .i64 0:=by simp[opQ,hp,hq]
     rw[he]
     have hs:evI cS cmpX none [(2,.p H.length 0),(3,.p (H.length+1) 0)] (ratBox c d::ratBox a b::H)=some (.rt,[(4,.d (.i .i64 0))],ratBox c d::ratBox a b::H):=by
      simp only[ratBox] at v1 v2 ⊢
      simp[cmpX,b13,put,eset,eget,D.cells,V.cells,allD,hget,hset,fz,zC,zN,v1,v2]
     have:=(hin _).2 (scope_stop (fun l' h=>by cases h) hs)
     simp only[List.map_nil,List.nil_append,List.append_nil,c13]
     rw[this]
     simp[put,eset,eget,D.cells,V.cells,allD,hget,hset,fz,zC,zN,ratBox]
   | some q =>
     rw[hq] at v2
     have he:opQ (fun p q=>.i .i64 (cmpQ p q)) (.i .i64 0) a b c d=.i .i64 (cmpQ p q):=by simp[opQ,hp,hq]
     rw[he]
     obtain⟨⟨fp1,fp2⟩,rfl,rfl⟩:=RQ_some hp
     obtain⟨⟨fq1,fq2⟩,rfl,rfl⟩:=RQ_some hq
     have hd1:(0:Int)<p.den:=by have:=p.den_pos;omega
     have hd2:(0:Int)<q.den:=by have:=q.den_pos;omega
     obtain⟨B1,B2,hj⟩:=cmp_jump H hG _ 1 (.inl rfl) p.num p.den q.num q.den rfl fp1 fp2 fq1 fq2 hd1 hd2
     rw[Int.one_mul] at hj
     have hs:evI cS cmpX none [(2,.p H.length 0),(3,.p (H.length+1) 0)] (ratBox (txt q.num) (txt q.den)::ratBox (txt p.num) (txt p.den)::H)=evI cS cmpX (some 0) (cpE H 1) (cpH H p.num p.den q.num q.den):=by
      rw[cmpX_jump,cmpX_eq,evI_seq]
      have hV:evI cS cmpV none [(2,.p H.length 0),(3,.p (H.length+1) 0)] (ratBox (txt q.num) (txt q.den)::ratBox (txt p.num) (txt p.den)::H)=some (.nor,[(2,.p H.length 0),(3,.p (H.length+1) 0),(20,.d (.b false))],cpH H p.num p.den q.num q.den):=by
       simp only[ratBox] at v1 v2 ⊢
       simp[cmpV,cmpX,b13,put,eset,eget,D.cells,V.cells,allD,hget,hset,fz,zC,zN,v1,v2,cpH,ratBox]
      rw[hV]
      simp only[thenR]
      rw[evI_seq]
      have hS:evI cS cmpS none [(2,.p H.length 0),(3,.p (H.length+1) 0),(20,.d (.b false))] (cpH H p.num p.den q.num q.den)=some (.nor,cpE H 1,cpH H p.num p.den q.num q.den):=by
       simp[cmpS,cmpX,b13,put,eset,eget,D.cells,V.cells,allD,hget,hset,fz,zC,zN,cpE]
      rw[hS]
      simp only[thenR]
      rw[evI_seq,evI_label]
      rfl
     have:=(hin _).2 (scope_jump cmpX_has (fun l' h=>by cases h) hs hj)
     simp only[List.map_nil,List.nil_append,List.append_nil,c13]
     rw[this]
     simp[put,eset,eget,D.cells,V.cells,allD,hget,hset,fz,zC,zN,cmpQ]
end
section
open Go Num
theorem digs_pow10 (k:Nat):digs 10 (10 ^ k)=List.replicate k 0++[1]:=by
 induction k with
 | zero=>simp;rw[digs_pos (by omega) (by omega)];simp[digs_zero]
 | succ k ih =>
   have hp:0<10 ^ k:=Nat.pow_pos (by omega)
   rw[Nat.pow_succ,Nat.mul_comm,digs_pos (by omega) (by omega),Nat.mul_mod_right,Nat.mul_div_cancel_left _ (by omega),ih,List.replicate_succ];rfl
theorem txt_pow10 (k:Nat):txt ((10 ^ k:Nat):Int)=49::List.replicate k 48:=by
 have hp:0<10 ^ k:=Nat.pow_pos (by omega)
 unfold txt
 rw[if_neg (by omega),Int.natAbs_natCast,txtN_pos hp,digs_pow10]
 simp[List.map_replicate,ch]
theorem fits_pow10 {k:Nat} (h:k≤30):Fits ((10 ^ k:Nat):Int):=by
 unfold Fits
 rw[Int.natAbs_natCast]
 exact Nat.pow_lt_pow_right (by omega) (by omega)
def rdI (up:Bool) (x y:Int):Int:=if up=true∧x%y≠0 then x/y+1 else x/y
open Classical in
noncomputable def rdD (up:Bool) (n:Int) (q:Rat):D:=if 0≤n∧n≤30 then (if Fits (q.num*(10 ^ n.toNat:Nat)) then makeD (rdI up (q.num*(10 ^ n.toNat:Nat)) q.den) (10 ^ n.toNat:Nat) else errR) else errR
noncomputable def opQ1 (f:Rat→D) (e:D) (a b:List UInt8):D:=match RQ a b with
 | some p=>f p
 | none=>e
theorem rdI_fits {up:Bool}{x y:Int} (hx:Fits x) (hy:0<y) (fy:Fits y):Fits (rdI up x y):=by
 unfold rdI
 split
 ·rename_i h
  have hm:=Int.mul_ediv_add_emod x y
  have h1:=Int.emod_nonneg x (show y≠0 by omega)
  have h2:=Int.emod_lt_of_pos x hy
  have hab:=Int.natAbs_ediv_le_natAbs x y
  by_cases h0:0≤x
  ·have h3:x/y<x:=by
    have hq:0≤x/y:=Int.ediv_nonneg h0 (by omega)
    have hy2:2≤y:=by omega
    have:2*(x/y)≤y*(x/y):=Int.mul_le_mul_of_nonneg_right hy2 hq
    omega
   have hq:0≤x/y:=Int.ediv_nonneg h0 (by omega)
   unfold Fits at *; omega
  ·have hq:x/y<0:=Int.ediv_neg_of_neg_of_pos (by omega) hy
   unfold Fits at *; omega
 ·exact(ediv_fits hx fy (by omega)).1
set_option maxHeartbeats 4000000 in
theorem round_ok (a b:List UInt8) (n:Int) (hn:I64 n) (up:Bool) (H:Hp) (hG:Glb H):callV cS false (fnV 112) [.d (.agg [.s a,.s b]),.d (.i .i64 n),.d (.b up)] H=some (.val (.d (opQ1 (rdD up n) errR a b)),H):=by
 rw[callV_fn (sf:=c112) rfl rfl rfl rfl]
 have hG1:∀ fl,Glb (wk fl::ratBox [] []::ratBox a b::H):=fun fl=>((hG.cons _).cons _).cons _
 have hh:∀ fl,hget (wk fl::ratBox [] []::ratBox a b::H) (H.length+1+1)=some (wk fl):=fun fl=>by simp[hget,wk,ratBox]
 have hws:∀ fl fl',hset (wk fl::ratBox [] []::ratBox a b::H) (H.length+1+1) (wk fl')=wk fl'::ratBox [] []::ratBox a b::H:=fun fl fl'=>by simp[hset,wk,ratBox]
 have hc:=fun fl=>check1_ok (hG1 fl) (hh fl) a b
 simp only[hws] at hc
 by_cases hr:0≤n∧n≤30
 ·have n1:¬ n<0:=by omega
  have n2:¬ 30<n:=by omega
  cases hp:RQ a b with
  | none =>
    have he:opQ1 (rdD up n) errR a b=errR:=by simp[opQ1,hp]
    rw[he]
    have hc':=hc false
    rw[hp] at hc'
    simp only[wk,ratBox,errR,dR0,Option.isSome_none,Bool.not_false,Bool.or_true] at hc' ⊢
    simp[c112,b112,put,eset,eget,D.cells,V.cells,allD,hget,hset,fz,zC,zN,n1,n2,hc',setParts,chunk1,allCellsD]
  | some p =>
    have he:opQ1 (rdD up n) errR a b=rdD up n p:=by simp[opQ1,hp]
    rw[he]
    have hc':=hc false
    rw[hp] at hc'
    obtain⟨⟨fp1,fp2⟩,rfl,rfl⟩:=RQ_some hp
    obtain⟨m,hm⟩:∃ m:Nat,n=m:=⟨n.toNat,by omega⟩
    have hm30:m≤30:=by omega
    have hnt:n.toNat=m:=by omega
    have fw:=fits_pow10 hm30
    have hrd:rdD up n p=(open Classical in if Fits (p.num*(10 ^ m:Nat)) then makeD (rdI up (p.num*(10 ^ m:Nat)) p.den) (10 ^ m:Nat) else errR):=by
     unfold rdD;rw[if_pos hr,hnt]
    rw[hrd]
    have htw:=txt_pow10 m
    have hrp:=call_repeat m (by omega)
    have hlr:(List.replicate m (48:UInt8)).length=m:=by simp
    have hlb:1+m≤9223372036854775807:=by omega
    have hpd:(0:Int)<p.den:=by have:=p.den_pos;omega
    have g0:=hh false
    have G0:=hG1 false
    obtain⟨w,hw⟩:∃ w:Int,w=((10 ^ m:Nat):Int):=⟨_,rfl⟩
    obtain⟨zs,hzs⟩:∃ zs,zs=List.replicate m (48:UInt8):=⟨_,rfl⟩
    rw[← hw] at fw htw ⊢
    rw[← hzs] at htw hrp hlr
    subst hm
    by_cases f1:Fits (p.num*w)
    ·rw[if_pos f1]
     have m1:=mul_fit G0 g0 fp1 fw f1
     have hdv:=div_call G0 f1 fp2 hpd
     have frd:=rdI_fits (up:=up) f1 hpd fp2
     have hrr:=reduced_false G0 g0 frd fw
     obtain⟨s,t,e,hfm⟩:=makeD_form (rdI up (p.num*w) p.den) w
     rw[hfm] at hrr ⊢
     obtain⟨x,hx⟩:∃ x,x=p.num*w:=⟨_,rfl⟩
     rw[← hx] at m1 hdv hrr f1 frd
     have tr:(txt (x%p.den)==[48])=decide (x%p.den=0):=by
      by_cases h:x%p.den=0
      ·rw[h,txt_zero];rfl
      ·rw[decide_eq_false h,beq_eq_false_iff_ne];exact fun h'=>h (txt_eq_zero.1 h')
     have tr':(txt (x%p.den)=[48])=(x%p.den=0):=propext txt_eq_zero
     rw[htw] at m1 hrr
     by_cases hup:up=true∧x%p.den≠0
     ·have hrv:rdI up x p.den=x/p.den+1:=by unfold rdI;rw[if_pos hup]
      have hadd:callV cS false (fnV 114) [.p (H.length+1+1) 0,.d (.fn 71 [] []),.d (.s (txt (x/p.den))),.d (.s [49])] (wk false::ratBox [] []::ratBox (txt p.num) (txt p.den)::H)=some (.val (.d (.s (txt (x/p.den+1)))),wk false::ratBox [] []::ratBox (txt p.num) (txt p.den)::H):=by
       refine do_ok g0 ?_
       rw[Add_ok _ _ _ G0,opI_some (ival_txt (ediv_fits f1 fp2 (by omega)).1) (by rw[← txt_one];exact ival_txt fits_one),fitD_of (by rw[← hrv];exact frd)]
      rw[hrv] at hrr
      obtain⟨rt,hrt⟩:∃ rt,rt=txt (x%p.den):=⟨_,rfl⟩
      rw[← hrt] at tr tr' hdv
      have hu:=hup.1
      subst hu
      simp only[wk,ratBox,Option.isSome_some,Bool.not_true,Bool.or_false] at hc' m1 hdv hadd hrr
      simp[c112,b112,put,eset,eget,D.cells,V.cells,allD,hget,hset,fz,zC,zN,n1,n2,hc',hrp,hlr,hlb,m1,hdv,hadd,tr,tr',hup.2,hrr,setParts,chunk1,allCellsD]
     ·have hrv:rdI up x p.den=x/p.den:=by unfold rdI;rw[if_neg hup]
      rw[hrv] at hrr
      obtain⟨rt,hrt⟩:∃ rt,rt=txt (x%p.den):=⟨_,rfl⟩
      rw[← hrt] at tr tr' hdv
      simp only[wk,ratBox,Option.isSome_some,Bool.not_true,Bool.or_false] at hc' m1 hdv hrr
      cases up
      ·simp[c112,b112,put,eset,eget,D.cells,V.cells,allD,hget,hset,fz,zC,zN,n1,n2,hc',hrp,hlr,hlb,m1,hdv,hrr,setParts,chunk1,allCellsD]
      ·have h0:x%p.den=0:=by
        by_cases h:x%p.den=0
        ·exact h
        ·exact absurd ⟨rfl,h⟩ hup
       rw[h0] at tr tr'
       simp only[decide_true,eq_self] at tr tr'
       simp[c112,b112,put,eset,eget,D.cells,V.cells,allD,hget,hset,fz,zC,zN,n1,n2,hc',hrp,hlr,hlb,m1,hdv,tr,tr',hrr,setParts,chunk1,allCellsD]
    ·rw[if_neg f1]
     have m1:=mul_nofit G0 g0 fp1 fw f1
     rw[hws] at m1
     rw[htw] at m1
     simp only[wk,ratBox,errR,dR0,Option.isSome_some,Bool.not_true,Bool.or_false] at hc' m1 ⊢
     simp[c112,b112,put,eset,eget,D.cells,V.cells,allD,hget,hset,fz,zC,zN,n1,n2,hc',hrp,hlr,hlb,m1,setParts,chunk1,allCellsD]
 ·have he:opQ1 (rdD up n) errR a b=errR:=by
   unfold opQ1
   split
   ·unfold rdD;rw[if_neg hr]
   ·rfl
  rw[he]
  have hc':=hc true
  simp only[wk,ratBox,errR,dR0,Bool.true_or] at hc' ⊢
  by_cases n1:n<0
  ·simp[c112,b112,put,eset,eget,D.cells,V.cells,allD,hget,hset,fz,zC,zN,n1,hc',setParts,chunk1,allCellsD]
  ·have n2:30<n:=by omega
   simp[c112,b112,put,eset,eget,D.cells,V.cells,allD,hget,hset,fz,zC,zN,n1,n2,hc',setParts,chunk1,allCellsD]
end
section
open Go Num
theorem rdD_form (up:Bool) (n:Int) (a b:List UInt8):∃ s t e,opQ1 (rdD up n) errR a b=.tup [.agg [.s s,.s t],.i .i64 e]:=by
 unfold opQ1
 split
 ·unfold rdD
  split
  ·split
   ·exact makeD_form _ _
   ·exact⟨_,_,_,rfl⟩
  ·exact⟨_,_,_,rfl⟩
 ·exact⟨_,_,_,rfl⟩
theorem Down_ok (a b:List UInt8) (n:Int) (hn:I64 n) (H:Hp) (hG:Glb H):callV cS false (fnV 52) [.d (.agg [.s a,.s b]),.d (.i .i64 n)] H=some (.val (.d (opQ1 (rdD false n) errR a b)),H):=by
 rw[callV_fn (sf:=c52) rfl rfl rfl rfl]
 have hs:=round_ok a b n hn false (ratBox [] []::ratBox a b::H) ((hG.cons _).cons _)
 obtain⟨s,t,e,he⟩:=rdD_form false n a b
 rw[he] at hs ⊢
 simp only[ratBox] at hs
 simp[c52,b52,put,eset,eget,D.cells,V.cells,allD,hget,hset,fz,zC,zN,hs]
theorem Up_ok (a b:List UInt8) (n:Int) (hn:I64 n) (H:Hp) (hG:Glb H):callV cS false (fnV 53) [.d (.agg [.s a,.s b]),.d (.i .i64 n)] H=some (.val (.d (opQ1 (rdD true n) errR a b)),H):=by
 rw[callV_fn (sf:=c53) rfl rfl rfl rfl]
 have hs:=round_ok a b n hn true (ratBox [] []::ratBox a b::H) ((hG.cons _).cons _)
 obtain⟨s,t,e,he⟩:=rdD_form true n a b
 rw[he] at hs ⊢
 simp only[ratBox] at hs
 simp[c53,b53,put,eset,eget,D.cells,V.cells,allD,hget,hset,fz,zC,zN,hs]
end
section
open Go Num
abbrev EO:=Nat×Nat
def eV (o:EO):V:=.ifc 227 (.p o.1 o.2)
def ErrAt (H:Hp) (o:EO):Prop:=hget H 0=some (.ro [eV o])∧o.1<H.length
theorem Over.err {H h:Hp}{o:EO} (hh:Over H h) (hE:ErrAt H o):ErrAt h o:=⟨(hh.2 _ (hget_lt' hE.1)).trans hE.1,Nat.lt_of_lt_of_le hE.2 hh.1⟩
theorem ErrAt.cons {H:Hp}{o:EO} (hE:ErrAt H o) (x:Ob):ErrAt (x::H) o:=(Over.refl H).cons.err hE
theorem fin_pan {h h':Hp}{v:V} (hv:vlt h.length v=true) (hl:h.length≤h'.length) (hk:HOk h h'):fin false h (.pan v,h')=some (.pan v,trunc h.length h'):=by
 simp[fin,hv,hl,hk]
theorem check_true (H:Hp):callV cS false (fnV 67) [.d (.b true)] H=some (.val (.d (.tup [])),H):=by
 rw[callV_fn (sf:=c67) rfl rfl rfl rfl]
 simp[c67,b67,put,eset,eget,D.cells,V.cells,allD,hget,hset,fz,zC,zN]
theorem check_false {H:Hp}{o:EO} (hE:ErrAt H o):callV cS false (fnV 67) [.d (.b false)] H=some (.pan (eV o),H):=by
 rw[callV_fn (sf:=c67) rfl rfl rfl rfl]
 obtain⟨h1,h2⟩:=hE
 have hf:=fin_pan (h:=H) (h':=H) (v:=eV o) (by simp[eV,vlt,h2]) (Nat.le_refl _) (HOk.refl H)
 rw[trunc_self] at hf
 simp only[eV] at h1 hf ⊢
 simp[c67,b67,put,eset,eget,D.cells,V.cells,allD,hget,hset,fz,zC,zN,h1,hf]
theorem must_ok (a b:List UInt8) (H:Hp):callV cS false (fnV 51) [.d (.agg [.s a,.s b]),.d (.i .i64 0)] H=some (.val (.d (.agg [.s a,.s b])),H):=by
 rw[callV_fn (sf:=c51) rfl rfl rfl rfl]
 have h1:=check_true
 simp[c51,b51,put,eset,eget,D.cells,V.cells,allD,hget,hset,fz,zC,zN,h1]
theorem must_fail (a b:List UInt8) (e:Int) (he:e≠0) {H:Hp}{o:EO} (hE:ErrAt H o):callV cS false (fnV 51) [.d (.agg [.s a,.s b]),.d (.i .i64 e)] H=some (.pan (eV o),H):=by
 rw[callV_fn (sf:=c51) rfl rfl rfl rfl]
 have h1:=check_false ((hE.cons (ratBox a b)).cons (ratBox [] []))
 have heb:(e==0)=false:=by rw[beq_eq_false_iff_ne];exact he
 have hf:=fin_pan (h:=H) (h':=ratBox [] []::ratBox a b::H) (v:=eV o) (by simp[eV,vlt,hE.2]) (by simp<;>omega) (by rw[HOk_cons' (by simp),HOk_cons' (Nat.le_refl _)];exact HOk.refl H)
 rw[trunc_cons' (by simp),trunc_cons' (Nat.le_refl _),trunc_self] at hf
 simp only[ratBox,eV] at h1 hf ⊢
 simp[c51,b51,put,eset,eget,D.cells,V.cells,allD,hget,hset,fz,zC,zN,he,heb,h1,hf]
theorem mustS_ok (a:List UInt8) (H:Hp):callV cS false (fnV 70) [.d (.s a),.d (.i .i64 0)] H=some (.val (.d (.s a)),H):=by
 rw[callV_fn (sf:=c70) rfl rfl rfl rfl]
 have h1:=check_true
 simp[c70,b70,put,eset,eget,D.cells,V.cells,allD,hget,hset,fz,zC,zN,h1]
theorem mustS_fail (a:List UInt8) (e:Int) (he:e≠0) {H:Hp}{o:EO} (hE:ErrAt H o):callV cS false (fnV 70) [.d (.s a),.d (.i .i64 e)] H=some (.pan (eV o),H):=by
 rw[callV_fn (sf:=c70) rfl rfl rfl rfl]
 have h1:=check_false hE
 have heb:(e==0)=false:=by rw[beq_eq_false_iff_ne];exact he
 have hf:=fin_pan (h:=H) (h':=H) (v:=eV o) (by simp[eV,vlt,hE.2]) (Nat.le_refl _) (HOk.refl H)
 rw[trunc_self] at hf
 simp only[eV] at h1 hf ⊢
 simp[c70,b70,put,eset,eget,D.cells,V.cells,allD,hget,hset,fz,zC,zN,he,heb,h1,hf]
noncomputable def VQ (a b c d:List UInt8):Option (Rat×Rat):=match RQ a b,RQ c d with
 | some p,some q=>if cmpQ p q≤0 then some (p,q) else none
 | _,_=>none
def dV (a b c d:List UInt8):D:=.agg [.s a,.s b,.s c,.s d]
theorem EValid_ok (a b c d:List UInt8) (H:Hp) (hG:Glb H):callV cS false (fnV 35) [.d (dV a b c d)] H=some (.val (.d (.b (VQ a b c d).isSome)),H):=by
 rw[callV_fn (sf:=c35) rfl rfl rfl rfl]
 have hG1:Glb (.box 29 [.d (.s a),.d (.s b),.d (.s c),.d (.s d)]::H):=hG.cons _
 have v1:=RValid_ok a b _ hG1
 have v2:=RValid_ok c d _ hG1
 have cm:=RCompare_ok a b c d _ hG1
 cases hp:RQ a b with
 | none =>
   rw[hp] at v1
   have:VQ a b c d=none:=by simp[VQ,hp]
   rw[this]
   simp[c35,b35,put,eset,eget,D.cells,V.cells,allD,hget,hset,fz,zC,zN,dV,v1]
 | some p =>
   rw[hp] at v1
   cases hq:RQ c d with
   | none =>
     rw[hq] at v2
     have:VQ a b c d=none:=by simp[VQ,hp,hq]
     rw[this]
     simp[c35,b35,put,eset,eget,D.cells,V.cells,allD,hget,hset,fz,zC,zN,dV,v1,v2]
   | some q =>
     rw[hq] at v2
     have hc:opQ (fun p q=>.i .i64 (cmpQ p q)) (.i .i64 0) a b c d=.i .i64 (cmpQ p q):=by simp[opQ,hp,hq]
     rw[hc] at cm
     have:(VQ a b c d).isSome=decide (cmpQ p q≤0):=by
      simp only[VQ,hp,hq]
      split
      ·rename_i h;simp[h]
      ·rename_i h;simp<;>omega
     rw[this]
     simp[c35,b35,put,eset,eget,D.cells,V.cells,allD,hget,hset,fz,zC,zN,dV,v1,v2,cm]
end
section
open Go Num
structure IV where
 a:List UInt8
 b:List UInt8
 c:List UInt8
 d:List UInt8
noncomputable def IV.ok (x:IV):Bool:=(VQ x.a x.b x.c x.d).isSome
def IV.D (x:IV):Go.Proofs.YtmiioebapckcoaaGreatDoor.D:=.agg [.s x.a,.s x.b,.s x.c,.s x.d]
def InvF (f:FuncId):Prop:=∀ (x:IV) (H:Hp),Glb H→callV cS false (fnV f) [.d x.D] H=some (.val (.d (.b (!x.ok))),H)
theorem inv1_ok:InvF 111:=by
 intro x H hG
 rw[callV_fn (sf:=c111) rfl rfl rfl rfl]
 have h1:=EValid_ok x.a x.b x.c x.d (.box 29 [.d (.s x.a),.d (.s x.b),.d (.s x.c),.d (.s x.d)]::H) (hG.cons _)
 simp only[dV] at h1
 simp[c111,b111,put,eset,eget,D.cells,V.cells,allD,hget,hset,fz,zC,zN,IV.D,h1,IV.ok]
theorem inv2_ok:InvF 141:=by
 intro x H hG
 rw[callV_fn (sf:=c141) rfl rfl rfl rfl]
 have h1:=EValid_ok x.a x.b x.c x.d (.box 29 [.d (.s x.a),.d (.s x.b),.d (.s x.c),.d (.s x.d)]::H) (hG.cons _)
 simp only[dV] at h1
 simp[c141,b141,put,eset,eget,D.cells,V.cells,allD,hget,hset,fz,zC,zN,IV.D,h1,IV.ok]
theorem allI (l:List IV):allCellsD 4 (l.map IV.D)=true:=by induction l<;>simp[allCellsD,IV.D,D.cells,scDs,scD, *]
theorem index_loop {f:FuncId} (hf:InvF f) (H:Hp) (hG:Glb H) (l:List IV) (hl:l.length<4611686018427387904):∀ (q p:List IV),l=p++q →
 ∃ e,evI cS (.loop l163_0) none [(0,.d (.ls (l.map IV.D))),(1,.d (.fn f [] [])),(7,.d (.i .i64 l.length)),(8,.d (.i .i64 p.length))] H=some (if q.all IV.ok=true then .ex 0 else .rt,e,H)∧(q.all IV.ok=false→∃ i:Nat,e=[(4,.d (.i .i64 i))]):=by
 intro q
 induction q with
 | nil =>
   intro p hp
   rw[List.append_nil] at hp
   subst hp
   rw[evI_loop]
   simp[l163_0,put,eset,eget,D.cells,V.cells,allD,hget,hset,fz,zC,zN]
 | cons x q ih =>
   intro p hp
   have hpl:p.length<l.length:=by rw[hp];simp
   have hpl':(p.length:Int)<l.length:=by omega
   have ix:l[p.length]=x:=by
    have:l[p.length]? = some x:=by rw[hp];simp
    rw[List.getElem?_eq_getElem hpl] at this;exact Option.some.inj this
   have ha:=allI l
   have hx:=hf x H hG
   have w:IntKind.i64.wrap ((p.length:Int)+1)=(p.length:Int)+1:=wr64 (by omega) (by omega)
   have hxc:x.D.cells=[.s x.a,.s x.b,.s x.c,.s x.d]:=rfl
   have hxd:x.D=.agg [.s x.a,.s x.b,.s x.c,.s x.d]:=rfl
   simp only[hxd] at hx
   rw[evI_loop,List.all_cons]
   cases hok:x.ok with
   | true =>
     rw[hok] at hx
     obtain⟨e,h1,h2⟩:=ih (p++[x]) (by rw[hp];simp)
     rw[show (((p++[x]).length:Nat):Int)=(p.length:Int)+1 by simp] at h1
     rw[Bool.true_and]
     refine⟨e,?_,h2⟩
     rw[← h1]
     simp[l163_0,put,eset,eget,D.cells,V.cells,allD,hget,hset,fz,zC,zN,hpl,hpl',ix,ha,hxd,hx,w]
   | false =>
     rw[hok] at hx
     rw[Bool.false_and]
     refine⟨[(4,.d (.i .i64 p.length))],?_,fun _=>⟨_,rfl⟩⟩
     simp[l163_0,put,eset,eget,D.cells,V.cells,allD,hget,hset,fz,zC,zN,hpl,hpl',ix,ha,hxd,hx,w]
theorem contains_ok {f:FuncId} (hf:InvF f) (l:List IV) (hl:l.length<4611686018427387904) (H:Hp) (hG:Glb H) :
 callV cS false (fnV 110) [.d (.ls (l.map IV.D)),.d (.fn f [] [])] H=some (.val (.d (.b (!l.all IV.ok))),H):=by
 have hi:∃ i:Int,callV cS false (fnV 163) [.d (.ls (l.map IV.D)),.d (.fn f [] [])] H=some (.val (.d (.i .i64 i)),H)∧decide (0≤i) = !l.all IV.ok:=by
  obtain⟨e,h1,h2⟩:=index_loop hf H hG l hl l [] rfl
  rw[show (([]:List IV).length:Int)=0 from rfl] at h1
  cases ha:l.all IV.ok with
  | true =>
    rw[if_pos ha] at h1
    refine⟨-1,?_,rfl⟩
    rw[callV_fn (sf:=c163) rfl rfl rfl rfl]
    simp[c163,b163,put,eset,eget,D.cells,V.cells,allD,hget,hset,fz,zC,zN,h1]
  | false =>
    rw[if_neg (by rw[ha];simp)] at h1
    obtain⟨i,hi⟩:=h2 ha
    subst hi
    refine⟨i,?_,by simp⟩
    rw[callV_fn (sf:=c163) rfl rfl rfl rfl]
    simp[c163,b163,put,eset,eget,D.cells,V.cells,allD,hget,hset,fz,zC,zN,h1]
 obtain⟨i,h1,h2⟩:=hi
 rw[callV_fn (sf:=c110) rfl rfl rfl rfl]
 rw[← h2]
 simp[c110,b110,put,eset,eget,D.cells,V.cells,allD,hget,hset,fz,zC,zN,h1]
end
section
open Go Num
theorem call_is {h:Hp}{o:EO}:callV cS false (fnV 109) [eV o,eV o] h=some (.val (.d (.b true)),h):=by
 have hc:cS (.fn 109) [eV o,eV o] h=some (.ret (.d (.b true)),h):=by
  rw[call_X (g:=fun _=>xIs) rfl rfl]
  simp[xIs,eV]
 simp only[callV,List.map_nil,List.nil_append,List.append_nil,hc]
 exact fin_self
theorem callV_B {keep:Bool}{g:FuncId}{args:List V}{h:Hp}{sf:SF} (h1:noOrc g=true) (h2:xF g=none) (h3:lookF tabF g=some sf) :
 callV cS keep (fnV g) args h=(match bodyOf S cS (fun c e h=>evI cS c none e h) sf args h with
  | some r=>fin keep h r
  | none=>none):=by
 rw[← callI_B SX (orcN h1 args) h2 h3]
 simp only[callV,List.map_nil,List.nil_append,List.append_nil]
 rfl
def zI:D:=.agg [.s [],.s [],.s [],.s []]
def cbH (H:Hp) (x:D) (e:Int):Hp:=.box 31 [.d (.i .i64 e)]::.box 29 (x.cells.map .d)::H
theorem defer_none (H:Hp) (x:D) (e:Int) (hx:x.cells.length=4):callD S cS (fun c e h=>evI cS c none e h) (.fn 108 [] [.p H.length 0,.p (H.length+1) 0]) [] none (cbH H x e)=some (cbH H x e):=by
 have hD:S.D 108=some d108:=rfl
 simp only[callD,runD,hD]
 simp[d108,put,eset,eget,D.cells,V.cells,allD,hget,hset,fz,zC,zN]
theorem defer_err {H:Hp}{o:EO} (hE:ErrAt H o):callD S cS (fun c e h=>evI cS c none e h) (.fn 108 [] [.p H.length 0,.p (H.length+1) 0]) [] (some (eV o)) (cbH H zI 0)=some (.box 29 [.d (.s []),.d (.s []),.d (.s []),.d (.s [])]::cbH H zI 50):=by
 have hD:S.D 108=some d108:=rfl
 have hi:=fun h=>call_is (h:=h) (o:=o)
 have hpos:=hget_lt' hE.1
 have h0:¬ 0=H.length:=by omega
 have g1:=hE.1
 simp only[callD,runD,hD]
 simp only[eV,zI,D.cells,List.map_cons,List.map_nil,cbH] at g1 hi ⊢
 simp[d108,put,eset,eget,D.cells,V.cells,allD,hget,hset,fz,zC,zN,g1,h0,hi]
def errV:D:=.tup [zI,.i .i64 50]
theorem fin_box2 {H:Hp}{x:D}{B C:Ob}:fin false H (.ret (.d x),B::C::H)=some (.val (.d x),H):=by
 rw[fin_val,if_pos ⟨by simp<;>omega,by rw[HOk_cons' (by simp),HOk_cons' (Nat.le_refl _)];exact HOk.refl H⟩,trunc_cons' (by simp),trunc_cons' (Nat.le_refl _),trunc_self]
theorem fin_box3 {H:Hp}{x:D}{A B C:Ob}:fin false H (.ret (.d x),A::B::C::H)=some (.val (.d x),H):=by
 rw[fin_val,if_pos ⟨by simp<;>omega,by rw[HOk_cons' (by simp<;>omega),HOk_cons' (by simp),HOk_cons' (Nat.le_refl _)];exact HOk.refl H⟩,trunc_cons' (by simp<;>omega),trunc_cons' (by simp),trunc_cons' (Nat.le_refl _),trunc_self]
theorem compute_ok {F:V}{l:List IV} (hl:l.length<4611686018427387904) {H:Hp} (hG:Glb H) (hu:F≠.u) (ha:l.all IV.ok=true) {a b c d:List UInt8}
 (hF:callV cS false F [] (cbH H zI 0)=some (.val (.d (.agg [.s a,.s b,.s c,.s d])),cbH H zI 0)) :
 callV cS false (fnV 49) [F,.d (.ls (l.map IV.D))] H=some (.val (.d (.tup [.agg [.s a,.s b,.s c,.s d],.i .i64 0])),H):=by
 rw[callV_B (sf:=c49) rfl rfl rfl]
 have hc:=contains_ok inv1_ok l hl (cbH H zI 0) ((hG.cons _).cons _)
 rw[ha] at hc
 have hk:=check_true (cbH H zI 0)
 have hd:=defer_none H (.agg [.s a,.s b,.s c,.s d]) 0 rfl
 have h1:evI cS b49 none (enter [F,.d (.ls (l.map IV.D))]) H=some (.nor,[(0,F),(1,.d (.ls (l.map IV.D))),(4,.p H.length 0),(5,.p (H.length+1) 0)],cbH H zI 0):=by
  simp[b49,put,eset,eget,D.cells,V.cells,allD,hget,hset,fz,zC,zN,cbH,zI]
 have h2:evI cS r49 none [(0,F),(1,.d (.ls (l.map IV.D))),(4,.p H.length 0),(5,.p (H.length+1) 0),(6,.fn 108 [] [.p H.length 0,.p (H.length+1) 0])] (cbH H zI 0)=some (.rt,[(4,.p H.length 0),(5,.p (H.length+1) 0)],cbH H (.agg [.s a,.s b,.s c,.s d]) 0):=by
  simp only[cbH,zI,D.cells,List.map_cons,List.map_nil] at hc hk hF ⊢
  simp[r49,put,eset,eget,D.cells,V.cells,allD,hget,hset,fz,zC,zN,hc,hk,hF]
 have hb:bodyOf S cS (fun c e h=>evI cS c none e h) c49 [F,.d (.ls (l.map IV.D))] H=some (.ret (.d (.tup [.agg [.s a,.s b,.s c,.s d],.i .i64 0])),cbH H (.agg [.s a,.s b,.s c,.s d]) 0):=by
  simp only[bodyOf,c49,h1]
  simp only[cbH,zI,D.cells,List.map_cons,List.map_nil] at h2 hd ⊢
  simp[put,eset,eget,D.cells,V.cells,allD,hget,hset,fz,zC,zN,h2,hd,retOf]
 rw[hb]
 simp only[cbH,D.cells]
 exact fin_box2
theorem compute_err {F:V}{l:List IV} (hl:l.length<4611686018427387904) {H:Hp} (hG:Glb H) {o:EO} (hE:ErrAt H o)
 (hF:l.all IV.ok=false∨(l.all IV.ok=true∧F≠.u∧callV cS false F [] (cbH H zI 0)=some (.pan (eV o),cbH H zI 0))) :
 callV cS false (fnV 49) [F,.d (.ls (l.map IV.D))] H=some (.val (.d errV),H):=by
 rw[callV_B (sf:=c49) rfl rfl rfl]
 have hc:=contains_ok inv1_ok l hl (cbH H zI 0) ((hG.cons _).cons _)
 have hk:=check_true (cbH H zI 0)
 have hk2:=check_false (show ErrAt (cbH H zI 0) o from (hE.cons _).cons _)
 have hd:=defer_err hE
 have h1:evI cS b49 none (enter [F,.d (.ls (l.map IV.D))]) H=some (.nor,[(0,F),(1,.d (.ls (l.map IV.D))),(4,.p H.length 0),(5,.p (H.length+1) 0)],cbH H zI 0):=by
  simp[b49,put,eset,eget,D.cells,V.cells,allD,hget,hset,fz,zC,zN,cbH,zI]
 have h2:∃ e,evI cS r49 none [(0,F),(1,.d (.ls (l.map IV.D))),(4,.p H.length 0),(5,.p (H.length+1) 0),(6,.fn 108 [] [.p H.length 0,.p (H.length+1) 0])] (cbH H zI 0)=some (.pn (eV o),e,cbH H zI 0):=by
  rcases hF with ha | ⟨ha,hu,hF⟩
  ·rw[ha] at hc
   simp only[cbH,zI,D.cells,List.map_cons,List.map_nil] at hc hk2 ⊢
   simp[r49,put,eset,eget,D.cells,V.cells,allD,hget,hset,fz,zC,zN,hc,hk2]
  ·rw[ha] at hc
   simp only[cbH,zI,D.cells,List.map_cons,List.map_nil] at hc hk hF ⊢
   simp[r49,put,eset,eget,D.cells,V.cells,allD,hget,hset,fz,zC,zN,hc,hk,hF]
 obtain⟨e,h2⟩:=h2
 have hb:bodyOf S cS (fun c e h=>evI cS c none e h) c49 [F,.d (.ls (l.map IV.D))] H=some (.ret (.d errV),.box 29 [.d (.s []),.d (.s []),.d (.s []),.d (.s [])]::cbH H zI 50):=by
  simp only[bodyOf,c49,h1]
  simp only[cbH,zI,D.cells,List.map_cons,List.map_nil] at h2 hd ⊢
  simp[put,eset,eget,D.cells,V.cells,allD,hget,hset,fz,zC,zN,h2,hd,retOf,errV,zI,allCell]
 rw[hb]
 simp only[cbH]
 exact fin_box3
end
end Go.Proofs.YtmiioebapckcoaaGreatDoor
