/- Part 12 of a proof: the small semantics, its soundness, the functions of the program in it, and the law. -/
import Derived.Test.YtmiioebapckcoaaGreatDoorJk
set_option linter.unusedVariables false
set_option linter.unusedSimpArgs false
set_option maxRecDepth 4000
namespace Go.Proofs.YtmiioebapckcoaaGreatDoor
section
open Go Num
noncomputable def opI (f:Int→Int→D) (e:D) (a b:List UInt8):D:=match ival a,ival b with
 | some x,some y=>f x y
 | _,_=>e
theorem opI_some {f:Int→Int→D}{e:D}{a b:List UInt8}{x y:Int} (ha:ival a=some x) (hb:ival b=some y):opI f e a b=f x y:=by simp[opI,ha,hb]
theorem opI_none {f:Int→Int→D}{e:D}{a b:List UInt8} (h:ival a=none∨ival b=none):opI f e a b=e:=by
 unfold opI
 rcases h with h | h
 ·rw[h]
 ·rw[h];cases ival a<;>rfl
theorem ival_cases (a b:List UInt8):(∃ x y,ival a=some x∧ival b=some y)∨(ival a=none∨ival b=none):=by
 cases ha:ival a with
 | none=>exact .inr (.inl rfl)
 | some x =>
   cases hb:ival b with
   | none=>exact .inr (.inr rfl)
   | some y=>exact .inl ⟨x,y,rfl,rfl⟩
theorem ival_fits {a:List UInt8}{x:Int} (h:ival a=some x):Fits x:=(ival_some h).1
theorem ival_lenD {a:List UInt8}{x:Int} (h:ival a=some x):lenD x.natAbs≤50:=fits_lenD (ival_fits h)
theorem lenD_add {a b k:Nat} (ha:lenD a≤k) (hb:lenD b≤k):lenD (a+b)≤k+1:=by
 rw[lenD_le] at *
 rw[Nat.pow_succ];omega
theorem lenD_plusD {na nb:Bool}{a b k:Nat} (ha:lenD a≤k) (hb:lenD b≤k):lenD (plusD na a nb b).2≤k+1:=by
 refine Nat.le_trans (lenD_mono ?_) (lenD_add ha hb)
 unfold plusD;split
 ·exact Nat.le_refl _
 ·split<;>simp<;>omega
theorem text_fit (neg:Bool) (n:Nat) (hn:lenD n≤1000) (H:Hp) (hG:Glb H) :
 callV cS false (fnV 106) [.d (.agg [.b neg,.ls ((digs 10000 n).map nI)])] H=some (.val (.d (fitD (sg neg n))),H):=by
 have:=text_ok neg n hn H hG
 rw[txtD_fit] at this;exact this
theorem fitD_tup (z:Int):∃ s e,fitD z=.tup [.s s,.i .i64 e]:=by
 unfold fitD errI;split<;>exact⟨_,_,rfl⟩
theorem Valid_ok (l:List UInt8) (H:Hp):callV cS false (fnV 99) [.d (.s l)] H=some (.val (.d (.b (ival l).isSome)),H):=by
 rw[callV_fn (sf:=c99) rfl rfl rfl rfl]
 have h1:=call_valid l
 simp[c99,b99,put,eset,eget,D.cells,V.cells,allD,hget,hset,fz,zC,zN,h1]
theorem one_ok (H:Hp):callV cS false (fnV 104) [] H=some (.val (.d (nl [1])),H):=by
 rw[callV_fn (sf:=c104) rfl rfl rfl rfl]
 simp[c104,b104,put,eset,eget,D.cells,V.cells,allD,hget,hset,fz,zC,zN,nl,nI,allCellsD,setParts,chunk1]
theorem Add_ok (a b:List UInt8) (H:Hp) (hG:Glb H):callV cS false (fnV 71) [.d (.s a),.d (.s b)] H=some (.val (.d (opI (fun x y=>fitD (x+y)) errI a b)),H):=by
 rw[callV_fn (sf:=c71) rfl rfl rfl rfl]
 rcases ival_cases a b with ⟨x,y,ha,hb⟩ | h
 ·rw[opI_some ha hb]
  have h1:=both_some ha hb
  have lx:=ival_lenD ha
  have ly:=ival_lenD hb
  have h2:=signed_plus_ok (decide (x<0)) (decide (y<0)) x.natAbs y.natAbs (by omega) (by omega)
  have hs:=plusD_sg (decide (x<0)) x.natAbs (decide (y<0)) y.natAbs
  rw[sg_dZ,sg_dZ] at hs
  have ll:=lenD_plusD (na:=decide (x<0)) (nb:=decide (y<0)) lx ly
  obtain⟨p,hp⟩:∃ p,p=plusD (decide (x<0)) x.natAbs (decide (y<0)) y.natAbs:=⟨_,rfl⟩
  rw[← hp] at h2 hs ll
  have h3:=text_fit p.1 p.2 (by omega) _ ((hG.cons (.box 103 [.d (.b (decide (x<0))),.d (.ls ((digs 10000 x.natAbs).map nI))])).cons (.box 103 [.d (.b (decide (y<0))),.d (.ls ((digs 10000 y.natAbs).map nI))]))
  rw[hs] at h3
  obtain⟨s,e,he⟩:=fitD_tup (x+y)
  rw[he] at h3 ⊢
  simp only[dZ,dI,nl] at h1 h2
  simp[c71,b71,put,eset,eget,D.cells,V.cells,allD,hget,hset,fz,zC,zN,h1,h2,h3]
 ·rw[opI_none h]
  have h1:=both_none h
  simp only[dzero] at h1
  simp[c71,b71,put,eset,eget,D.cells,V.cells,allD,hget,hset,fz,zC,zN,h1,errI]
theorem Sub_ok (a b:List UInt8) (H:Hp) (hG:Glb H):callV cS false (fnV 59) [.d (.s a),.d (.s b)] H=some (.val (.d (opI (fun x y=>fitD (x-y)) errI a b)),H):=by
 rw[callV_fn (sf:=c59) rfl rfl rfl rfl]
 rcases ival_cases a b with ⟨x,y,ha,hb⟩ | h
 ·rw[opI_some ha hb]
  have h1:=both_some ha hb
  have lx:=ival_lenD ha
  have ly:=ival_lenD hb
  have h2:=signed_plus_ok (decide (x<0)) (!decide (y<0)) x.natAbs y.natAbs (by omega) (by omega)
  have hs:=plusD_sg (decide (x<0)) x.natAbs (!decide (y<0)) y.natAbs
  have hy:sg (!decide (y<0)) y.natAbs=-y:=by unfold sg;split<;>simp at * <;> omega
  rw[sg_dZ,hy] at hs
  have ll:=lenD_plusD (na:=decide (x<0)) (nb := !decide (y<0)) lx ly
  obtain⟨p,hp⟩:∃ p,p=plusD (decide (x<0)) x.natAbs (!decide (y<0)) y.natAbs:=⟨_,rfl⟩
  rw[← hp] at h2 hs ll
  have h3:=text_fit p.1 p.2 (by omega) _ ((hG.cons (.box 103 [.d (.b (decide (x<0))),.d (.ls ((digs 10000 x.natAbs).map nI))])).cons (.box 103 [.d (.b (!decide (y<0))),.d (.ls ((digs 10000 y.natAbs).map nI))]))
  rw[hs,show x+-y=x-y by omega] at h3
  obtain⟨s,e,he⟩:=fitD_tup (x-y)
  rw[he] at h3 ⊢
  simp only[dZ,dI,nl] at h1 h2
  obtain⟨bx,hbx⟩:∃ bx,bx=decide (x<0):=⟨_,rfl⟩
  obtain⟨bY,hby⟩:∃ bY,bY=decide (y<0):=⟨_,rfl⟩
  rw[← hbx,← hby] at h1 h2 h3
  simp[c59,b59,put,eset,eget,D.cells,V.cells,allD,hget,hset,fz,zC,zN,h1,h2,h3]
 ·rw[opI_none h]
  have h1:=both_none h
  simp only[dzero] at h1
  simp[c59,b59,put,eset,eget,D.cells,V.cells,allD,hget,hset,fz,zC,zN,h1,errI]
theorem Mul_ok (a b:List UInt8) (H:Hp) (hG:Glb H):callV cS false (fnV 115) [.d (.s a),.d (.s b)] H=some (.val (.d (opI (fun x y=>fitD (x*y)) errI a b)),H):=by
 rw[callV_fn (sf:=c115) rfl rfl rfl rfl]
 rcases ival_cases a b with ⟨x,y,ha,hb⟩ | h
 ·rw[opI_some ha hb]
  have h1:=both_some ha hb
  have lx:=ival_lenD ha
  have ly:=ival_lenD hb
  have h2:=times_ok x.natAbs y.natAbs (by omega)
  have hs:sg (decide (x<0) != decide (y<0)) (x.natAbs*y.natAbs)=x*y:=by
   rw[← Int.natAbs_mul]
   unfold sg
   have e:∀ z:Int,0≤z→((z.natAbs:Nat):Int)=z:=fun z h=>by omega
   have e':∀ z:Int,z≤0→-((z.natAbs:Nat):Int)=z:=fun z h=>by omega
   by_cases hx:x<0<;>by_cases hy:y<0<;>simp only[hx,hy,decide_true,decide_false,bne_self_eq_false,Bool.false_eq_true,if_false,if_true,Bool.true_bne,Bool.false_bne,Bool.not_false]
   ·exact e _ (Int.le_of_lt (Int.mul_pos_of_neg_of_neg hx hy))
   ·exact e' _ (Int.mul_nonpos_of_nonpos_of_nonneg (by omega) (by omega))
   ·exact e' _ (Int.mul_nonpos_of_nonneg_of_nonpos (by omega) (by omega))
   ·exact e _ (Int.mul_nonneg (by omega) (by omega))
  have ll:=lenD_mul x.natAbs y.natAbs
  obtain⟨m,hm⟩:∃ m,m=x.natAbs*y.natAbs:=⟨_,rfl⟩
  rw[← hm] at h2 hs ll
  have h3:=text_fit (decide (x<0) != decide (y<0)) m (by omega) _ ((hG.cons (.box 103 [.d (.b (decide (x<0))),.d (.ls ((digs 10000 x.natAbs).map nI))])).cons (.box 103 [.d (.b (decide (y<0))),.d (.ls ((digs 10000 y.natAbs).map nI))]))
  rw[hs] at h3
  obtain⟨s,e,he⟩:=fitD_tup (x*y)
  rw[he] at h3 ⊢
  simp only[dZ,dI,nl] at h1 h2
  obtain⟨bx,hbx⟩:∃ bx,bx=decide (x<0):=⟨_,rfl⟩
  obtain⟨bY,hby⟩:∃ bY,bY=decide (y<0):=⟨_,rfl⟩
  rw[← hbx,← hby] at h1 h3
  simp only[bne] at h3
  simp[c115,b115,put,eset,eget,D.cells,V.cells,allD,hget,hset,fz,zC,zN,h1,h2,h3]
 ·rw[opI_none h]
  have h1:=both_none h
  simp only[dzero] at h1
  simp[c115,b115,put,eset,eget,D.cells,V.cells,allD,hget,hset,fz,zC,zN,h1,errI]
theorem cmp_sg (x y:Int):cmpI x y=if (decide (x<0)&&decide (y<0))=true then cmpI y.natAbs x.natAbs else if x<0 then -1 else if y<0 then 1 else cmpI x.natAbs y.natAbs:=by
 unfold cmpI
 by_cases hx:x<0<;>by_cases hy:y<0<;>simp only[hx,hy,decide_true,decide_false,Bool.and_self,Bool.and_false,Bool.false_and,Bool.false_eq_true,if_true,if_false]
 ·have e1:(((y.natAbs:Nat):Int)<((x.natAbs:Nat):Int))=(x<y):=by apply propext;omega
  have e2:(((x.natAbs:Nat):Int)<((y.natAbs:Nat):Int))=(y<x):=by apply propext;omega
  simp only[e1,e2]
 ·rw[if_pos (by omega)]
 ·rw[if_neg (by omega),if_pos (by omega)]
 ·have e1:(((y.natAbs:Nat):Int)<((x.natAbs:Nat):Int))=(y<x):=by apply propext;omega
  have e2:(((x.natAbs:Nat):Int)<((y.natAbs:Nat):Int))=(x<y):=by apply propext;omega
  simp only[e1,e2]
theorem Compare_ok (a b:List UInt8) (H:Hp):callV cS false (fnV 48) [.d (.s a),.d (.s b)] H=some (.val (.d (opI (fun x y=>.i .i64 (cmpI x y)) (.i .i64 0) a b)),H):=by
 rw[callV_fn (sf:=c48) rfl rfl rfl rfl]
 rcases ival_cases a b with ⟨x,y,ha,hb⟩ | h
 ·rw[opI_some ha hb]
  have h1:=both_some ha hb
  have lx:=ival_lenD ha
  have ly:=ival_lenD hb
  have h2:=compare_ok x.natAbs y.natAbs (show lenD x.natAbs<_ by omega)
  have h3:=compare_ok y.natAbs x.natAbs (show lenD y.natAbs<_ by omega)
  have hc:=cmp_sg x y
  rw[hc]
  simp only[dZ,dI,nl] at h1 h2 h3
  have qx:=allN (digs 10000 x.natAbs)
  by_cases hx:x<0<;>by_cases hy:y<0<;>simp[c48,b48,put,eset,eget,D.cells,V.cells,allD,hget,hset,fz,zC,zN,h1,h2,h3,hx,hy]
 ·rw[opI_none h]
  have h1:=both_none h
  simp only[dzero] at h1
  simp[c48,b48,put,eset,eget,D.cells,V.cells,allD,hget,hset,fz,zC,zN,h1]
end
section
open Go Num
noncomputable def sgnH (H:Hp) (x y:Int):Hp:=.box 103 [.d (.b (decide (y<0))),.d (.ls ((digs 10000 y.natAbs).map nI))]::.box 103 [.d (.b (decide (x<0))),.d (.ls ((digs 10000 x.natAbs).map nI))]::H
theorem sgnH_glb {H:Hp} (hG:Glb H) (x y:Int):Glb (sgnH H x y):=(hG.cons _).cons _
def errD:D:=.tup [.s [],.s [],.i .i64 30]
noncomputable def divD (x y:Int):D:=if y=0 then errD else .tup [.s (txt (x/y)),.s (txt (x%y)),.i .i64 0]
theorem div_parts (x y:Int) (hy:y≠0) :
 (x<0→0<x.natAbs%y.natAbs→sg (decide (x<0) != decide (y<0)) (x.natAbs/y.natAbs+1)=x/y∧(y.natAbs-x.natAbs%y.natAbs:Nat)=x%y) ∧
 (¬ (x<0∧0<x.natAbs%y.natAbs)→sg (decide (x<0) != decide (y<0)) (x.natAbs/y.natAbs)=x/y∧(x.natAbs%y.natAbs:Nat)=x%y):=by
 have hd:=Nat.div_add_mod x.natAbs y.natAbs
 have hm:=Nat.mod_lt x.natAbs (show 0<y.natAbs by omega)
 generalize x.natAbs/y.natAbs=q at *
 generalize x.natAbs%y.natAbs=r at *
 have hx:x=if x<0 then -((x.natAbs:Nat):Int) else ((x.natAbs:Nat):Int):=by split<;>omega
 have hdI:((y.natAbs:Nat):Int)*(q:Int)+(r:Int)=((x.natAbs:Nat):Int):=by rw[← Int.natCast_mul,← Int.natCast_add,hd]
 have key:∀ Q R:Int,x=y*Q+R→0≤R→R<y.natAbs→Q=x/y∧R=x%y:=by
  intro Q R h1 h2 h3
  have h4:x/y=Q:=by
   rw[h1,Int.add_comm,Int.add_mul_ediv_left _ _ hy]
   rw[show R/y=0 from by
    rcases Int.lt_or_gt_of_ne hy with h | h
    ·have:R/y=-(R/(-y)):=by rw[Int.ediv_neg];omega
     rw[this,Int.ediv_eq_zero_of_lt h2 (by omega)];rfl
    ·exact Int.ediv_eq_zero_of_lt h2 (by omega)]
   omega
  have h5:=Int.mul_ediv_add_emod x y
  rw[h4] at h5
  exact⟨h4.symm,by omega⟩
 constructor
 ·intro hx0 hr
  refine key _ _ ?_ (by omega) (by omega)
  have hxe:x=-((x.natAbs:Nat):Int):=by omega
  by_cases hy0:y<0
  ·have hye:y=-((y.natAbs:Nat):Int):=by omega
   generalize hA:((y.natAbs:Nat):Int)=A at *
   simp only[sg,hx0,hy0,decide_true,bne_self_eq_false,Bool.false_eq_true,if_false]
   rw[hxe,← hdI];push_cast
   have:((y.natAbs-r:Nat):Int)=A-r:=by omega
   rw[this,hye];grind
  ·have hye:y=((y.natAbs:Nat):Int):=by omega
   generalize hA:((y.natAbs:Nat):Int)=A at *
   simp only[sg,hx0,hy0,decide_true,decide_false,Bool.bne_false,if_true]
   rw[hxe,← hdI];push_cast
   have:((y.natAbs-r:Nat):Int)=A-r:=by omega
   rw[this,hye];grind
 ·intro hn
  by_cases hx0:x<0
  ·have hr0:r=0:=by
    have:¬ 0<r:=fun h=>hn ⟨hx0,h⟩
    omega
   refine key _ _ ?_ (by omega) (by omega)
   have hxe:x=-((x.natAbs:Nat):Int):=by omega
   subst hr0
   by_cases hy0:y<0
   ·have hye:y=-((y.natAbs:Nat):Int):=by omega
    generalize hA:((y.natAbs:Nat):Int)=A at *
    simp only[sg,hx0,hy0,decide_true,bne_self_eq_false,Bool.false_eq_true,if_false]
    rw[hxe,← hdI,hye];grind
   ·have hye:y=((y.natAbs:Nat):Int):=by omega
    generalize hA:((y.natAbs:Nat):Int)=A at *
    simp only[sg,hx0,hy0,decide_true,decide_false,Bool.bne_false,if_true]
    rw[hxe,← hdI,hye];grind
  ·refine key _ _ ?_ (by omega) (by omega)
   have hxe:x=((x.natAbs:Nat):Int):=by omega
   by_cases hy0:y<0
   ·have hye:y=-((y.natAbs:Nat):Int):=by omega
    generalize hA:((y.natAbs:Nat):Int)=A at *
    simp only[sg,hx0,hy0,decide_true,decide_false,Bool.false_bne,if_true]
    rw[hxe,← hdI,hye];grind
   ·have hye:y=((y.natAbs:Nat):Int):=by omega
    generalize hA:((y.natAbs:Nat):Int)=A at *
    simp only[sg,hx0,hy0,decide_false,bne_self_eq_false,Bool.false_eq_true,if_false]
    rw[hxe,← hdI,hye]
theorem fitD_of {z:Int} (h:Fits z):fitD z=.tup [.s (txt z),.i .i64 0]:=by unfold fitD;rw[if_pos h]
theorem ediv_fits {x y:Int} (hx:Fits x) (hy:Fits y) (h0:y≠0):Fits (x/y)∧Fits (x%y):=by
 unfold Fits at *
 constructor
 ·refine Nat.lt_of_le_of_lt ?_ hx
  exact Int.natAbs_ediv_le_natAbs x y
 ·have h1:=Int.emod_nonneg x h0
  have h2:=Int.emod_lt x h0
  omega
theorem Div_ok (a b:List UInt8) (H:Hp) (hG:Glb H):callV cS false (fnV 47) [.d (.s a),.d (.s b)] H=some (.val (.d (opI divD errD a b)),H):=by
 rw[callV_fn (sf:=c47) rfl rfl rfl rfl]
 rcases ival_cases a b with ⟨x,y,ha,hb⟩ | h
 ·rw[opI_some ha hb]
  have h1:=both_some ha hb
  have lx:=ival_lenD ha
  have ly:=ival_lenD hb
  simp only[dZ,dI,nl] at h1
  by_cases hy:y=0
  ·subst hy
   simp[c47,b47,put,eset,eget,D.cells,V.cells,allD,hget,hset,fz,zC,zN,h1,divD,errD,digs_zero]
  ·have hyn:0<y.natAbs:=by omega
   have hyl:¬ (digs 10000 y.natAbs).length=0:=fun h=>by
    have:=(digs_eq_nil (b:=10000) (by omega)).1 (List.eq_nil_of_length_eq_zero h);omega
   have hyl':¬ digs 10000 y.natAbs=[]:=fun h=>hyl (by rw[h];rfl)
   have h2:=over_ok x.natAbs y.natAbs hyn (by omega) (by omega)
   obtain⟨p1,p2⟩:=div_parts x y hy
   obtain⟨f1,f2⟩:=ediv_fits (ival_fits ha) (ival_fits hb) hy
   have g1:=fitD_of f1
   have g2:=fitD_of f2
   have hH:=sgnH_glb hG x y
   have hlq:lenD (x.natAbs/y.natAbs)≤50:=Nat.le_trans (lenD_mono (Nat.div_le_self _ _)) lx
   have hml:=Nat.mod_lt x.natAbs hyn
   have hlr:lenD (x.natAbs%y.natAbs)≤50:=Nat.le_trans (lenD_mono (Nat.le_of_lt hml)) ly
   have hdv:divD x y=.tup [.s (txt (x/y)),.s (txt (x%y)),.i .i64 0]:=by unfold divD;rw[if_neg hy]
   rw[hdv]
   simp only[nl] at h2
   have qy:=allN (digs 10000 y.natAbs)
   by_cases hc:x<0∧0<x.natAbs%y.natAbs
   ·obtain⟨e1,e2⟩:=p1 hc.1 hc.2
    have hl1:lenD (x.natAbs/y.natAbs+1)≤51:=lenD_add hlq (lenD_le.2 (by omega))
    have h3:=text_fit (decide (x<0) != decide (y<0)) (x.natAbs/y.natAbs+1) (by omega) _ hH
    rw[e1,g1] at h3
    have hl2:lenD (y.natAbs-x.natAbs%y.natAbs)≤50:=Nat.le_trans (lenD_mono (Nat.sub_le _ _)) ly
    have h4:=text_fit false (y.natAbs-x.natAbs%y.natAbs) (by omega) _ hH
    rw[show sg false (y.natAbs-x.natAbs%y.natAbs)=x%y from e2,g2] at h4
    have h5:=plus_ok (digs 10000 (x.natAbs/y.natAbs)) [1] (digs_groups _) (by intro d hd;simp at hd;omega) (show lenD _≤_ by omega) (by simp)
    rw[val_digs (by omega)] at h5
    have h6:=minus_ok (digs 10000 y.natAbs) (digs 10000 (x.natAbs%y.natAbs)) (digs_groups _) (digs_groups _) (show lenD _≤_ by omega) (lenD_mono (Nat.le_of_lt hml)) (by rw[val_digs (by omega),val_digs (by omega)];omega)
    rw[val_digs (by omega),val_digs (by omega)] at h6
    have h7:=one_ok
    simp only[nl,val,Nat.mul_zero,Nat.add_zero] at h5 h6 h7
    obtain⟨q,hq⟩:∃ q,q=x.natAbs/y.natAbs:=⟨_,rfl⟩
    obtain⟨r,hr⟩:∃ r,r=x.natAbs%y.natAbs:=⟨_,rfl⟩
    rw[← hq,← hr] at h2
    rw[← hq] at h5 h3
    rw[← hr] at h6 h4 hc
    have hrl:0<(digs 10000 r).length:=by
     refine List.length_pos_iff.2 fun h=>?_
     have:=(digs_eq_nil (b:=10000) (by omega)).1 h;omega
    have hrl':¬ (digs 10000 r)=[]:=fun h=>by rw[h] at hrl;simp at hrl
    obtain⟨bY,hby⟩:∃ bY,bY=decide (y<0):=⟨_,rfl⟩
    have hbx:decide (x<0)=true:=by simp[hc.1]
    simp only[sgnH] at h3 h4
    rw[hbx,← hby] at h1 h3 h4
    simp only[bne,Bool.true_beq,Bool.false_beq,Bool.not_not] at h3
    simp only[List.map_cons,List.map_nil] at h5 h7
    simp[c47,b47,put,eset,eget,D.cells,V.cells,allD,hget,hset,fz,zC,zN,h1,h2,h3,h4,h5,h6,h7,hyl,hyl',hrl,hrl']
   ·obtain⟨e1,e2⟩:=p2 hc
    have h3:=text_fit (decide (x<0) != decide (y<0)) (x.natAbs/y.natAbs) (by omega) _ hH
    rw[e1,g1] at h3
    have h4:=text_fit false (x.natAbs%y.natAbs) (by omega) _ hH
    rw[show sg false (x.natAbs%y.natAbs)=x%y from e2,g2] at h4
    obtain⟨q,hq⟩:∃ q,q=x.natAbs/y.natAbs:=⟨_,rfl⟩
    obtain⟨r,hr⟩:∃ r,r=x.natAbs%y.natAbs:=⟨_,rfl⟩
    rw[← hq,← hr] at h2
    rw[← hq] at h3
    rw[← hr] at h4 hc
    obtain⟨bY,hby⟩:∃ bY,bY=decide (y<0):=⟨_,rfl⟩
    simp only[sgnH] at h3 h4
    by_cases hx:x<0
    ·have hr0:r=0:=by
      have:¬ 0<r:=fun h=>hc ⟨hx,h⟩
      omega
     subst hr0
     have hbx:decide (x<0)=true:=by simp[hx]
     rw[hbx,← hby] at h1 h3 h4
     simp only[bne,Bool.true_beq,Bool.false_beq,Bool.not_not] at h3
     simp only[digs_zero,List.map_nil] at h2 h4
     simp[c47,b47,put,eset,eget,D.cells,V.cells,allD,hget,hset,fz,zC,zN,h1,h2,h3,h4,hyl,hyl']
    ·have hbx:decide (x<0)=false:=by simp[hx]
     rw[hbx,← hby] at h1 h3 h4
     simp only[bne,Bool.true_beq,Bool.false_beq,Bool.not_not] at h3
     simp[c47,b47,put,eset,eget,D.cells,V.cells,allD,hget,hset,fz,zC,zN,h1,h2,h3,h4,hyl,hyl']
 ·rw[opI_none h]
  have h1:=both_none h
  simp only[dzero] at h1
  simp[c47,b47,put,eset,eget,D.cells,V.cells,allD,hget,hset,fz,zC,zN,h1,errD]
end
section
open Go Num
theorem gcd_loop (h:Hp):∀ (b a:Nat),lenD a≤50→lenD b≤50 →
 evI cS (.loop l100_0) none [(9,.d (.ls ((digs 10000 a).map nI))),(10,.d (.ls ((digs 10000 b).map nI)))] h=some (.ex 0,[(9,.d (.ls ((digs 10000 (Nat.gcd a b)).map nI))),(10,.d (.ls [])),(28,.d (.b false))],h):=by
 intro b
 induction b using Nat.strongRecOn with
 | _ b ih =>
   intro a la lb
   rw[evI_loop]
   by_cases hb:b=0
   ·subst hb
    simp[l100_0,put,eset,eget,D.cells,V.cells,allD,hget,hset,fz,zC,zN,digs_zero]
   ·have hm:=Nat.mod_lt a (show 0<b by omega)
    have hih:=ih (a%b) hm b lb (Nat.le_trans (lenD_mono (Nat.le_of_lt hm)) lb)
    have h2:=over_ok a b (by omega) (by omega) (by omega) h
    simp only[nl] at h2
    have hpos:0<(digs 10000 b).length:=List.length_pos_iff.2 fun h=>hb ((digs_eq_nil (b:=10000) (by omega)).1 h)
    have hne:¬ digs 10000 b=[]:=fun h=>hb ((digs_eq_nil (b:=10000) (by omega)).1 h)
    have hg:Nat.gcd b (a%b)=Nat.gcd a b:=by rw[Nat.gcd_comm b (a%b),← Nat.gcd_rec,Nat.gcd_comm]
    rw[hg] at hih
    simp only[l100_0,o1,mv] at hih
    simp[l100_0,put,eset,eget,D.cells,V.cells,allD,hget,hset,fz,zC,zN,hpos,hne,h2,hih]
theorem Gcd_ok (a b:List UInt8) (H:Hp) (hG:Glb H):callV cS false (fnV 100) [.d (.s a),.d (.s b)] H=some (.val (.d (opI (fun x y=>fitD (Int.gcd x y:Nat)) errI a b)),H):=by
 rw[callV_fn (sf:=c100) rfl rfl rfl rfl]
 rcases ival_cases a b with ⟨x,y,ha,hb⟩ | h
 ·rw[opI_some ha hb]
  have h1:=both_some ha hb
  have lx:=ival_lenD ha
  have ly:=ival_lenD hb
  have h2:=gcd_loop (sgnH H x y) y.natAbs x.natAbs lx ly
  have hg:Nat.gcd x.natAbs y.natAbs=Int.gcd x y:=rfl
  have lg:lenD (Int.gcd x y)≤50:=by
   rw[← hg]
   by_cases h0:x.natAbs=0
   ·rw[h0,Nat.gcd_zero_left];exact ly
   ·exact Nat.le_trans (lenD_mono (Nat.gcd_le_left _ (by omega))) lx
  have h3:=text_fit false (Int.gcd x y) (by omega) _ (sgnH_glb hG x y)
  rw[show sg false (Int.gcd x y)=(Int.gcd x y:Nat) from rfl] at h3
  obtain⟨s,e,he⟩:=fitD_tup (Int.gcd x y:Nat)
  rw[he] at h3 ⊢
  rw[hg] at h2
  simp only[dZ,dI,nl] at h1
  simp only[sgnH] at h2 h3
  simp[c100,b100,put,eset,eget,D.cells,V.cells,allD,hget,hset,fz,zC,zN,h1,h2,h3]
 ·rw[opI_none h]
  have h1:=both_none h
  simp only[dzero] at h1
  simp[c100,b100,put,eset,eget,D.cells,V.cells,allD,hget,hset,fz,zC,zN,h1,errI]
def IsRoot (n r:Nat):Prop:=r*r≤n∧n<(r+1)*(r+1)
theorem am_gm (x m:Nat):4*(x*m)≤(x+m)*(x+m):=by
 rcases Nat.le_total x m with h | h
 ·obtain⟨d,rfl⟩:=Nat.le.dest h
  have:(x+(x+d))*(x+(x+d))=4*(x*(x+d))+d*d:=by grind
  omega
 ·obtain⟨d,rfl⟩:=Nat.le.dest h
  have:(m+d+m)*(m+d+m)=4*((m+d)*m)+d*d:=by grind
  omega
theorem newton_up {n x:Nat} (hx:0<x):n<((x+n/x)/2+1)*((x+n/x)/2+1):=by
 have h1:n<x*(n/x+1):=by have:=Nat.div_add_mod n x;have:=Nat.mod_lt n hx;rw[Nat.mul_succ];omega
 have h2:=am_gm x (n/x+1)
 generalize n/x=q at *
 have h3:x+(q+1)≤2*((x+q)/2+1):=by omega
 have h4:=Nat.mul_le_mul h3 h3
 have h5:2*((x+q)/2+1)*(2*((x+q)/2+1))=4*(((x+q)/2+1)*((x+q)/2+1)):=by grind
 omega
theorem newton_stop {n x:Nat} (hx:0<x) (h:x≤(x+n/x)/2):x*x≤n:=by
 have h1:x≤n/x:=by omega
 have h2:=Nat.mul_le_mul_left x h1
 have:=Nat.mul_div_le n x
 omega
theorem newton_pos {n x:Nat} (hn:0<n) (hx:0<x):0<(x+n/x)/2:=by
 by_cases h:x=1
 ·subst h;simp;omega
 ·generalize n/x=q;omega
theorem IsRoot.unique {n r s:Nat} (h:IsRoot n r) (k:IsRoot n s):r=s:=by
 have key:∀ {r s:Nat},IsRoot n r→IsRoot n s→r≤s:=by
  intro r s h k
  rcases Nat.lt_or_ge s r with h1 | h1
  ·have:=Nat.mul_le_mul (show s+1≤r by omega) (show s+1≤r by omega)
   have:=h.1;have:=k.2;omega
  ·exact h1
 exact Nat.le_antisymm (key h k) (key k h)
noncomputable def rootH (H:Hp) (n:Nat):Hp:=.dead::.box 103 [.d (.b false),.d (.ls [])]::.box 103 [.d (.b false),.d (.ls ((digs 10000 n).map nI))]::H
theorem root_loop (H:Hp) (hG:Glb H) (n r:Nat) (hn:0<n) (hr:IsRoot n r) (hfit:Fits r) (ln:lenD n≤50):∀ (x:Nat),0<x→lenD x≤50→n<(x+1)*(x+1) →
 evI cS (.loop l121_0) none [(4,.p H.length 0),(7,.d (.ls ((digs 10000 x).map nI)))] (rootH H n)=some (.rt,[(2,.d (.s (txt r))),(3,.d (.i .i64 0))],rootH H n):=by
 intro x
 induction x using Nat.strongRecOn with
 | _ x ih =>
   intro hx lx hxn
   rw[evI_loop]
   have hpos:0<(digs 10000 n).length:=List.length_pos_iff.2 fun h=>by have:=(digs_eq_nil (b:=10000) (by omega)).1 h;omega
   have hne:¬ digs 10000 n=[]:=fun h=>by rw[h] at hpos;simp at hpos
   have qn:=allN (digs 10000 n)
   have h1:=over_ok n x hx (by omega) (by omega)
   have lq:lenD (n/x)≤50:=Nat.le_trans (lenD_mono (Nat.div_le_self _ _)) ln
   have h2:=plus_ok (digs 10000 x) (digs 10000 (n/x)) (digs_groups _) (digs_groups _) (show lenD _≤_ by omega) (show lenD _≤_ by omega)
   rw[val_digs (by omega),val_digs (by omega)] at h2
   have h3:=over_ok (x+n/x) 2 (by omega) (Nat.le_trans (lenD_add lx lq) (by omega)) (lenD_le.2 (by omega))
   have d2:digs 10000 2=[2]:=by rw[digs_pos (by omega) (by omega)];simp[digs_zero]
   rw[d2] at h3
   have hup:=newton_up (n:=n) hx
   have hp:=newton_pos hn hx
   have hst:=newton_stop (n:=n) hx
   have ly:lenD ((x+n/x)/2)≤50:=by
    rcases Nat.le_total x (n/x) with h | h
    ·exact Nat.le_trans (lenD_mono (show (x+n/x)/2≤n/x by omega)) lq
    ·exact Nat.le_trans (lenD_mono (show (x+n/x)/2≤x by omega)) lx
   obtain⟨q,hq⟩:∃ q,q=n/x:=⟨_,rfl⟩
   obtain⟨y,hy⟩:∃ y,y=(x+n/x)/2:=⟨_,rfl⟩
   obtain⟨r1,hr1⟩:∃ r1,r1=n%x:=⟨_,rfl⟩
   obtain⟨r2,hr2⟩:∃ r2,r2=(x+n/x)%2:=⟨_,rfl⟩
   rw[← hy] at hup hp hst ly
   rw[← hq,← hr1] at h1
   rw[← hy,← hr2] at h3
   rw[← hq] at h2 h3
   have h4:=compare_ok y x (show lenD y<_ by omega)
   simp only[nl,nI,List.map_cons,List.map_nil,show ((2:Nat):Int)=2 from rfl] at h1 h2 h3 h4
   by_cases hc:x≤y
   ·have hxr:x=r:=IsRoot.unique ⟨hst hc,hxn⟩ hr
    subst hxr
    have hcm:(0:Int)≤cmpI y x:=by unfold cmpI;rw[if_neg (by omega)];split<;>omega
    have h5:=text_fit false x (by omega) (rootH H n) (((hG.cons _).cons _).cons _)
    rw[show sg false x=(x:Int) from rfl,fitD_of hfit] at h5
    simp only[rootH] at h5 ⊢
    simp[l121_0,put,eset,eget,D.cells,V.cells,allD,hget,hset,fz,zC,zN,hpos,hne,h1,h2,h3,h4,hcm,h5,chunk1,setParts,allCellsD]
   ·have hcm:¬ (0:Int)≤cmpI y x:=by unfold cmpI;rw[if_pos (by omega)];omega
    have hih:=ih y (by omega) hp ly hup
    simp only[l121_0,o1,mv,rootH] at hih
    simp only[rootH]
    simp[l121_0,put,eset,eget,D.cells,V.cells,allD,hget,hset,fz,zC,zN,hpos,hne,h1,h2,h3,h4,hcm,hih,chunk1,setParts,allCellsD]
theorem exists_root (n:Nat):∃ r,IsRoot n r:=by
 induction n with
 | zero=>exact⟨0,by simp[IsRoot]⟩
 | succ n ih =>
   obtain⟨r,h1,h2⟩:=ih
   by_cases h:n+1<(r+1)*(r+1)
   ·exact⟨r,by omega,h⟩
   ·refine⟨r+1,by omega,?_⟩
    have:(r+1+1)*(r+1+1)=(r+1)*(r+1)+2*r+3:=by grind
    omega
noncomputable def isqrt (n:Nat):Nat:=Classical.choose (exists_root n)
theorem isqrt_spec (n:Nat):IsRoot n (isqrt n):=Classical.choose_spec (exists_root n)
theorem isqrt_le (n:Nat):isqrt n≤n:=by
 have:=(isqrt_spec n).1
 rcases Nat.eq_zero_or_pos (isqrt n) with h | h
 ·omega
 ·exact Nat.le_trans (Nat.le_mul_of_pos_left _ h) this
noncomputable def rootD (x:Int):D:=if x<0 then errI else .tup [.s (txt (isqrt x.natAbs)),.i .i64 0]
theorem digs_pow (k:Nat):digs 10000 (10000 ^ k)=List.replicate k 0++[1]:=by
 induction k with
 | zero=>simp;rw[digs_pos (by omega) (by omega)];simp[digs_zero]
 | succ k ih =>
   have hp:10000 ^ k≠0:=Nat.ne_of_gt (Nat.pow_pos (by omega))
   rw[Nat.pow_succ,Nat.mul_comm,digs_shift hp,ih,List.replicate_succ];rfl
noncomputable def opI1 (f:Int→D) (e:D) (a:List UInt8):D:=match ival a with
 | some x=>f x
 | _=>e
theorem Root_ok (a:List UInt8) (H:Hp) (hG:Glb H):callV cS false (fnV 121) [.d (.s a)] H=some (.val (.d (opI1 rootD errI a)),H):=by
 rw[callV_fn (sf:=c121) rfl rfl rfl rfl]
 cases ha:ival a with
 | none =>
   rw[show opI1 rootD errI a=errI by simp[opI1,ha]]
   have h1:=both_none (b:=[48]) (.inl ha)
   simp only[dzero] at h1
   simp[c121,b121,put,eset,eget,D.cells,V.cells,allD,hget,hset,fz,zC,zN,h1,errI]
 | some x =>
   rw[show opI1 rootD errI a=rootD x by simp[opI1,ha]]
   have h0:ival [48]=some 0:=ival_txt (z:=0) (by unfold Fits;exact Nat.pow_pos (by omega))
   have h1:=both_some ha h0
   have lx:=ival_lenD ha
   simp only[dZ,dI,nl,show decide ((0:Int)<0)=false from rfl,show (0:Int).natAbs=0 from rfl,digs_zero,List.map_nil] at h1
   by_cases hx:x<0
   ·simp[c121,b121,put,eset,eget,D.cells,V.cells,allD,hget,hset,fz,zC,zN,h1,errI,rootD,hx]
   ·have hdx:decide (x<0)=false:=by simp[hx]
    rw[hdx] at h1
    obtain⟨n,hn⟩:∃ n,n=x.natAbs:=⟨_,rfl⟩
    have hrd:rootD x=.tup [.s (txt (isqrt n)),.i .i64 0]:=by unfold rootD;rw[if_neg hx,hn]
    rw[hrd]
    rw[← hn] at h1 lx
    obtain⟨k,hk⟩:∃ k,k=(lenD n+1)/2:=⟨_,rfl⟩
    have w1:IntKind.i64.wrap (((digs 10000 n).length:Int)+1)=((digs 10000 n).length:Int)+1:=wr64 (by unfold lenD at lx;omega) (by unfold lenD at lx;omega)
    have w2:(((digs 10000 n).length:Int)+1).tdiv 2=(k:Int):=by rw[Int.tdiv_eq_ediv_of_nonneg (by omega)];unfold lenD at hk;omega
    have w3:IntKind.i64.wrap (k:Int)=(k:Int):=wr64 (by omega) (by omega)
    have hk25:k≤25:=by omega
    have b1:(k:Int)*8≤140737488355328:=by omega
    have b2:(k:Int)≤140737488355328:=by omega
    have b3:(k+1)*8≤140737488355328:=by omega
    have b4:k+1≤140737488355328:=by omega
    have hx0:vl (List.replicate k 0++[1])=List.replicate k (.d (.i .i64 0))++[.d (.i .i64 1)]:=by simp[vl,nI]
    have hal:allCells 1 (List.replicate k (V.d (.i .i64 0)))=true:=by
     have:=allV (List.replicate k 0);simpa[vl,nI] using this
    have hall:allD (List.replicate k (V.d (.i .i64 0))++[.d (.i .i64 1)])=some ((List.replicate k 0++[1]).map nI):=by rw[← hx0];exact allD_vl _
    rw[← digs_pow] at hall
    have hlr:((10000 ^ k:Nat))=10000 ^ k:=rfl
    by_cases hn0:n=0
    ·have hr0:txt (isqrt n:Nat)=[48]:=by
      have:=isqrt_le n
      rw[show isqrt n=0 by omega];exact txt_zero
     rw[hr0]
     have hd0:digs 10000 n=[]:=by rw[hn0];exact digs_zero _
     obtain⟨x0,hx0'⟩:∃ x0,x0=(digs 10000 (10000 ^ k)).map nI:=⟨_,rfl⟩
     have hl:evI cS (.loop l121_0) none [(4,.p H.length 0),(7,.d (.ls x0))] (rootH H n)=some (.ex 0,[(4,.p H.length 0),(7,.d (.ls x0)),(35,.d (.b false))],rootH H n):=by
      rw[evI_loop]
      simp[l121_0,put,eset,eget,D.cells,V.cells,allD,hget,hset,fz,zC,zN,rootH,hd0]
     rw[← hx0'] at hall
     simp only[rootH] at hl
     simp[c121,b121,put,eset,eget,D.cells,V.cells,allD,hget,hset,fz,zC,zN,h1,w1,w2,w3,b1,b2,b3,b4,hl,chunk1,setParts,allCellsD,evApp,elemsOf,allCells,notGr,frzR,frzV,hal,hall]
    ·have hr:=isqrt_spec n
     have hfit:Fits (isqrt n):=by
      have h2:=ival_fits ha
      have h3:=isqrt_le n
      unfold Fits at *
      rw[← hn] at h2
      simp;omega
     have hxn:n<(10000 ^ k+1)*(10000 ^ k+1):=by
      have h2:=lt_lenD n
      have h3:(10000:Nat) ^ lenD n≤10000 ^ (k+k):=Nat.pow_le_pow_right (by omega) (by omega)
      rw[Nat.pow_add] at h3
      have:(10000 ^ k+1)*(10000 ^ k+1)=10000 ^ k*10000 ^ k+2*10000 ^ k+1:=by grind
      omega
     have hlx:lenD (10000 ^ k)≤50:=by unfold lenD;rw[digs_pow];simp;omega
     have hl:=root_loop H hG n (isqrt n) (by omega) hr hfit lx (10000 ^ k) (Nat.pow_pos (by omega)) hlx hxn
     obtain⟨x0,hx0'⟩:∃ x0,x0=(digs 10000 (10000 ^ k)).map nI:=⟨_,rfl⟩
     rw[← hx0'] at hall hl
     simp only[rootH] at hl
     simp[c121,b121,put,eset,eget,D.cells,V.cells,allD,hget,hset,fz,zC,zN,h1,w1,w2,w3,b1,b2,b3,b4,hl,chunk1,setParts,allCellsD,evApp,elemsOf,allCells,notGr,frzR,frzV,hal,hall]
end
section
open Go Num
theorem loop_trim3 (H:Hp):∀ (k:Nat) (xs:List Nat),xs.length=k→xs.length<4611686018427387904→evI cS (.loop l171_0) none [(0,.d (nl xs))] H=some (.ex 0,[(0,.d (nl (trim xs))),(14,.d (.b false))],H):=by
 intro k
 induction k with
 | zero =>
   intro xs hk _
   have:xs=[]:=List.eq_nil_of_length_eq_zero hk
   subst this
   rw[evI_loop]
   simp[l171_0,nl,put,eset,eget,D.cells,V.cells,allD,hget,hset,fz,zC,zN,trim_nil]
 | succ k ih =>
   intro xs hk hl
   obtain⟨ys,x,rfl,hk'⟩:=exists_concat xs hk
   have w1:=wr64n ys.length (by simp at hl;omega)
   have ha:=allN (ys++[x])
   have f1:(ys.length:Int)<ys.length+1:=by omega
   have f2:(0:Int)<(ys.length:Int)+1:=by omega
   have f3:(ys.length:Int)≤ys.length+1:=by omega
   rw[evI_loop]
   by_cases hx:x=0
   ·subst hx
    have:=ih ys hk' (by simp at hl;omega)
    simp only[List.map_append,List.map_cons,List.map_nil] at ha
    simp[l171_0,nl,nI,put,eset,eget,D.cells,V.cells,allD,hget,hset,fz,zC,zN,w1,ha,bounds,boundOf,trim_concat_zero,f1,f2,f3] at ha this ⊢
    simp[ha,this,put,eset,eget,D.cells,V.cells,allD,hget,hset,fz,zC,zN,w1,bounds,boundOf,f1,f2,f3]
   ·simp only[List.map_append,List.map_cons,List.map_nil] at ha
    simp[l171_0,nl,nI,put,eset,eget,D.cells,V.cells,allD,hget,hset,fz,zC,zN,w1,trim_concat_pos ys hx,f1,f2,f3,hx] at ha ⊢
    simp[ha,put,eset,eget,D.cells,V.cells,allD,hget,hset,fz,zC,zN,w1,bounds,boundOf,f1,f2,f3,hx]
theorem trim3_ok (xs:List Nat) (hl:xs.length<4611686018427387904) (H:Hp):callV cS false (fnV 171) [.d (nl xs)] H=some (.val (.d (nl (trim xs))),H):=by
 rw[callV_fn (sf:=c171) rfl rfl rfl rfl]
 simp[c171,b171,put,eset,eget,D.cells,V.cells,allD,hget,hset,fz,zC,zN,loop_trim3 H _ xs rfl hl]
def Digs (a:List Nat):Prop:=∀ d∈a,d<10
theorem digs10 (n:Nat):Digs (digs 10 n):=digs_lt (by omega) n
theorem Digs.left {a b:List Nat} (h:Digs (a++b)):Digs a:=fun d hd=>h d (List.mem_append_left _ hd)
theorem Digs.tail {x:Nat}{a:List Nat} (h:Digs (x::a)):Digs a:=fun d hd=>h d (by simp[hd])
theorem val_concat' (b:Nat) (ys:List Nat) (y:Nat):val b (ys++[y])=val b ys+b ^ ys.length*y:=by rw[val_append];simp[val]
theorem cmp_concat10 {ys ys':List Nat} (hl:ys.length=ys'.length) (h:Digs ys) (h':Digs ys') (y y':Nat) :
 cmpI (val 10 (ys++[y])) (val 10 (ys'++[y']))=if y=y' then cmpI (val 10 ys) (val 10 ys') else cmpI y y':=by
 have key:∀ {ys ys':List Nat}{y y':Nat},ys.length=ys'.length→Digs ys→y<y'→val 10 (ys++[y])<val 10 (ys'++[y']):=by
  intro ys ys' y y' hl h hy
  rw[val_concat',val_concat',← hl]
  have:=val_lt (b:=10) (by omega) ys h
  have h2:10 ^ ys.length*(y+1)≤10 ^ ys.length*y':=Nat.mul_le_mul_left _ hy
  rw[Nat.mul_succ] at h2
  omega
 by_cases he:y=y'
 ·subst he
  rw[if_pos rfl,val_concat',val_concat',hl]
  unfold cmpI
  have a1:(((val 10 ys+10 ^ ys'.length*y:Nat):Int)<((val 10 ys'+10 ^ ys'.length*y:Nat):Int))↔((val 10 ys:Int)<val 10 ys'):=by omega
  have a2:(((val 10 ys'+10 ^ ys'.length*y:Nat):Int)<((val 10 ys+10 ^ ys'.length*y:Nat):Int))↔((val 10 ys':Int)<val 10 ys):=by omega
  simp only[a1,a2]
 ·rw[if_neg he]
  unfold cmpI
  rcases Nat.lt_or_gt_of_ne he with h3 | h3
  ·have:=key hl h h3
   rw[if_pos (by omega),if_pos (by omega)]
  ·have:=key hl.symm h' h3
   rw[if_neg (by omega),if_pos (by omega),if_neg (by omega),if_pos (by omega)]
theorem cmp_length10 {a b:Nat} (h:(digs 10 a).length≠(digs 10 b).length):cmpI (digs 10 a).length (digs 10 b).length=cmpI a b:=by
 have key:∀ {a b:Nat},(digs 10 a).length<(digs 10 b).length→a<b:=by
  intro a b h
  have h1:a<10 ^ (digs 10 a).length:=(digs_length_le (by omega)).1 (Nat.le_refl _)
  have h2:¬ b<10 ^ (digs 10 a).length:=fun h3=>by have:=(digs_length_le (b:=10) (by omega)).2 h3;omega
  omega
 unfold cmpI
 rcases Nat.lt_or_gt_of_ne h with h1 | h1
 ·have:=key h1
  rw[if_pos (by omega),if_pos (by omega)]
 ·have:=key h1
  rw[if_neg (by omega),if_pos (by omega),if_neg (by omega),if_pos (by omega)]
theorem order_loop (H:Hp) (a0 b0:List Nat) (hab:a0.length=b0.length) (hl:a0.length<4611686018427387904):∀ (k:Nat) (ys ys' zs zs':List Nat),ys.length=k→ys'.length=k→a0=ys++zs→b0=ys'++zs'→Digs ys→Digs ys' →
 ∃ e,evI cS (.loop l126_0) none [(0,.d (nl a0)),(1,.d (nl b0)),(5,.d (.i .i64 ((k:Int)-1)))] H=some (if ys=ys' then .ex 0 else .rt,e,H)∧(ys≠ys'→e=[(4,.d (.i .i64 (cmpI (val 10 ys) (val 10 ys'))))]):=by
 intro k
 induction k with
 | zero =>
   intro ys ys' zs zs' h1 h2 h3 h4 g1 g2
   have e1:ys=[]:=List.eq_nil_of_length_eq_zero h1
   have e2:ys'=[]:=List.eq_nil_of_length_eq_zero h2
   subst e1 e2
   rw[evI_loop]
   simp[l126_0,put,eset,eget,D.cells,V.cells,allD,hget,hset,fz,zC,zN]
 | succ k ih =>
   intro ys ys' zs zs' h1 h2 h3 h4 g1 g2
   obtain⟨ys,y,rfl,hl1⟩:=exists_concat ys h1
   obtain⟨ys',y',rfl,hl2⟩:=exists_concat ys' h2
   rw[cmp_concat10 (by omega) g1.left g2.left]
   have la:k<a0.length:=by rw[h3,← hl1];simp
   have lb:k<b0.length:=by rw[← hab];exact la
   have ia:a0[k]=y:=by
    have:a0[k]? = some y:=by rw[h3,← hl1];simp
    rw[List.getElem?_eq_getElem la] at this;exact Option.some.inj this
   have ib:b0[k]=y':=by
    have:b0[k]? = some y':=by rw[h4,← hl2];simp
    rw[List.getElem?_eq_getElem lb] at this;exact Option.some.inj this
   have qa:=allN a0
   have qb:=allN b0
   have w1:IntKind.i64.wrap ((k:Int)-1)=(k:Int)-1:=wr64 (by omega) (by omega)
   have hk1:((k+1:Nat):Int)-1=k:=by omega
   rw[evI_loop,hk1]
   by_cases he:y=y'
   ·subst he
    rw[if_pos rfl]
    obtain⟨e,i1,i2⟩:=ih ys ys' (y::zs) (y::zs') hl1 hl2 (by rw[h3];simp) (by rw[h4];simp) g1.left g2.left
    have hq:(ys++[y]=ys'++[y])=(ys=ys'):=by apply propext;simp
    simp only[hq,ne_eq]
    refine⟨e,?_,i2⟩
    rw[← i1]
    simp only[l126_0,o1,mv]
    simp[put,eset,eget,D.cells,V.cells,allD,hget,hset,fz,zC,zN,nl,nI,la,lb,ia,ib,qa,qb,w1]
   ·have he':¬ ((y:Int)=y'):=by omega
    have hne:¬ (ys++[y]=ys'++[y']):=by simp[he]
    rw[if_neg he,if_neg hne]
    refine⟨[(4,.d (.i .i64 (cmpI y y')))],?_,fun _=>rfl⟩
    by_cases hlt:(y:Int)<y'
    ·have hc:cmpI y y'=-1:=by unfold cmpI;rw[if_pos hlt]
     rw[hc]
     simp[l126_0,put,eset,eget,D.cells,V.cells,allD,hget,hset,fz,zC,zN,nl,nI,la,lb,ia,ib,qa,qb,he,he',hlt]
    ·have hc:cmpI y y'=1:=by unfold cmpI;rw[if_neg hlt,if_pos (by omega)]
     rw[hc]
     simp[l126_0,put,eset,eget,D.cells,V.cells,allD,hget,hset,fz,zC,zN,nl,nI,la,lb,ia,ib,qa,qb,he,he',hlt]
theorem order_ok (a b:Nat) (la:(digs 10 a).length<4611686018427387904) (H:Hp) :
 callV cS false (fnV 126) [.d (nl (digs 10 a)),.d (nl (digs 10 b))] H=some (.val (.d (.i .i64 (cmpI a b))),H):=by
 rw[callV_fn (sf:=c126) rfl rfl rfl rfl]
 by_cases hl:(digs 10 a).length=(digs 10 b).length
 ·obtain⟨e,h1,h2⟩:=order_loop H (digs 10 a) (digs 10 b) hl la _ (digs 10 a) (digs 10 b) [] [] rfl hl.symm (by simp) (by simp) (digs10 a) (digs10 b)
  have w1:IntKind.i64.wrap (((digs 10 b).length:Int)-1)=((digs 10 b).length:Int)-1:=wr64 (by omega) (by omega)
  rw[val_digs (by omega),val_digs (by omega)] at h2
  simp only[nl,hl] at h1
  by_cases he:digs 10 a=digs 10 b
  ·have hab:a=b:=by rw[← val_digs (b:=10) (by omega) a,he,val_digs (by omega)]
   subst hab
   have hcm:cmpI a a=0:=by simp[cmpI]
   rw[if_pos rfl] at h1
   simp[c126,b126,nl,put,eset,eget,D.cells,V.cells,allD,hget,hset,fz,zC,zN,hl,w1,h1,hcm]
  ·rw[if_neg he,h2 he] at h1
   simp[c126,b126,nl,put,eset,eget,D.cells,V.cells,allD,hget,hset,fz,zC,zN,hl,w1,h1]
 ·have hl':¬ ((digs 10 a).length:Int)=(digs 10 b).length:=by omega
  have hc:=cmp_length10 hl
  by_cases hlt:(digs 10 a).length<(digs 10 b).length
  ·have hcm:cmpI a b=-1:=by rw[← hc];unfold cmpI;rw[if_pos (by omega)]
   rw[hcm]
   simp[c126,b126,nl,put,eset,eget,D.cells,V.cells,allD,hget,hset,fz,zC,zN,hl,hl',hlt]
  ·have hcm:cmpI a b=1:=by rw[← hc];unfold cmpI;rw[if_neg (by omega),if_pos (by omega)]
   rw[hcm]
   simp[c126,b126,nl,put,eset,eget,D.cells,V.cells,allD,hget,hset,fz,zC,zN,hl,hl',hlt]
end
section
open Go Num
theorem val_drop (b:Nat) (a:List Nat) (i:Nat):val b (a.drop i)=a.getD i 0+b*val b (a.drop (i+1)):=by
 by_cases h:i<a.length
 ·rw[List.drop_eq_getElem_cons h,val,List.getD_eq_getElem?_getD,List.getElem?_eq_getElem h];rfl
 ·rw[List.drop_eq_nil_of_le (by omega),List.drop_eq_nil_of_le (by omega),getD_ge a i (by omega)];simp[val]
theorem trimmed_drop {a:List Nat} (h:Trimmed a) (i:Nat):Trimmed (a.drop i):=by
 intro d hd
 apply h
 rw[List.getLast?_drop] at hd
 split at hd
 ·cases hd
 ·exact hd
theorem trimmed_pos {b:Nat} (hb:0<b) {a:List Nat} (h:Trimmed a) (hne:a≠[]):0<val b a:=by
 obtain⟨l,d,hl⟩:∃ l d,a=l++[d]:=⟨_,_,(List.dropLast_concat_getLast hne).symm⟩
 have hd:d≠0:=h d (by rw[hl];simp)
 rw[hl,val_concat']
 have:0<b ^ l.length*d:=Nat.mul_pos (Nat.pow_pos hb) (by omega)
 omega
def plE (H:Hp) (a b:List Nat) (k c i:Nat):En:=[(0,.d (nl a)),(1,.d (nl b)),(5,.gr H.length k),(6,.d (nI c)),(7,.d (nI i))]
theorem plus_round (H:Hp) (a b ds:List Nat) (c i:Nat) (hi:i<3000000) (hds:ds.length<3000000) (hc:c<1000000) (x y:Nat) (hx:x=a.getD i 0) (hy:y=b.getD i 0) (hx9:x<10) (hy9:y<10) (hgo:i<a.length∨i<b.length∨0<c) :
 evI cS l143_0 none (plE H a b ds.length c i) (.gr 3 1 (vl ds)::H)=some (.nor,plE H a b (ds.length+1) ((c+x+y)/10) (i+1),.gr 3 1 (vl (ds++[(c+x+y)%10]))::H):=by
 have qa:=allN a
 have qb:=allN b
 have hvl:=vl_len ds
 have hav:=allV ds
 have bnd:(ds.length+1)*8≤140737488355328:=by omega
 have bnd2:ds.length+1≤140737488355328:=by omega
 have wi:IntKind.i64.wrap ((i:Int)+1)=(i:Int)+1:=wr64 (by omega) (by omega)
 obtain⟨s,hs⟩:∃ s,s=c+x+y:=⟨_,rfl⟩
 have r1:(s:Int).tmod 10=((s%10:Nat):Int):=by rw[Int.tmod_eq_emod_of_nonneg (by omega)];omega
 have r2:(s:Int).tdiv 10=((s/10:Nat):Int):=by rw[Int.tdiv_eq_ediv_of_nonneg (by omega)];omega
 obtain⟨m,hm⟩:∃ m,m=s%10:=⟨_,rfl⟩
 obtain⟨q,hq⟩:∃ q,q=s/10:=⟨_,rfl⟩
 have wq:IntKind.i64.wrap (q:Int)=(q:Int):=wr64 (by omega) (by omega)
 rw[← hm] at r1
 rw[← hq] at r2
 rw[← hs,← hm,← hq,vl_append]
 have hvm:vl [m]=[.d (.i .i64 m)]:=rfl
 rw[hvm]
 obtain⟨v,hv⟩:∃ v,v=vl ds:=⟨_,rfl⟩
 rw[← hv] at hvl hav ⊢
 by_cases ha:i<a.length
 ·have ia:a[i]=x:=by rw[hx,List.getD_eq_getElem?_getD,List.getElem?_eq_getElem ha];rfl
  have w1:IntKind.i64.wrap ((c:Int)+x)=((c+x:Nat):Int):=by rw[wr64 (by omega) (by omega)];omega
  by_cases hb:i<b.length
  ·have ib:b[i]=y:=by rw[hy,List.getD_eq_getElem?_getD,List.getElem?_eq_getElem hb];rfl
   have w2:IntKind.i64.wrap (((c+x:Nat):Int)+y)=(s:Int):=by rw[wr64 (by omega) (by omega)];omega
   obtain⟨t,ht⟩:∃ t,t=c+x:=⟨_,rfl⟩
   rw[← ht] at w1 w2
   simp[l143_0,plE,put,eset,eget,D.cells,V.cells,allD,hget,hset,fz,zC,zN,nl,nI,ha,hb,ia,ib,qa,qb,w1,w2,wi,r1,r2,wq,evApp,elemsOf,allCells,allCellsD,setParts,chunk1,notGr,hvl,hav,bnd,bnd2]
  ·have hy0:y=0:=by rw[hy,getD_ge b i (by omega)]
   have w3:IntKind.i64.wrap ((c:Int)+x)=(s:Int):=by rw[w1,hs,hy0];rfl
   simp[l143_0,plE,put,eset,eget,D.cells,V.cells,allD,hget,hset,fz,zC,zN,nl,nI,ha,hb,ia,qa,qb,w3,wi,r1,r2,wq,evApp,elemsOf,allCells,allCellsD,setParts,chunk1,notGr,hvl,hav,bnd,bnd2]
 ·have hx0:x=0:=by rw[hx,getD_ge a i (by omega)]
  by_cases hb:i<b.length
  ·have ib:b[i]=y:=by rw[hy,List.getD_eq_getElem?_getD,List.getElem?_eq_getElem hb];rfl
   have w2:IntKind.i64.wrap ((c:Int)+y)=(s:Int):=by rw[wr64 (by omega) (by omega)];omega
   simp[l143_0,plE,put,eset,eget,D.cells,V.cells,allD,hget,hset,fz,zC,zN,nl,nI,ha,hb,ib,qa,qb,w2,wi,r1,r2,wq,evApp,elemsOf,allCells,allCellsD,setParts,chunk1,notGr,hvl,hav,bnd,bnd2]
  ·have hy0:y=0:=by rw[hy,getD_ge b i (by omega)]
   have hc0:0<c:=by rcases hgo with h | h | h;exact absurd h ha;exact absurd h hb;exact h
   have hcs:c=s:=by omega
   rw[hcs]
   have hs0:0<s:=by omega
   simp[l143_0,plE,put,eset,eget,D.cells,V.cells,allD,hget,hset,fz,zC,zN,nl,nI,ha,hb,hs0,qa,qb,wi,r1,r2,wq,evApp,elemsOf,allCells,allCellsD,setParts,chunk1,notGr,hvl,hav,bnd,bnd2]
theorem plus_loop (H:Hp) (a b:List Nat) (ta:Trimmed a) (tb:Trimmed b) (ga:Digs a) (gb:Digs b) (la:a.length≤500000) (lb:b.length≤500000):∀ (m i c:Nat) (ds:List Nat),2*((a.length-i)+(b.length-i))+c≤m→c≤1→ds.length=i→i+m≤2500000 →
 ∃ e,evI cS (.loop l143_0) none (plE H a b ds.length c i) (.gr 3 1 (vl ds)::H)=some (.ex 0,e,.gr 3 1 (vl (ds++digs 10 (val 10 (a.drop i)+val 10 (b.drop i)+c)))::H)∧eget e 5=.gr H.length (ds++digs 10 (val 10 (a.drop i)+val 10 (b.drop i)+c)).length:=by
 intro m
 induction m with
 | zero =>
   intro i c ds hm hc hd hi
   have hc0:c=0:=by omega
   have ha:¬ i<a.length:=by omega
   have hb:¬ i<b.length:=by omega
   subst hc0
   rw[List.drop_eq_nil_of_le (show a.length≤i by omega),List.drop_eq_nil_of_le (show b.length≤i by omega)]
   simp only[val,digs_zero,List.append_nil,Nat.add_zero]
   rw[evI_loop]
   simp[l143_0,plE,put,eset,eget,D.cells,V.cells,allD,hget,hset,fz,zC,zN,nl,nI,ha,hb]
 | succ m ih =>
   intro i c ds hm hc hd hi
   by_cases hgo:i<a.length∨i<b.length∨0<c
   ·have hx9:=getD_lt (by omega) a ga i
    have hy9:=getD_lt (by omega) b gb i
    have hr:=plus_round H a b ds c i (by omega) (by omega) (by omega) _ _ rfl rfl hx9 hy9 hgo
    have d1:=val_drop 10 a i
    have d2:=val_drop 10 b i
    obtain⟨x,hx⟩:∃ x,x=a.getD i 0:=⟨_,rfl⟩
    obtain⟨y,hy⟩:∃ y,y=b.getD i 0:=⟨_,rfl⟩
    rw[← hx,← hy] at hr
    rw[← hx] at hx9 d1
    rw[← hy] at hy9 d2
    have hx0:¬ i<a.length→x=0:=fun h=>by rw[hx,getD_ge a i (by omega)]
    have hy0:¬ i<b.length→y=0:=fun h=>by rw[hy,getD_ge b i (by omega)]
    have hmm:2*((a.length-(i+1))+(b.length-(i+1)))+(c+x+y)/10≤m:=by
     by_cases h1:i<a.length
     ·omega
     ·have:=hx0 h1
      by_cases h2:i<b.length
      ·omega
      ·have:=hy0 h2;omega
    obtain⟨e,h1,h2⟩:=ih (i+1) ((c+x+y)/10) (ds++[(c+x+y)%10]) hmm (by omega) (by simp<;>omega) (by omega)
    have hpos:0<val 10 (a.drop i)+val 10 (b.drop i)+c:=by
     rcases hgo with h | h | h
     ·have:=trimmed_pos (b:=10) (by omega) (trimmed_drop ta i) (by intro h0;have:=congrArg List.length h0;simp at this;omega);omega
     ·have:=trimmed_pos (b:=10) (by omega) (trimmed_drop tb i) (by intro h0;have:=congrArg List.length h0;simp at this;omega);omega
     ·omega
    have hdg:digs 10 (val 10 (a.drop i)+val 10 (b.drop i)+c)=((c+x+y)%10)::digs 10 (val 10 (a.drop (i+1))+val 10 (b.drop (i+1))+(c+x+y)/10):=by
     rw[digs_pos (by omega) hpos,d1,d2]
     congr 1
     ·omega
     ·congr 1;omega
    refine⟨e,?_,?_⟩
    ·rw[evI_loop,hr]
     simp only[thenR]
     rw[hdg]
     simp only[List.length_append,List.length_singleton,List.append_assoc,List.singleton_append] at h1
     exact h1
    ·rw[h2,hdg];simp
   ·have ha:¬ i<a.length:=fun h=>hgo (.inl h)
    have hb:¬ i<b.length:=fun h=>hgo (.inr (.inl h))
    have hc0:c=0:=by
     have:¬ 0<c:=fun h=>hgo (.inr (.inr h))
     omega
    subst hc0
    rw[List.drop_eq_nil_of_le (show a.length≤i by omega),List.drop_eq_nil_of_le (show b.length≤i by omega)]
    simp only[val,digs_zero,List.append_nil,Nat.add_zero]
    rw[evI_loop]
    simp[l143_0,plE,put,eset,eget,D.cells,V.cells,allD,hget,hset,fz,zC,zN,nl,nI,ha,hb]
theorem plus3_ok (a b:Nat) (la:(digs 10 a).length≤500000) (lb:(digs 10 b).length≤500000) (H:Hp) :
 callV cS false (fnV 143) [.d (nl (digs 10 a)),.d (nl (digs 10 b))] H=some (.val (.d (nl (digs 10 (a+b)))),H):=by
 rw[callV_fn (sf:=c143) rfl rfl rfl rfl]
 obtain⟨e,h1,h2⟩:=plus_loop H (digs 10 a) (digs 10 b) (digs_trimmed (by omega) a) (digs_trimmed (by omega) b) (digs10 a) (digs10 b) la lb _ 0 0 [] (Nat.le_refl _) (by omega) rfl (by omega)
 simp only[List.drop_zero,val_digs (b:=10) (by omega),Nat.add_zero,List.nil_append] at h1 h2
 simp only[plE,nI,nl,List.length_nil,show vl []=[] from rfl,show ((0:Nat):Int)=0 from rfl] at h1
 have hr:evI cS b143 none (enter [.d (nl (digs 10 a)),.d (nl (digs 10 b))]) H=some (.rt,[(4,.gr H.length (digs 10 (a+b)).length)],.gr 3 1 (vl (digs 10 (a+b)))::H):=by
  simp[b143,put,eset,eget,D.cells,V.cells,allD,hget,hset,fz,zC,zN,nl,h1,h2]
 simp only[List.map_nil,List.nil_append,List.append_nil,c143]
 rw[hr]
 simp only[outOf,resOf,resV,eget]
 simp[fin_u,fz_gr (ty:=3) (sz:=1) (l:=digs 10 (a+b)) (show hget (.gr 3 1 (vl (digs 10 (a+b)))::H) H.length=_ by simp[hget]) (Nat.le_refl _) rfl,HOk.refl,HOk_cons',trunc_cons',trunc_self]
end
section
open Go Num
theorem minus_round (H:Hp) (a b ds:List Nat) (c i:Nat) (hi:i<3000000) (hds:ds.length<3000000) (hc:c≤1) (x y:Nat) (hx:x=a.getD i 0) (hy:y=b.getD i 0) (hx9:x<10) (hy9:y<10) (ha:i<a.length) :
 ∃ d c':Nat,evI cS l144_0 none (plE H a b ds.length c i) (.gr 3 1 (vl ds)::H)=some (.nor,plE H a b (ds.length+1) c' (i+1),.gr 3 1 (vl (ds++[d]))::H)∧d<10∧c'≤1∧(d:Int)=(x:Int)-y-c+10*c':=by
 have qa:=allN a
 have qb:=allN b
 have hvl:=vl_len ds
 have hav:=allV ds
 have bnd:(ds.length+1)*8≤140737488355328:=by omega
 have bnd2:ds.length+1≤140737488355328:=by omega
 have wi:IntKind.i64.wrap ((i:Int)+1)=(i:Int)+1:=wr64 (by omega) (by omega)
 have ia:a[i]=x:=by rw[hx,List.getD_eq_getElem?_getD,List.getElem?_eq_getElem ha];rfl
 have w1:IntKind.i64.wrap ((x:Int)-c)=(x:Int)-c:=wr64 (by omega) (by omega)
 have w2:IntKind.i64.wrap ((x:Int)-c-y)=(x:Int)-c-y:=wr64 (by omega) (by omega)
 have w3:IntKind.i64.wrap ((x:Int)-c-y+10)=(x:Int)-c-y+10:=wr64 (by omega) (by omega)
 have w4:IntKind.i64.wrap ((x:Int)-c+10)=(x:Int)-c+10:=wr64 (by omega) (by omega)
 have hv1:∀ d:Nat,vl (ds++[d])=vl ds++[.d (.i .i64 d)]:=fun d=>by rw[vl_append];rfl
 obtain⟨v,hv⟩:∃ v,v=vl ds:=⟨_,rfl⟩
 simp only[hv1,← hv]
 rw[← hv] at hvl hav
 by_cases hneg:(x:Int)-c-y<0
 ·refine⟨((x:Int)-c-y+10).toNat,1,?_,by omega,by omega,by omega⟩
  have e1:((((x:Int)-c-y+10).toNat:Nat):Int)=(x:Int)-c-y+10:=by omega
  rw[e1]
  have hneg2:(x:Int)-c<y:=by omega
  by_cases hb:i<b.length
  ·have ib:b[i]=y:=by rw[hy,List.getD_eq_getElem?_getD,List.getElem?_eq_getElem hb];rfl
   simp[l144_0,plE,put,eset,eget,D.cells,V.cells,allD,hget,hset,fz,zC,zN,nl,nI,ha,hb,ia,ib,qa,qb,w1,w2,w3,wi,hneg,hneg2,evApp,elemsOf,allCells,allCellsD,setParts,chunk1,notGr,hvl,hav,bnd,bnd2]
  ·have hy0:y=0:=by rw[hy,getD_ge b i (by omega)]
   subst hy0
   simp only[Int.natCast_zero,Int.sub_zero] at hneg hneg2 w3 ⊢
   have hneg3:(x:Int)<c:=by omega
   simp[l144_0,plE,put,eset,eget,D.cells,V.cells,allD,hget,hset,fz,zC,zN,nl,nI,ha,hb,ia,qa,qb,w1,w3,wi,hneg,hneg3,evApp,elemsOf,allCells,allCellsD,setParts,chunk1,notGr,hvl,hav,bnd,bnd2]
 ·refine⟨((x:Int)-c-y).toNat,0,?_,by omega,by omega,by omega⟩
  have e1:((((x:Int)-c-y).toNat:Nat):Int)=(x:Int)-c-y:=by omega
  rw[e1]
  have hneg2:¬ (x:Int)-c<y:=by omega
  by_cases hb:i<b.length
  ·have ib:b[i]=y:=by rw[hy,List.getD_eq_getElem?_getD,List.getElem?_eq_getElem hb];rfl
   simp[l144_0,plE,put,eset,eget,D.cells,V.cells,allD,hget,hset,fz,zC,zN,nl,nI,ha,hb,ia,ib,qa,qb,w1,w2,wi,hneg,hneg2,evApp,elemsOf,allCells,allCellsD,setParts,chunk1,notGr,hvl,hav,bnd,bnd2]
  ·have hy0:y=0:=by rw[hy,getD_ge b i (by omega)]
   subst hy0
   simp only[Int.natCast_zero,Int.sub_zero] at hneg hneg2 ⊢
   have hneg3:¬ (x:Int)<c:=by omega
   simp[l144_0,plE,put,eset,eget,D.cells,V.cells,allD,hget,hset,fz,zC,zN,nl,nI,ha,hb,ia,qa,qb,w1,wi,hneg,hneg3,evApp,elemsOf,allCells,allCellsD,setParts,chunk1,notGr,hvl,hav,bnd,bnd2]
theorem minus_loop (H:Hp) (a b:List Nat) (ga:Digs a) (gb:Digs b) (la:a.length≤500000) (lb:b.length≤a.length):∀ (m i c:Nat) (ds:List Nat),a.length-i=m→i≤a.length→c≤1→ds.length=i →
 ∃ e out k,evI cS (.loop l144_0) none (plE H a b ds.length c i) (.gr 3 1 (vl ds)::H)=some (.ex 0,e,.gr 3 1 (vl (ds++out))::H)∧eget e 5=.gr H.length (ds++out).length ∧
  out.length=m∧Digs out∧(val 10 out:Int)=(val 10 (a.drop i):Int)-val 10 (b.drop i)-c+((10 ^ m*k:Nat):Int):=by
 intro m
 induction m with
 | zero =>
   intro i c ds hm hia hc hd
   have ha:¬ i<a.length:=by omega
   refine⟨plE H a b ds.length c i++[(12,.d (.b false))],[],c,?_,?_,rfl,by intro d hd;simp at hd,?_⟩
   ·rw[evI_loop,List.append_nil]
    simp[l144_0,plE,put,eset,eget,D.cells,V.cells,allD,hget,hset,fz,zC,zN,nl,nI,ha]
   ·simp[eget,plE]
   ·rw[List.drop_eq_nil_of_le (show a.length≤i by omega),List.drop_eq_nil_of_le (show b.length≤i by omega)]
    simp[val];omega
 | succ m ih =>
   intro i c ds hm hia hc hd
   have ha:i<a.length:=by omega
   have hx9:=getD_lt (by omega) a ga i
   have hy9:=getD_lt (by omega) b gb i
   obtain⟨d,c',hr,hd9,hc',hdv⟩:=minus_round H a b ds c i (by omega) (by omega) hc _ _ rfl rfl hx9 hy9 ha
   obtain⟨e,out,k,h1,h2,h3,h4,h5⟩:=ih (i+1) c' (ds++[d]) (by omega) (by omega) hc' (by simp<;>omega)
   refine⟨e,d::out,k,?_,?_,by simp[h3],?_,?_⟩
   ·rw[evI_loop,hr]
    simp only[thenR]
    simp only[List.length_append,List.length_singleton,List.append_assoc,List.singleton_append] at h1
    exact h1
   ·rw[h2];simp
   ·intro z hz
    rcases List.mem_cons.1 hz with h | h
    ·subst h;exact hd9
    ·exact h4 z h
   ·have d1:=val_drop 10 a i
    have d2:=val_drop 10 b i
    rw[d1,d2,val]
    have hp:(10 ^ (m+1)*k:Nat)=10*(10 ^ m*k):=by rw[Nat.pow_succ];grind
    rw[hp]
    generalize 10 ^ m*k=K at *
    generalize val 10 (a.drop (i+1))=A at *
    generalize val 10 (b.drop (i+1))=B at *
    generalize a.getD i 0=x at *
    generalize b.getD i 0=y at *
    omega
theorem minus3_ok (a b:Nat) (hab:b≤a) (la:(digs 10 a).length≤500000) (H:Hp) :
 callV cS false (fnV 144) [.d (nl (digs 10 a)),.d (nl (digs 10 b))] H=some (.val (.d (nl (digs 10 (a-b)))),H):=by
 rw[callV_fn (sf:=c144) rfl rfl rfl rfl]
 have hlb:(digs 10 b).length≤(digs 10 a).length:=by
  rw[digs_length_le (by omega)]
  exact Nat.lt_of_le_of_lt hab ((digs_length_le (by omega)).1 (Nat.le_refl _))
 obtain⟨e,out,k,h1,h2,h3,h4,h5⟩:=minus_loop H (digs 10 a) (digs 10 b) (digs10 a) (digs10 b) la hlb _ 0 0 [] rfl (by omega) (by omega) rfl
 simp only[List.drop_zero,val_digs (b:=10) (by omega),List.nil_append] at h1 h2 h5
 have hv:val 10 out=a-b:=by
  have hlt:=val_lt (b:=10) (by omega) out h4
  rw[h3] at hlt
  have hk:k=0:=by
   rcases Nat.eq_zero_or_pos k with h | h
   ·exact h
   ·have:=Nat.le_mul_of_pos_right (10 ^ ((digs 10 a).length-0)) h
    omega
  subst hk
  rw[Nat.mul_zero] at h5
  omega
 have htr:=trim3_ok out (by omega)
 rw[trim_eq_digs (b:=10) (by omega) _ h4,hv] at htr
 have hvl:=vl_len out
 simp only[plE,nI,nl,List.length_nil,show vl []=[] from rfl,show ((0:Nat):Int)=0 from rfl] at h1
 simp only[nl] at htr
 simp[c144,b144,put,eset,eget,D.cells,V.cells,allD,hget,hset,fz,zC,zN,nl,h1,h2,frzV,hvl,allD_vl,htr]
end
section
open Go Num
def dH (j:Nat) (x:Ob) (H:Hp):Hp:=List.replicate j .dead++x::H
theorem dH_cons (j:Nat) (x:Ob) (H:Hp):.dead::dH j x H=dH (j+1) x H:=rfl
theorem dH_zero (x:Ob) (H:Hp):x::H=dH 0 x H:=rfl
theorem dH_len (j:Nat) (x:Ob) (H:Hp):(dH j x H).length=H.length+1+j:=by simp[dH];omega
theorem hget_dH (x:Ob) (H:Hp):∀ j,hget (dH j x H) H.length=some x
 | 0=>by show hget (x::H) _=_;rw[hget,if_pos rfl]
 | j+1=>by
   show hget (.dead::dH j x H) _=_
   rw[hget,dH_len,if_neg (by omega)];exact hget_dH x H j
theorem hset_dH (x y:Ob) (H:Hp):∀ j,hset (dH j x H) H.length y=dH j y H
 | 0=>by show hset (x::H) _ _=_;simp[hset,dH]
 | j+1=>by
   show hset (.dead::dH j x H) _ _=.dead::dH j y H
   rw[← hset_dH x y H j]
   have:¬ H.length=(dH j x H).length:=by rw[dH_len];omega
   simp[hset,this]
theorem trunc_dH (x:Ob) (H:Hp):∀ j,trunc H.length (dH j x H)=H
 | 0=>by show trunc _ (x::H)=_;rw[trunc_cons' (Nat.le_refl _),trunc_self]
 | j+1=>by
   show trunc _ (.dead::dH j x H)=_
   rw[trunc_cons' (by rw[dH_len];omega)];exact trunc_dH x H j
theorem HOk_dH (x:Ob) (H:Hp):∀ j,HOk H (dH j x H)
 | 0=>by show HOk H (x::H);rw[HOk_cons' (Nat.le_refl _)];exact HOk.refl H
 | j+1=>by
   show HOk H (.dead::dH j x H)
   rw[HOk_cons' (by rw[dH_len];omega)];exact HOk_dH x H j
theorem dH_ne (j:Nat) (x:Ob) (H:Hp):(H.length=(dH j x H).length)=False:=by rw[dH_len];apply propext;exact⟨fun h=>by omega,fun h=>h.elim⟩
theorem dH_le (j:Nat) (x:Ob) (H:Hp):(H.length≤(dH j x H).length)=True:=by rw[dH_len];apply propext;simp;omega
theorem vl_set (qs:List Nat) (i d:Nat):vl (qs.set i d)=(vl qs).set i (.d (nI d)):=by simp[vl,List.map_set]
def dvE (H:Hp) (a b r:List Nat) (n:Nat) (i:Int):En:=[(0,.d (nl a)),(1,.d (nl b)),(6,.gr H.length n),(7,.d (nl r)),(8,.d (.i .i64 i))]
theorem div_inner (H:Hp) (a:List Nat) (B:Nat) (hB:0<B) (lB:(digs 10 B).length≤400000) (n i j:Nat):∀ (R:Nat) (qs:List Nat),(digs 10 R).length≤400000→qs.length=n→i<n→qs.getD i 0+R/B<1000000000 →
 ∃ e,evI cS (.loop l127_0) none (dvE H a (digs 10 B) (digs 10 R) n i) (dH j (.gr 3 1 (vl qs)) H)=some (.ex 2,e,dH j (.gr 3 1 (vl (qs.set i (qs.getD i 0+R/B)))) H)∧(∀ t,t∈[0,1,6,8]→eget e t=eget (dvE H a (digs 10 B) (digs 10 R) n i) t)∧eget e 7=.d (nl (digs 10 (R%B))):=by
 intro R
 induction R using Nat.strongRecOn with
 | _ R ih =>
   intro qs lR hq hi hb
   have ho:=order_ok R B (by omega)
   by_cases hc:B≤R
   ·have hcm:(0:Int)≤cmpI R B:=by unfold cmpI;rw[if_neg (by omega)];split<;>omega
    have hm:=minus3_ok R B hc (by omega)
    have hdiv:R/B=(R-B)/B+1:=by rw[Nat.div_eq_sub_div hB hc]
    have hmod:R%B=(R-B)%B:=by rw[Nat.mod_eq_sub_mod hc]
    have lR':(digs 10 (R-B)).length≤400000:=by
     refine Nat.le_trans ?_ lR
     rw[digs_length_le (by omega)]
     exact Nat.lt_of_le_of_lt (Nat.sub_le _ _) ((digs_length_le (by omega)).1 (Nat.le_refl _))
    have hgs:(qs.set i (qs.getD i 0+1)).getD i 0=qs.getD i 0+1:=by
     rw[List.getD_eq_getElem?_getD,List.getElem?_set_self (by omega)];rfl
    obtain⟨e,h1,h2,h3⟩:=ih (R-B) (by omega) (qs.set i (qs.getD i 0+1)) lR' (by simp[hq]) hi (by rw[hgs];omega)
    rw[hgs,List.set_set,show qs.getD i 0+1+(R-B)/B=qs.getD i 0+R/B by omega] at h1
    refine⟨e,?_,?_,?_⟩
    ·rw[evI_loop]
     rw[← h1,vl_set]
     have hvl:=vl_len qs
     have hil:i<(vl qs).length:=by rw[hvl,hq];exact hi
     have hgi:(vl qs)[i]=.d (.i .i64 (qs.getD i 0)):=by
      have:(vl qs)[i]? = some (.d (nI (qs.getD i 0))):=by
       simp[vl,List.getD_eq_getElem?_getD,List.getElem?_eq_getElem (show i<qs.length by omega)]
      rw[List.getElem?_eq_getElem hil] at this;exact Option.some.inj this
     obtain⟨k,hk⟩:∃ k,k=qs.getD i 0:=⟨_,rfl⟩
     have hbk:qs.getD i 0<1000000000:=Nat.lt_of_le_of_lt (Nat.le_add_right _ _) hb
     rw[← hk] at hgi hbk ⊢
     have w:IntKind.i64.wrap ((k:Int)+1)=((k+1:Nat):Int):=by rw[wr64 (by omega) (by omega)];omega
     have hnI:nI (k+1)=.i .i64 ((k+1:Nat):Int):=rfl
     rw[hnI]
     obtain⟨k1,hk1⟩:∃ k1,k1=((k+1:Nat):Int):=⟨_,rfl⟩
     rw[← hk1] at w ⊢
     obtain⟨m,hm'⟩:∃ m,m=R-B:=⟨_,rfl⟩
     rw[← hm'] at hm ⊢
     have hvq:(vl qs).length=n:=by rw[hvl,hq]
     obtain⟨v,hv⟩:∃ v,v=vl qs:=⟨_,rfl⟩
     simp only[← hv] at hvq hgi hil ⊢
     simp only[nl] at ho hm
     simp[l127_0,dvE,put,eset,eget,D.cells,V.cells,allD,hget,hset,fz,zC,zN,nl,nI,ho,hm,hcm,hget_dH,hset_dH,hvq,hi,hil,hgi,w,chunk1,setParts]
    ·intro t ht
     rw[h2 t ht]
     simp at ht
     rcases ht with rfl | rfl | rfl | rfl<;>simp[dvE,eget]
    ·rw[h3,hmod]
   ·have hcm:¬ (0:Int)≤cmpI R B:=by unfold cmpI;rw[if_pos (by omega)];omega
    have hd0:R/B=0:=Nat.div_eq_of_lt (by omega)
    have hm0:R%B=R:=Nat.mod_eq_of_lt (by omega)
    have hset:qs.set i (qs.getD i 0)=qs:=by
     rw[List.getD_eq_getElem?_getD,List.getElem?_eq_getElem (by omega)]
     simp
    rw[hd0,hm0,Nat.add_zero,hset]
    refine⟨dvE H a (digs 10 B) (digs 10 R) n i++[(30,.d (.b false))],?_,?_,?_⟩
    ·rw[evI_loop]
     simp only[nl] at ho
     simp[l127_0,dvE,put,eset,eget,D.cells,V.cells,allD,hget,hset,fz,zC,zN,nl,nI,ho,hcm]
    ·intro t ht
     simp at ht
     rcases ht with rfl | rfl | rfl | rfl<;>simp[dvE,eget]
    ·simp[dvE,eget]
def qd10 (B:Nat):List Nat→List Nat×Nat
 | []=>([],0)
 | x::zs=>((x+10*(qd10 B zs).2)/B::(qd10 B zs).1,(x+10*(qd10 B zs).2)%B)
theorem qd10_len (B:Nat) (zs:List Nat):(qd10 B zs).1.length=zs.length:=by induction zs<;>simp[qd10, *]
theorem qd10_lt {B:Nat} (hB:0<B) (zs:List Nat):(qd10 B zs).2<B:=by
 cases zs with
 | nil=>exact hB
 | cons x zs=>exact Nat.mod_lt _ hB
theorem qd10_dig {B x r:Nat} (hB:0<B) (hr:r<B) (hx:x<10):(x+10*r)/B<10:=by
 rw[Nat.div_lt_iff_lt_mul hB];omega
theorem qd10_digs {B:Nat} (hB:0<B) {zs:List Nat} (h:Digs zs):Digs (qd10 B zs).1:=by
 induction zs with
 | nil=>intro d hd;simp[qd10] at hd
 | cons x zs ih =>
   intro d hd
   have h1:=h x (by simp)
   rcases List.mem_cons.1 hd with hd | hd
   ·subst hd;exact qd10_dig hB (qd10_lt hB zs) h1
   ·exact ih (fun d hd=>h d (by simp[hd])) d hd
theorem qd10_val {B:Nat} (zs:List Nat):val 10 (qd10 B zs).1*B+(qd10 B zs).2=val 10 zs:=by
 induction zs with
 | nil=>simp[qd10,val]
 | cons x zs ih =>
   simp only[qd10,val]
   have:=Nat.div_add_mod (x+10*(qd10 B zs).2) B
   rw[← ih,Nat.add_mul]
   generalize (x+10*(qd10 B zs).2)/B=q at *
   generalize (x+10*(qd10 B zs).2)%B=r at *
   generalize (qd10 B zs).2=s at *
   generalize val 10 (qd10 B zs).1=v at *
   grind
theorem qd10_spec {B:Nat} (hB:0<B) {zs:List Nat} (h:Digs zs):trim (qd10 B zs).1=digs 10 (val 10 zs/B)∧(qd10 B zs).2=val 10 zs%B:=by
 have h1:=qd10_val (B:=B) zs
 have h2:=qd10_lt hB zs
 constructor
 ·rw[trim_eq_digs (b:=10) (by omega) _ (qd10_digs hB h)]
  congr 1
  rw[← h1,Nat.add_comm,Nat.add_mul_div_right _ _ hB,Nat.div_eq_of_lt h2,Nat.zero_add]
 ·rw[← h1,Nat.add_comm,Nat.add_mul_mod_self_right,Nat.mod_eq_of_lt h2]
theorem set_rep (k:Nat) (qs:List Nat) (q:Nat):(List.replicate (k+1) 0++qs).set k q=List.replicate k 0++q::qs:=by
 have:List.replicate (k+1) 0++qs=List.replicate k 0++0::qs:=by rw[List.replicate_succ'];simp
 rw[this,List.set_append_right _ _ (by simp)]
 simp
theorem len10_le {a b:Nat} (h:a≤b):(digs 10 a).length≤(digs 10 b).length:=by
 rw[digs_length_le (by omega)]
 exact Nat.lt_of_le_of_lt h ((digs_length_le (by omega)).1 (Nat.le_refl _))
theorem div_outer (H:Hp) (a:List Nat) (B:Nat) (hB:0<B) (lB:(digs 10 B).length≤300000) (ga:Digs a) (la:a.length≤300000):∀ (k j:Nat) (ys zs:List Nat),ys.length=k→a=ys++zs →
 ∃ e j',evI cS (.loop l127_1) none (dvE H a (digs 10 B) (digs 10 (qd10 B zs).2) a.length ((k:Int)-1)) (dH j (.gr 3 1 (vl (List.replicate k 0++(qd10 B zs).1))) H)=some (.ex 0,e,dH j' (.gr 3 1 (vl (qd10 B a).1)) H)∧eget e 6=.gr H.length a.length∧eget e 7=.d (nl (digs 10 (qd10 B a).2)):=by
 intro k
 induction k with
 | zero =>
   intro j ys zs h1 h2
   have e1:ys=[]:=List.eq_nil_of_length_eq_zero h1
   subst e1
   rw[List.nil_append] at h2
   subst h2
   refine⟨dvE H a (digs 10 B) (digs 10 (qd10 B a).2) a.length (-1)++[(16,.d (.b false))],j,?_,?_,?_⟩
   ·rw[evI_loop]
    simp[l127_1,dvE,put,eset,eget,D.cells,V.cells,allD,hget,hset,fz,zC,zN,nl,nI]
   ·simp[dvE,eget]
   ·simp[dvE,eget]
 | succ k ih =>
   intro j ys zs h1 h2
   obtain⟨ys,y,rfl,hl1⟩:=exists_concat ys h1
   have hy:y<10:=ga y (by rw[h2];simp)
   obtain⟨R,hR⟩:∃ R,R=(qd10 B zs).2:=⟨_,rfl⟩
   have hRB:R<B:=by rw[hR];exact qd10_lt hB zs
   have la':k<a.length:=by rw[h2,← hl1];simp
   have ia:a[k]=y:=by
    have:a[k]? = some y:=by rw[h2,← hl1];simp
    rw[List.getElem?_eq_getElem la'] at this;exact Option.some.inj this
   have lR:=len10_le (Nat.le_of_lt hRB)
   have tr:=trim3_ok (y::digs 10 R) (show (digs 10 R).length+1<_ by omega)
   rw[trim_eq_digs (b:=10) (by omega) _ (by intro d hd;rcases List.mem_cons.1 hd with h | h;(subst h;exact hy);exact digs10 R d h),val,val_digs (by omega)] at tr
   have hq9:=qd10_dig hB hRB hy
   have lR1:(digs 10 (y+10*R)).length≤400000:=by
    have h3:y+10*R<10 ^ ((digs 10 B).length+1):=by
     have:B<10 ^ (digs 10 B).length:=(digs_length_le (by omega)).1 (Nat.le_refl _)
     rw[Nat.pow_succ];omega
    have:=(digs_length_le (b:=10) (by omega)).2 h3
    omega
   have hg0:(List.replicate (k+1) 0++(qd10 B zs).1).getD k 0=0:=by
    rw[List.getD_eq_getElem?_getD,List.getElem?_append_left (by simp)];simp
   obtain⟨e1,i1,i2,i3⟩:=div_inner H a B hB (by omega) a.length k (j+1) (y+10*R) (List.replicate (k+1) 0++(qd10 B zs).1) lR1 (by rw[h2];simp[qd10_len];omega) la' (by rw[hg0];omega)
   rw[hg0,Nat.zero_add,set_rep] at i1
   have hqd:qd10 B (y::zs)=((y+10*R)/B::(qd10 B zs).1,(y+10*R)%B):=by rw[hR];rfl
   obtain⟨e,j',g1,g2,g3⟩:=ih (j+1) ys (y::zs) hl1 (by rw[h2];simp)
   rw[hqd] at g1
   simp only at g1
   refine⟨e,j',?_,g2,g3⟩
   rw[evI_loop,← hR]
   rw[← g1]
   have f0:=i2 0 (by simp)
   have f1:=i2 1 (by simp)
   have f6:=i2 6 (by simp)
   have f8:=i2 8 (by simp)
   simp[dvE,eget] at f0 f1 f6 f8
   have qa:=allN a
   have qr:=allN (digs 10 R)
   have hk1:((k+1:Nat):Int)-1=k:=by omega
   have w:IntKind.i64.wrap ((k:Int)-1)=(k:Int)-1:=wr64 (by omega) (by omega)
   have bnd:(1+(digs 10 R).length)*8≤140737488355328:=by omega
   have bnd2:1+(digs 10 R).length≤140737488355328:=by omega
   have hav3:=allV (digs 10 R)
   have hvl:=vl_len (digs 10 R)
   have h1l:(digs 10 R).length+1=1+(digs 10 R).length:=by omega
   rw[hk1]
   obtain⟨X,hX⟩:∃ X,X=Ob.gr 3 1 (vl (List.replicate (k+1) 0++(qd10 B zs).1)):=⟨_,rfl⟩
   obtain⟨Y,hY⟩:∃ Y,Y=Ob.gr 3 1 (vl (List.replicate k 0++(y+10*R)/B::(qd10 B zs).1)):=⟨_,rfl⟩
   rw[← hX] at i1
   rw[← hY] at i1
   rw[← hX,← hY]
   obtain⟨G,hG⟩:∃ G,G=dH j X H:=⟨_,rfl⟩
   have hGd:dH (j+1) X H=.dead::G:=by rw[hG];rfl
   rw[hGd] at i1
   rw[← hG]
   simp only[nl,nI,List.map_cons] at tr
   simp only[nl,dvE] at i1 f0 f1 i3 ⊢
   simp[l127_1,put,eset,eget,D.cells,V.cells,allD,hget,hset,fz,zC,zN,nI,la',ia,qa,qr,w,evApp,elemsOf,allCells,allCellsD,setParts,chunk1,notGr,map_vl,hav3,bnd,bnd2,frzR,frzV,hvl,allD_vl,h1l,tr,i1,f0,f1,f6,f8,i3]
theorem fin_dH {v:V}{x:Ob}{H:Hp}{j:Nat}{d:D} (hv:fz (dH j x H) H.length 8 v=some d):fin false H (.ret v,dH j x H)=some (.val (.d d),H):=by
 rw[fin_u,hv]
 simp only[trunc_dH]
 rw[if_pos ⟨by rw[dH_len];omega,HOk_dH x H j⟩]
theorem divided_ok (a b:Nat) (hb:0<b) (la:(digs 10 a).length≤300000) (lb:(digs 10 b).length≤300000) (H:Hp) :
 callV cS false (fnV 127) [.d (nl (digs 10 a)),.d (nl (digs 10 b))] H=some (.val (.d (.tup [nl (digs 10 (a/b)),nl (digs 10 (a%b))])),H):=by
 rw[callV_fn (sf:=c127) rfl rfl rfl rfl]
 obtain⟨xs,hxs⟩:∃ xs,xs=digs 10 a:=⟨_,rfl⟩
 have gx:Digs xs:=by rw[hxs];exact digs10 a
 have hv:val 10 xs=a:=by rw[hxs,val_digs (by omega)]
 rw[← hxs] at la ⊢
 obtain⟨e,j',h1,h2,h3⟩:=div_outer H xs b hb lb gx la xs.length 0 xs [] rfl (by simp)
 obtain⟨s1,s2⟩:=qd10_spec hb gx
 have hql:=qd10_len b xs
 rw[hv] at s1 s2
 rw[s2] at h3
 have tr:=trim3_ok (qd10 b xs).1 (by rw[hql];omega)
 rw[s1] at tr
 obtain⟨qs,hqs⟩:∃ qs,qs=(qd10 b xs).1:=⟨_,rfl⟩
 rw[← hqs] at h1 tr hql
 have hz:vl (List.replicate xs.length 0++(qd10 b []).1)=List.replicate xs.length (.d (.i .i64 0)):=by simp[vl,qd10,nI]
 rw[hz] at h1
 have w1:IntKind.i64.wrap ((xs.length:Int)-1)=(xs.length:Int)-1:=wr64 (by omega) (by omega)
 have b1:(xs.length:Int)*8≤140737488355328:=by omega
 have b2:(xs.length:Int)≤140737488355328:=by omega
 have hvl:=vl_len qs
 rw[show (qd10 b []).2=0 from rfl,digs_zero] at h1
 simp only[nl,dvE,List.map_nil] at h1 h3 tr
 rw[← dH_zero] at h1
 have hfr:frzV (dH j' (.gr 3 1 (vl qs)) H) (.gr H.length xs.length)=some (.val (.d (.ls (qs.map nI))),dH j' .dead H):=by
  simp[frzV,hget_dH,hset_dH,hvl,hql,allD_vl]
 have hb:evI cS b127 none (enter [.d (nl xs),.d (nl (digs 10 b))]) H=some (.rt,[(4,.d (.ls ((digs 10 (a/b)).map nI))),(5,.d (.ls ((digs 10 (a%b)).map nI)))],dH j' .dead H):=by
  simp[b127,put,eset,eget,D.cells,V.cells,allD,hget,hset,fz,zC,zN,nl,w1,b1,b2,chunk1,h1,h2,h3,hfr,tr]
 simp only[List.map_nil,List.nil_append,List.append_nil,c127]
 have ho:outOf [.t 4,.t 5] (evI cS b127 none (enter [.d (nl xs),.d (nl (digs 10 b))]) H)=some (.ret (.d (.tup [nl (digs 10 (a/b)),nl (digs 10 (a%b))])),dH j' .dead H):=by
  rw[hb]
  simp[outOf,resOf,resAll,resV,eget,mkTup,allD,nl]
 rw[ho]
 exact fin_dH (by simp[fz])
end
section
open Go Num
def bd (l:List UInt8):List D:=l.map fun b=>.i .u8 b.toNat
theorem allD_bv (l:List UInt8):allD (bv l)=some (bd l):=by induction l<;>simp[bv,bd,allD] at * ; simp[*]
theorem bytesOf_bd (l:List UInt8):bytesOf (bd l)=some l:=by
 induction l with
 | nil=>rfl
 | cons b l ih =>
   simp only[bd,List.map_cons,bytesOf] at ih ⊢
   rw[ih]
   simp
def txE (H:Hp) (ds:List Nat) (n:Nat) (i:Int):En:=[(1,.d (nl ds)),(6,.gr H.length n),(7,.d (.i .i64 i))]
theorem text3_loop (H:Hp) (ds:List Nat) (gd:Digs ds) (ld:ds.length≤300000):∀ (k:Nat) (ys zs:List Nat) (l:List UInt8),ys.length=k→ds=ys++zs→l.length+k≤600000 →
 evI cS (.loop l145_0) none (txE H ds l.length ((k:Int)-1)) (.gr 5 1 (bv l)::H)=some (.ex 0,txE H ds (l++ys.reverse.map ch).length (-1)++[(19,.d (.b false))],.gr 5 1 (bv (l++ys.reverse.map ch))::H):=by
 intro k
 induction k with
 | zero =>
   intro ys zs l h1 h2 h3
   have e1:ys=[]:=List.eq_nil_of_length_eq_zero h1
   subst e1
   rw[evI_loop]
   simp[l145_0,txE,put,eset,eget,D.cells,V.cells,allD,hget,hset,fz,zC,zN,nl,nI]
 | succ k ih =>
   intro ys zs l h1 h2 h3
   obtain⟨ys,y,rfl,hl1⟩:=exists_concat ys h1
   have hy:y<10:=gd y (by rw[h2];simp)
   have hih:=ih ys (y::zs) (l++[ch y]) hl1 (by rw[h2];simp) (by simp<;>omega)
   have hr:(ys++[y]).reverse.map ch=ch y::ys.reverse.map ch:=by simp
   rw[hr]
   rw[List.append_assoc,List.singleton_append] at hih
   rw[evI_loop]
   rw[← hih]
   have la:k<ds.length:=by rw[h2,← hl1];simp
   have ia:ds[k]=y:=by
    have:ds[k]? = some y:=by rw[h2,← hl1];simp
    rw[List.getElem?_eq_getElem la] at this;exact Option.some.inj this
   have qa:=allN ds
   have hk1:((k+1:Nat):Int)-1=k:=by omega
   have w:IntKind.i64.wrap ((k:Int)-1)=(k:Int)-1:=wr64 (by omega) (by omega)
   have w1:IntKind.i64.wrap (48+(y:Int))=((ch y).toNat:Int):=by rw[wr64 (by omega) (by omega),ch_toNat hy];omega
   have w2:IntKind.u8.wrap ((ch y).toNat:Int)=((ch y).toNat:Int):=by
    rw[ch_toNat hy];unfold IntKind.wrap;simp[IntKind.bits,IntKind.signed];omega
   have hba:bv (l++[ch y])=bv l++[.d (.i .u8 (ch y).toNat)]:=by rw[bv_append];rfl
   have hbl:=bv_len l
   have hal:=allB l
   have bnd:l.length+1≤140737488355328:=by omega
   rw[hk1,hba]
   obtain⟨c,hc⟩:∃ c,c=((ch y).toNat:Int):=⟨_,rfl⟩
   rw[← hc] at w1 w2 ⊢
   obtain⟨v,hv⟩:∃ v,v=bv l:=⟨_,rfl⟩
   rw[← hv] at hbl hal ⊢
   simp[l145_0,txE,put,eset,eget,D.cells,V.cells,allD,hget,hset,fz,zC,zN,nl,nI,la,ia,qa,w,w1,w2,evApp,elemsOf,allCells,allCellsD,setParts,chunk1,notGr,hbl,hal,bnd]
def txtD3 (neg:Bool) (n:Nat):D:=.tup [.s (txt (sg neg n)),.b (decide (n<10 ^ 200))]
theorem txt_sg (neg:Bool) (n:Nat) (h:n≠0):txt (sg neg n)=(if neg=true then [45] else [])++(digs 10 n).reverse.map ch:=by
 have hp:=txtN_pos (n:=n) (by omega)
 unfold txt sg
 cases neg
 ·have:¬ ((n:Int)<0):=by omega
  simp[this,hp]
 ·have:(-(n:Int))<0:=by omega
  simp[h,hp]
theorem text3_ok (neg:Bool) (n:Nat) (ln:(digs 10 n).length≤300000) (H:Hp) :
 callV cS false (fnV 145) [.d (.b neg),.d (nl (digs 10 n))] H=some (.val (.d (txtD3 neg n)),H):=by
 rw[callV_fn (sf:=c145) rfl rfl rfl rfl]
 by_cases h0:n=0
 ·subst h0
  have:txtD3 neg 0=.tup [.s [48],.b true]:=by
   unfold txtD3
   have hz:sg neg 0=0:=by unfold sg;split<;>rfl
   have hp:(0:Nat)<10 ^ 200:=Nat.pow_pos (by omega)
   rw[hz,txt_zero,decide_eq_true hp]
  rw[this]
  simp[c145,b145,nl,put,eset,eget,D.cells,V.cells,allD,hget,hset,fz,zC,zN,digs_zero]
 ·have hne:digs 10 n≠[]:=fun h=>h0 ((digs_eq_nil (by omega)).1 h)
  have hpos:¬ (digs 10 n).length=0:=fun h=>hne (List.eq_nil_of_length_eq_zero h)
  have hlp:=text3_loop H (digs 10 n) (digs10 n) ln _ (digs 10 n) [] (if neg=true then [45] else []) rfl (by simp) (by split<;>simp<;>omega)
  rw[← txt_sg neg n h0] at hlp
  have hfit:decide (n<10 ^ 200)=decide (((digs 10 n).length:Int)≤200):=by
   have:=digs_length_le (b:=10) (by omega) (n:=n) (k:=200)
   by_cases h:n<10 ^ 200
   ·have h2:=this.2 h
    rw[decide_eq_true h,decide_eq_true (by omega)]
   ·have h2:¬ (digs 10 n).length≤200:=fun h3=>h (this.1 h3)
    rw[decide_eq_false h,decide_eq_false (by omega)]
  unfold txtD3
  rw[hfit]
  obtain⟨t,ht⟩:∃ t,t=txt (sg neg n):=⟨_,rfl⟩
  obtain⟨ds,hds⟩:∃ ds,ds=digs 10 n:=⟨_,rfl⟩
  rw[← ht,← hds] at hlp
  rw[← hds] at hpos ln hne
  rw[← ht,← hds]
  have qa:=allN ds
  have w:IntKind.i64.wrap ((ds.length:Int)-1)=(ds.length:Int)-1:=wr64 (by omega) (by omega)
  have hbl:=bv_len t
  have hcs:∀ G:Hp,hget (.gr 5 1 (bv t)::G) G.length=some (.gr 5 1 (bv t)):=fun G=>by simp[hget]
  cases neg
  ·simp only[Bool.false_eq_true,if_false,txE,nl,List.length_nil,show bv []=[] from rfl] at hlp
   simp[c145,b145,nl,put,eset,eget,D.cells,V.cells,allD,hget,hset,fz,zC,zN,hpos,hne,qa,w,hlp,hbl,allD_bv,bytesOf_bd]
  ·simp only[if_true,txE,nl,List.length_singleton,show bv [45]=[.d (.i .u8 45)] from rfl] at hlp
   simp[c145,b145,nl,put,eset,eget,D.cells,V.cells,allD,hget,hset,fz,zC,zN,hpos,hne,qa,w,evApp,elemsOf,allCells,allCellsD,setParts,chunk1,notGr,hlp,hbl,allD_bv,bytesOf_bd]
end
section
open Go Num
theorem fit_iff (neg:Bool) (n:Nat):Fits (sg neg n)↔n<10 ^ 200:=by
 have hn:(sg neg n).natAbs=n:=by unfold sg;split<;>omega
 unfold Fits;rw[hn]
theorem checked_ok (neg:Bool) (n:Nat) (ln:(digs 10 n).length≤300000) (H:Hp) :
 callV cS false (fnV 128) [.d (.b neg),.d (nl (digs 10 n))] H=some (.val (.d (fitD (sg neg n))),H):=by
 rw[callV_fn (sf:=c128) rfl rfl rfl rfl]
 have h1:=text3_ok neg n ln
 simp only[txtD3,nl] at h1
 by_cases hf:n<10 ^ 200
 ·rw[fitD_of ((fit_iff neg n).2 hf)]
  rw[decide_eq_true hf] at h1
  simp[c128,b128,nl,put,eset,eget,D.cells,V.cells,allD,hget,hset,fz,zC,zN,h1]
 ·have:fitD (sg neg n)=errI:=by unfold fitD;rw[if_neg (fun h=>hf ((fit_iff neg n).1 h))]
  rw[this]
  rw[decide_eq_false hf] at h1
  simp[c128,b128,nl,put,eset,eget,D.cells,V.cells,allD,hget,hset,fz,zC,zN,h1,errI]
def dgE (H:Hp) (u:List UInt8) (neg:Bool) (n:Nat) (i:Int):En:=[(0,.d (.s u)),(4,.d (.b neg)),(5,.gr H.length n),(6,.d (.i .i64 i))]
theorem digits_loop (H:Hp) (neg:Bool) (u:List UInt8) (hu:u≠[48]) (lu:u.length≤300000):∀ (k:Nat) (ys zs:List Nat),ys.length=k→u=(zs++ys).reverse.map ch→Digs ys →
 ∃ e,evI cS (.loop l124_0) none (dgE H u neg zs.length ((k:Int)-1)) (.gr 3 1 (vl zs)::H)=some (.ex 0,e,.gr 3 1 (vl (zs++ys))::H)∧eget e 4=.d (.b neg)∧eget e 5=.gr H.length (zs++ys).length:=by
 intro k
 induction k with
 | zero =>
   intro ys zs h1 h2 g
   have e1:ys=[]:=List.eq_nil_of_length_eq_zero h1
   subst e1
   refine⟨dgE H u neg zs.length (-1)++[(21,.d (.b false))],?_,by simp[dgE,eget],by simp[dgE,eget]⟩
   rw[evI_loop]
   simp[l124_0,dgE,put,eset,eget,D.cells,V.cells,allD,hget,hset,fz,zC,zN]
 | succ k ih =>
   intro ys zs h1 h2 g
   cases ys with
   | nil=>simp at h1
   | cons y ys =>
     have hl1:ys.length=k:=by simpa using h1
     have hy:y<10:=g y (by simp)
     obtain⟨e,i1,i2,i3⟩:=ih ys (zs++[y]) hl1 (by rw[h2];simp) g.tail
     rw[List.append_assoc,List.singleton_append] at i1 i3
     refine⟨e,?_,i2,i3⟩
     rw[evI_loop,← i1]
     have lu':zs.length+(k+1)≤300000:=by rw[h2] at lu;simp at lu;omega
     have ik:u[k]? = some (ch y):=by
      rw[h2];simp only[List.reverse_append,List.reverse_cons,List.map_append,List.append_assoc]
      rw[List.getElem?_append_right (by simp[hl1])]
      simp[hl1]
     have hkl:k<u.length:=by
      rcases Nat.lt_or_ge k u.length with h | h
      ·exact h
      ·rw[List.getElem?_eq_none h] at ik;cases ik
     have ik':u[k]=ch y:=by rw[List.getElem?_eq_getElem hkl] at ik;exact Option.some.inj ik
     have hk1:((k+1:Nat):Int)-1=k:=by omega
     have w:IntKind.i64.wrap ((k:Int)-1)=(k:Int)-1:=wr64 (by omega) (by omega)
     have w1:IntKind.u8.wrap (((ch y).toNat:Int)-48)=(y:Int):=by
      rw[ch_toNat hy];unfold IntKind.wrap;simp[IntKind.bits,IntKind.signed];omega
     have w2:IntKind.i64.wrap (y:Int)=(y:Int):=wr64 (by omega) (by omega)
     have hva:vl (zs++[y])=vl zs++[.d (.i .i64 y)]:=by rw[vl_append];rfl
     have hvl:=vl_len zs
     have hav:=allV zs
     have bnd:(zs.length+1)*8≤140737488355328:=by omega
     have bnd2:zs.length+1≤140737488355328:=by omega
     have hub:(u==[48])=false:=by rw[beq_eq_false_iff_ne];exact hu
     rw[hk1,hva]
     obtain⟨c,hc⟩:∃ c,c=ch y:=⟨_,rfl⟩
     rw[← hc] at ik ik' w1
     obtain⟨v,hv⟩:∃ v,v=vl zs:=⟨_,rfl⟩
     rw[← hv] at hvl hav ⊢
     simp[l124_0,dgE,put,eset,eget,D.cells,V.cells,allD,hget,hset,fz,zC,zN,hu,hub,hkl,ik',w,w1,w2,evApp,elemsOf,allCells,allCellsD,setParts,chunk1,notGr,hvl,hav,bnd,bnd2]
def dD (z:Int):D:=.tup [.b (decide (z<0)),nl (digs 10 z.natAbs)]
theorem txtN_head45 (n:Nat):∃ b l,txtN n=b::l∧b≠45:=by
 cases h:txtN n with
 | nil=>exact absurd h (txtN_ne n)
 | cons b l=>exact⟨b,l,rfl,fun e=>txtN_cons45 n l (by rw[h,e])⟩
theorem digits_ok (z:Int) (hf:Fits z) (H:Hp):callV cS false (fnV 124) [.d (.s (txt z))] H=some (.val (.d (dD z)),H):=by
 rw[callV_fn (sf:=c124) rfl rfl rfl rfl]
 obtain⟨n,hn⟩:∃ n,n=z.natAbs:=⟨_,rfl⟩
 have hlen:=(fits_len n).2 (by rw[hn];exact hf)
 have hd:∃ e,evI cS (.loop l124_0) none (dgE H (txtN n) (decide (z<0)) 0 (((txtN n).length:Int)-1)) (.gr 3 1 []::H)=some (.ex 0,e,.gr 3 1 (vl (digs 10 n))::H)∧eget e 4=.d (.b (decide (z<0)))∧eget e 5=.gr H.length (digs 10 n).length:=by
  by_cases h0:n=0
  ·rw[h0,digs_zero]
   refine⟨dgE H [48] (decide (z<0)) 0 0++[(21,.d (.b false))],?_,by simp[dgE,eget],by simp[dgE,eget]⟩
   rw[evI_loop]
   have:txtN 0=[48]:=rfl
   simp[l124_0,dgE,put,eset,eget,D.cells,V.cells,allD,hget,hset,fz,zC,zN,this,vl]
  ·have hp:=txtN_pos (n:=n) (by omega)
   have hu:txtN n≠[48]:=by
    intro h
    obtain⟨b,l,h1,h2⟩:=txtN_head h0
    rw[h] at h1;cases h1;exact h2 rfl
   have:=digits_loop H (decide (z<0)) (txtN n) hu (by omega) _ (digs 10 n) [] rfl (by rw[hp];rfl) (digs10 n)
   rw[show (digs 10 n).length=(txtN n).length by rw[hp];simp] at this
   obtain⟨e,h1,h2,h3⟩:=this
   refine⟨e,h1,h2,?_⟩
   rw[h3];simp
 obtain⟨e,h1,h2,h3⟩:=hd
 obtain⟨b,l,hb,hb45⟩:=txtN_head45 n
 have hbn:((b.toNat:Int)==45)=false:=by
  rw[beq_eq_false_iff_ne];intro h
  exact hb45 (by rw[← UInt8.toNat_inj];have:b.toNat=45:=by omega
                 exact this)
 have hvl:=vl_len (digs 10 n)
 have hz:dD z=.tup [.b (decide (z<0)),nl (digs 10 n)]:=by rw[hn];rfl
 rw[hz]
 have hbe:evI cS b124 none (enter [.d (.s (txt z))]) H=some (.rt,[(2,.d (.b (decide (z<0)))),(3,.gr H.length (digs 10 n).length)],.gr 3 1 (vl (digs 10 n))::H):=by
  have w:IntKind.i64.wrap (((txtN n).length:Int)-1)=((txtN n).length:Int)-1:=wr64 (by omega) (by omega)
  by_cases hz:z<0
  ·have ht:txt z=45::txtN n:=by unfold txt;rw[if_pos hz,hn]
   rw[ht]
   rw[decide_eq_true hz] at h1 h2 ⊢
   have hpos:0<(txtN n).length:=by rw[hb];simp
   obtain⟨u,hu⟩:∃ u,u=txtN n:=⟨_,rfl⟩
   rw[← hu] at h1 w
   rw[← hu]
   simp only[dgE] at h1
   have f1:(1:Int)≤(u.length:Int)+1:=by omega
   simp[b124,put,eset,eget,D.cells,V.cells,allD,hget,hset,fz,zC,zN,bounds,boundOf,w,f1,h1,h2,h3]
  ·have ht:txt z=txtN n:=by unfold txt;rw[if_neg hz,hn]
   rw[ht]
   rw[decide_eq_false hz] at h1 h2 ⊢
   simp only[dgE] at h1
   rw[hb] at h1 w ⊢
   simp at w h1
   simp[b124,put,eset,eget,D.cells,V.cells,allD,hget,hset,fz,zC,zN,hbn,bounds,boundOf,w,h1,h2,h3]
 simp only[List.map_nil,List.nil_append,List.append_nil,c124]
 have ho:outOf [.t 2,.t 3] (evI cS b124 none (enter [.d (.s (txt z))]) H)=some (.ret (.tup [.d (.b (decide (z<0))),.gr H.length (digs 10 n).length]),.gr 3 1 (vl (digs 10 n))::H):=by
  rw[hbe]
  simp[outOf,resOf,resAll,resV,eget,mkTup,allD]
 rw[ho]
 have hom:=fun h n k=>omap_vl h n k (digs 10 z.natAbs)
 simp[fin_u,fz,omap,hget,hvl,hn,vl_len,hom,nl,HOk.refl,HOk_cons',trunc_cons',trunc_self]
end
section
open Go Num
theorem valid_loop (H:Hp) (u:List UInt8) (lu:u.length<4611686018427387904):∀ (q p:List UInt8),u=p++q →
 evI cS (.loop l79_0) none [(0,.d (.s u)),(3,.d (.i .i64 p.length))] H=some (if q.all isDig=true then (.ex 0,[(0,.d (.s u)),(3,.d (.i .i64 u.length)),(19,.d (.b false))],H) else (.rt,[(2,.d (.b false))],H)):=by
 intro q
 induction q with
 | nil =>
   intro p hu
   rw[List.append_nil] at hu
   subst hu
   rw[evI_loop]
   simp[l79_0,put,eset,eget,D.cells,V.cells,allD,hget,hset,fz,zC,zN]
 | cons c q ih =>
   intro p hu
   have hl:p.length<u.length:=by rw[hu];simp
   have hl':(p.length:Int)<u.length:=by omega
   have ic:u[p.length]=c:=by
    have:u[p.length]? = some c:=by rw[hu];simp
    rw[List.getElem?_eq_getElem hl] at this;exact Option.some.inj this
   have w:IntKind.i64.wrap ((p.length:Int)+1)=(p.length:Int)+1:=wr64 (by omega) (by omega)
   have hih:=ih (p++[c]) (by rw[hu];simp)
   have hpl:(((p++[c]).length:Nat):Int)=(p.length:Int)+1:=by simp
   rw[hpl] at hih
   rw[evI_loop]
   by_cases h1:c.toNat<48
   ·have hd:isDig c=false:=by simp[isDig];omega
    have h1':(c.toNat:Int)<48:=by omega
    rw[List.all_cons,hd,Bool.false_and,if_neg (by simp)]
    simp[l79_0,put,eset,eget,D.cells,V.cells,allD,hget,hset,fz,zC,zN,hl,hl',ic,h1']
   ·have h1':¬ (c.toNat:Int)<48:=by omega
    by_cases h2:57<c.toNat
    ·have hd:isDig c=false:=by simp[isDig];omega
     have h2':(57:Int)<c.toNat:=by omega
     rw[List.all_cons,hd,Bool.false_and,if_neg (by simp)]
     simp[l79_0,put,eset,eget,D.cells,V.cells,allD,hget,hset,fz,zC,zN,hl,hl',ic,h1',h2']
    ·have hd:isDig c=true:=by simp[isDig];omega
     have h2':¬ (57:Int)<c.toNat:=by omega
     rw[List.all_cons,hd,Bool.true_and]
     rw[← hih]
     simp[l79_0,put,eset,eget,D.cells,V.cells,allD,hget,hset,fz,zC,zN,hl,hl',ic,h1',h2',w]
def tailV (u:List UInt8) (s48:Bool):Bool:=u.all isDig&&decide (0<u.length)&&decide (u.length≤200)&&(s48||u.head? != some 48)
theorem Valid3_ok (l:List UInt8) (hl:l.length<4611686018427387904) (H:Hp):callV cS false (fnV 79) [.d (.s l)] H=some (.val (.d (.b (ival l).isSome)),H):=by
 rw[callV_fn (sf:=c79) rfl rfl rfl rfl]
 have hi:(ival l).isSome=validI l:=by
  unfold ival
  by_cases h:validI l=true
  ·rw[if_pos h,h];rfl
  ·rw[if_neg h];simp at h;rw[h];rfl
 rw[hi]
 cases l with
 | nil =>
   have hlp:=valid_loop H [] (by simp) [] [] rfl
   simp at hlp
   simp[c79,b79,put,eset,eget,D.cells,V.cells,allD,hget,hset,fz,zC,zN,hlp,validI,unsign]
 | cons b r =>
   by_cases hb:b=45
   ·subst hb
    have hu:unsign (45::r)=r:=rfl
    have hv:validI (45::r)=(r.all isDig&&decide (0<r.length)&&decide (r.length≤200)&&r.head? != some 48):=by
     unfold validI;rw[hu]
     have:((45:UInt8)::r==[48])=false:=by rw[beq_eq_false_iff_ne];intro h;cases h
     rw[this,Bool.false_or]
    rw[hv]
    have f1:(1:Int)≤(r.length:Int)+1:=by omega
    by_cases hr:r=[48]
    ·subst hr
     simp[c79,b79,put,eset,eget,D.cells,V.cells,allD,hget,hset,fz,zC,zN,bounds,boundOf]
    ·have hrb:(r==[48])=false:=by rw[beq_eq_false_iff_ne];exact hr
     have hlp:=valid_loop H r (by simp at hl;omega) r [] rfl
     simp only[List.length_nil,show ((0:Nat):Int)=0 from rfl] at hlp
     by_cases ha:r.all isDig=true
     ·rw[if_pos ha] at hlp
      rw[ha]
      cases r with
      | nil=>simp[c79,b79,put,eset,eget,D.cells,V.cells,allD,hget,hset,fz,zC,zN,bounds,boundOf,hlp]
      | cons c r =>
        have hc:(((c.toNat:Int)) != 48)=(some c != some 48):=by
         by_cases e:c=48
         ·subst e;rfl
         ·have e2:¬ c.toNat=48:=fun h=>e (by rw[← UInt8.toNat_inj];exact h)
          have:((c.toNat:Int) != 48)=true:=by simp;omega
          rw[this];simp[e]
        have hpos:(0:Int)<(r.length:Int)+1:=by omega
        obtain⟨u,hu⟩:∃ u,u=c::r:=⟨_,rfl⟩
        have ul:u.length=r.length+1:=by rw[hu];rfl
        have u0:u[0]? = some c:=by rw[hu];rfl
        have uh:u.head? = some c:=by rw[hu];rfl
        rw[← hu] at hlp hr hrb f1 ⊢
        rw[uh,← hc]
        have hup:0<u.length:=by omega
        have u0':u[0]=c:=by rw[List.getElem?_eq_getElem hup] at u0;exact Option.some.inj u0
        by_cases h200:u.length≤200
        ·have h200':(u.length:Int)≤200:=by omega
         simp[c79,b79,put,eset,eget,D.cells,V.cells,allD,hget,hset,fz,zC,zN,bounds,boundOf,f1,hr,hrb,hlp,hup,h200,h200',u0']
        ·have h200':¬ (u.length:Int)≤200:=by omega
         simp[c79,b79,put,eset,eget,D.cells,V.cells,allD,hget,hset,fz,zC,zN,bounds,boundOf,f1,hr,hrb,hlp,hup,h200,h200',u0']
     ·rw[if_neg ha] at hlp
      rw[show r.all isDig=false by simpa using ha]
      simp[c79,b79,put,eset,eget,D.cells,V.cells,allD,hget,hset,fz,zC,zN,bounds,boundOf,f1,hr,hrb,hlp]
   ·have hu:unsign (b::r)=b::r:=by
     unfold unsign
     split
     ·rename_i e;cases e;exact absurd rfl hb
     ·rfl
    have hb45:((b.toNat:Int)==45)=false:=by
     rw[beq_eq_false_iff_ne];intro h
     exact hb (by rw[← UInt8.toNat_inj];have:b.toNat=45:=by omega
                  exact this)
    unfold validI
    rw[hu]
    have hlp:=valid_loop H (b::r) hl (b::r) [] rfl
    simp only[List.length_nil,show ((0:Nat):Int)=0 from rfl] at hlp
    have hc:(((b.toNat:Int)) != 48)=(some b != some 48):=by
     by_cases e:b=48
     ·subst e;rfl
     ·have e2:¬ b.toNat=48:=fun h=>e (by rw[← UInt8.toNat_inj];exact h)
      have:((b.toNat:Int) != 48)=true:=by simp;omega
      rw[this];simp[e]
    obtain⟨u,hu⟩:∃ u,u=b::r:=⟨_,rfl⟩
    have ul:u.length=r.length+1:=by rw[hu];rfl
    have u0:u[0]? = some b:=by rw[hu];rfl
    have uh:u.head? = some b:=by rw[hu];rfl
    have hup:0<u.length:=by omega
    have u0':u[0]=b:=by rw[List.getElem?_eq_getElem hup] at u0;exact Option.some.inj u0
    rw[← hu] at hlp ⊢
    rw[uh,← hc]
    by_cases ha:u.all isDig=true
    ·rw[if_pos ha] at hlp
     rw[ha]
     by_cases h200:u.length≤200
     ·have h200':(u.length:Int)≤200:=by omega
      by_cases hs:u=[48]
      ·have hsb:(u==[48])=true:=by rw[hs];rfl
       simp[c79,b79,put,eset,eget,D.cells,V.cells,allD,hget,hset,fz,zC,zN,hb45,hlp,hup,h200,h200',u0',hsb]
      ·have hsb:(u==[48])=false:=by rw[beq_eq_false_iff_ne];exact hs
       simp[c79,b79,put,eset,eget,D.cells,V.cells,allD,hget,hset,fz,zC,zN,hb45,hlp,hup,h200,h200',u0',hs,hsb]
     ·have h200':¬ (u.length:Int)≤200:=by omega
      simp[c79,b79,put,eset,eget,D.cells,V.cells,allD,hget,hset,fz,zC,zN,hb45,hlp,hup,h200,h200',u0']
    ·rw[if_neg ha] at hlp
     rw[show u.all isDig=false by simpa using ha]
     simp[c79,b79,put,eset,eget,D.cells,V.cells,allD,hget,hset,fz,zC,zN,hb45,hlp,hup,u0']
end
section
open Go Num
def Short (l:List UInt8):Prop:=l.length<4611686018427387904
theorem fits_len10 {z:Int} (h:Fits z):(digs 10 z.natAbs).length≤200:=(digs_length_le (by omega)).2 h
theorem len10_add {a b k:Nat} (ha:(digs 10 a).length≤k) (hb:(digs 10 b).length≤k):(digs 10 (a+b)).length≤k+1:=by
 rw[digs_length_le (by omega)] at *
 rw[Nat.pow_succ];omega
theorem sum3_ok (na nb:Bool) (a b:Nat) (la:(digs 10 a).length≤200000) (lb:(digs 10 b).length≤200000) (H:Hp) :
 callV cS false (fnV 125) [.d (.b na),.d (nl (digs 10 a)),.d (.b nb),.d (nl (digs 10 b))] H=some (.val (.d (fitD (sg na a+sg nb b))),H):=by
 rw[callV_fn (sf:=c125) rfl rfl rfl rfl]
 rw[← plusD_sg]
 have h2:=order_ok a b (by omega)
 simp only[nl] at h2
 by_cases hn:na=nb
 ·subst hn
  have hp:plusD na a na b=(na,a+b):=by simp[plusD]
  rw[hp]
  have h1:=plus3_ok a b (by omega) (by omega)
  have h3:=checked_ok na (a+b) (Nat.le_trans (len10_add la lb) (by omega))
  obtain⟨s,e,he⟩:=fitD_tup (sg na (a+b))
  simp only at he ⊢
  rw[he] at h3 ⊢
  simp only[nl] at h1 h3
  simp[c125,b125,nl,put,eset,eget,D.cells,V.cells,allD,hget,hset,fz,zC,zN,h1,h3]
 ·have hb:(na==nb)=false:=by rw[beq_eq_false_iff_ne];exact hn
  by_cases hab:b≤a
  ·have hp:plusD na a nb b=(na,a-b):=by simp[plusD,hn,hab]
   rw[hp]
   have hc:(0:Int)≤cmpI a b:=by unfold cmpI;rw[if_neg (by omega)];split<;>omega
   have h1:=minus3_ok a b hab (by omega)
   have h3:=checked_ok na (a-b) (Nat.le_trans (len10_le (Nat.sub_le a b)) (by omega))
   obtain⟨s,e,he⟩:=fitD_tup (sg na (a-b))
   simp only at he ⊢
   rw[he] at h3 ⊢
   simp only[nl] at h1 h3
   simp[c125,b125,nl,put,eset,eget,D.cells,V.cells,allD,hget,hset,fz,zC,zN,h1,h2,h3,hn,hb,hc]
  ·have hp:plusD na a nb b=(nb,b-a):=by simp[plusD,hn,hab]
   rw[hp]
   have hc:¬ (0:Int)≤cmpI a b:=by unfold cmpI;rw[if_pos (by omega)];omega
   have h1:=minus3_ok b a (by omega) (by omega)
   have h3:=checked_ok nb (b-a) (Nat.le_trans (len10_le (Nat.sub_le b a)) (by omega))
   obtain⟨s,e,he⟩:=fitD_tup (sg nb (b-a))
   simp only at he ⊢
   rw[he] at h3 ⊢
   simp only[nl] at h1 h3
   simp[c125,b125,nl,put,eset,eget,D.cells,V.cells,allD,hget,hset,fz,zC,zN,h1,h2,h3,hn,hb,hc]
theorem call_digits {l:List UInt8}{z:Int} (h:ival l=some z) (H:Hp):callV cS false (fnV 124) [.d (.s l)] H=some (.val (.d (.tup [.b (decide (z<0)),.ls ((digs 10 z.natAbs).map nI)])),H):=by
 obtain⟨hf,rfl⟩:=ival_some h
 exact digits_ok z hf H
theorem Add3_ok (a b:List UInt8) (sa:Short a) (sb:Short b) (H:Hp):callV cS false (fnV 119) [.d (.s a),.d (.s b)] H=some (.val (.d (opI (fun x y=>fitD (x+y)) errI a b)),H):=by
 rw[callV_fn (sf:=c119) rfl rfl rfl rfl]
 have v1:=Valid3_ok a sa
 have v2:=Valid3_ok b sb
 rcases ival_cases a b with ⟨x,y,ha,hb⟩ | h
 ·rw[opI_some ha hb]
  rw[ha] at v1
  rw[hb] at v2
  have d1:=call_digits ha
  have d2:=call_digits hb
  have h3:=sum3_ok (decide (x<0)) (decide (y<0)) x.natAbs y.natAbs (by have:=fits_len10 (ival_fits ha);omega) (by have:=fits_len10 (ival_fits hb);omega)
  rw[sg_dZ,sg_dZ] at h3
  obtain⟨s,e,he⟩:=fitD_tup (x+y)
  rw[he] at h3 ⊢
  simp only[nl] at h3
  simp[c119,b119,put,eset,eget,D.cells,V.cells,allD,hget,hset,fz,zC,zN,v1,v2,d1,d2,h3]
 ·rw[opI_none h]
  by_cases ha:ival a=none
  ·rw[ha] at v1
   simp[c119,b119,put,eset,eget,D.cells,V.cells,allD,hget,hset,fz,zC,zN,v1,errI]
  ·have hb:ival b=none:=by rcases h with h | h;exact absurd h ha;exact h
   rw[hb] at v2
   have ha':(ival a).isSome=true:=Option.isSome_iff_ne_none.2 ha
   rw[ha'] at v1
   simp[c119,b119,put,eset,eget,D.cells,V.cells,allD,hget,hset,fz,zC,zN,v1,v2,errI]
theorem Sub3_ok (a b:List UInt8) (sa:Short a) (sb:Short b) (H:Hp):callV cS false (fnV 78) [.d (.s a),.d (.s b)] H=some (.val (.d (opI (fun x y=>fitD (x-y)) errI a b)),H):=by
 rw[callV_fn (sf:=c78) rfl rfl rfl rfl]
 have v1:=Valid3_ok a sa
 have v2:=Valid3_ok b sb
 rcases ival_cases a b with ⟨x,y,ha,hb⟩ | h
 ·rw[opI_some ha hb]
  rw[ha] at v1
  rw[hb] at v2
  have d1:=call_digits ha
  have d2:=call_digits hb
  have h3:=sum3_ok (decide (x<0)) (!decide (y<0)) x.natAbs y.natAbs (by have:=fits_len10 (ival_fits ha);omega) (by have:=fits_len10 (ival_fits hb);omega)
  have hy:sg (!decide (y<0)) y.natAbs=-y:=by unfold sg;split<;>simp at * <;> omega
  rw[sg_dZ,hy,show x+-y=x-y by omega] at h3
  obtain⟨s,e,he⟩:=fitD_tup (x-y)
  rw[he] at h3 ⊢
  simp only[nl] at h3
  obtain⟨bY,hby⟩:∃ bY,bY=decide (y<0):=⟨_,rfl⟩
  rw[← hby] at d2 h3
  simp[c78,b78,put,eset,eget,D.cells,V.cells,allD,hget,hset,fz,zC,zN,v1,v2,d1,d2,h3]
 ·rw[opI_none h]
  by_cases ha:ival a=none
  ·rw[ha] at v1
   simp[c78,b78,put,eset,eget,D.cells,V.cells,allD,hget,hset,fz,zC,zN,v1,errI]
  ·have hb:ival b=none:=by rcases h with h | h;exact absurd h ha;exact h
   rw[hb] at v2
   have ha':(ival a).isSome=true:=Option.isSome_iff_ne_none.2 ha
   rw[ha'] at v1
   simp[c78,b78,put,eset,eget,D.cells,V.cells,allD,hget,hset,fz,zC,zN,v1,v2,errI]
theorem Compare3_ok (a b:List UInt8) (sa:Short a) (sb:Short b) (H:Hp):callV cS false (fnV 80) [.d (.s a),.d (.s b)] H=some (.val (.d (opI (fun x y=>.i .i64 (cmpI x y)) (.i .i64 0) a b)),H):=by
 rw[callV_fn (sf:=c80) rfl rfl rfl rfl]
 have v1:=Valid3_ok a sa
 have v2:=Valid3_ok b sb
 rcases ival_cases a b with ⟨x,y,ha,hb⟩ | h
 ·rw[opI_some ha hb]
  rw[ha] at v1
  rw[hb] at v2
  have d1:=call_digits ha
  have d2:=call_digits hb
  have h2:=order_ok x.natAbs y.natAbs (by have:=fits_len10 (ival_fits ha);omega)
  have h3:=order_ok y.natAbs x.natAbs (by have:=fits_len10 (ival_fits hb);omega)
  rw[cmp_sg x y]
  simp only[nl] at h2 h3
  by_cases hx:x<0<;>by_cases hy:y<0
  ·rw[decide_eq_true hx] at d1
   rw[decide_eq_true hy] at d2
   simp[c80,b80,put,eset,eget,D.cells,V.cells,allD,hget,hset,fz,zC,zN,v1,v2,d1,d2,h2,h3,hx,hy]
  ·rw[decide_eq_true hx] at d1
   rw[decide_eq_false hy] at d2
   simp[c80,b80,put,eset,eget,D.cells,V.cells,allD,hget,hset,fz,zC,zN,v1,v2,d1,d2,h2,h3,hx,hy]
  ·rw[decide_eq_false hx] at d1
   rw[decide_eq_true hy] at d2
   simp[c80,b80,put,eset,eget,D.cells,V.cells,allD,hget,hset,fz,zC,zN,v1,v2,d1,d2,h2,h3,hx,hy]
  ·rw[decide_eq_false hx] at d1
   rw[decide_eq_false hy] at d2
   simp[c80,b80,put,eset,eget,D.cells,V.cells,allD,hget,hset,fz,zC,zN,v1,v2,d1,d2,h2,h3,hx,hy]
 ·rw[opI_none h]
  by_cases ha:ival a=none
  ·rw[ha] at v1
   simp[c80,b80,put,eset,eget,D.cells,V.cells,allD,hget,hset,fz,zC,zN,v1]
  ·have hb:ival b=none:=by rcases h with h | h;exact absurd h ha;exact h
   rw[hb] at v2
   have ha':(ival a).isSome=true:=Option.isSome_iff_ne_none.2 ha
   rw[ha'] at v1
   simp[c80,b80,put,eset,eget,D.cells,V.cells,allD,hget,hset,fz,zC,zN,v1,v2]
end
end Go.Proofs.YtmiioebapckcoaaGreatDoor
