/- Part 18 of a proof: the small semantics, its soundness, the functions of the program in it, and the law. -/
import Derived.Test.YtmiioebapckcoaaGreatDoorJq
set_option linter.unusedVariables false
set_option linter.unusedSimpArgs false
set_option maxRecDepth 4000
namespace Go.Proofs.YtmiioebapckcoaaGreatDoor
section
open Go Num
theorem val_set (b:Nat):∀ (l:List Nat) (j d:Nat),j<l.length→val b (l.set j d)+l.getD j 0*b ^ j=val b l+d*b ^ j
 | [],j,d,h=>by simp at h
 | x::l,0,d,_=>by simp[val];omega
 | x::l,j+1,d,h=>by
   have ih:=val_set b l j d (by simp at h;omega)
   simp only[List.set_cons_succ,val,List.getD_cons_succ,Nat.pow_succ]
   have e1:l.getD j 0*(b ^ j*b)=b*(l.getD j 0*b ^ j):=by rw[← Nat.mul_assoc,Nat.mul_comm]
   have e2:d*(b ^ j*b)=b*(d*b ^ j):=by rw[← Nat.mul_assoc,Nat.mul_comm]
   rw[e1,e2]
   have:=congrArg (b * ·) ih
   simp only[Nat.mul_add] at this
   omega
theorem digs_mul_len {x y a b:Nat} (hx:(digs 10 x).length≤a) (hy:(digs 10 y).length≤b):(digs 10 (x*y)).length≤a+b:=by
 have p1:=(digs_length_le (b:=10) (by omega)).1 hx
 have p2:=(digs_length_le (b:=10) (by omega)).1 hy
 refine(digs_length_le (by omega)).2 ?_
 rw[Nat.pow_add]
 exact Nat.mul_lt_mul'' p1 p2
theorem digs_set {l:List Nat} (h:Digs l) {j d:Nat} (hd:d<10):Digs (l.set j d):=by
 intro x hx
 rcases List.mem_or_eq_of_mem_set hx with k | k
 ·exact h x k
 ·subst k;exact hd
def tmE (H:Hp) (a b:List Nat) (n i c k:Nat):En:=[(0,.d (nl a)),(1,.d (nl b)),(5,.gr H.length n),(6,.d (nI i)),(7,.d (nI c)),(8,.d (nI k))]
def tmN (a b out:List Nat) (i c k:Nat):Nat:=out.getD (i+k) 0+c+(if k<b.length then a.getD i 0*b.getD k 0 else 0)
set_option maxHeartbeats 1000000 in
theorem times_round3 (H:Hp) (a b out:List Nat) (i c k:Nat) (hi:i<a.length) (hk:i+k<out.length) (ho:out.length<1000000) (hc:c<1000) (ga:Digs a) (gb:Digs b) (gout:Digs out) (hgo:k<b.length∨0<c) :
 evI cS l166_0 none (tmE H a b out.length i c k) (.gr 3 1 (vl out)::H)=some (.nor,tmE H a b out.length i (tmN a b out i c k/10) (k+1),.gr 3 1 (vl (out.set (i+k) (tmN a b out i c k%10)))::H):=by
 have qa:=allN a
 have qb:=allN b
 have hvl:=vl_len out
 have hx9:=getD_lt (by omega) out gout (i+k)
 have hy9:=getD_lt (by omega) a ga i
 have hz9:=getD_lt (by omega) b gb k
 have hx:(vl out)[i+k]? = some (.d (nI (out.getD (i+k) 0))):=by
  simp[vl,List.getD_eq_getElem?_getD,hk]
 have ia:a[i]=a.getD i 0:=by rw[List.getD_eq_getElem?_getD,List.getElem?_eq_getElem hi];rfl
 have hst:=vl_set out (i+k) (tmN a b out i c k%10)
 have hp:a.getD i 0*b.getD k 0≤81:=Nat.le_trans (Nat.mul_le_mul (show a.getD i 0≤9 by omega) (show b.getD k 0≤9 by omega)) (by omega)
 have w1:IntKind.i64.wrap ((i:Int)+k)=((i+k:Nat):Int):=by rw[wr64 (by omega) (by omega)];simp
 have w2:IntKind.i64.wrap ((out.getD (i+k) 0:Int)+c)=(out.getD (i+k) 0:Int)+c:=wr64 (by omega) (by omega)
 have w3:IntKind.i64.wrap ((a.getD i 0:Int)*(b.getD k 0:Nat))=(a.getD i 0:Int)*(b.getD k 0:Nat):=by
  rw[← Int.natCast_mul];exact wr64 (by omega) (by omega)
 have w4:IntKind.i64.wrap ((out.getD (i+k) 0:Int)+c+(a.getD i 0:Int)*(b.getD k 0:Nat))=((out.getD (i+k) 0+c+a.getD i 0*b.getD k 0:Nat):Int):=by
  rw[← Int.natCast_mul,wr64 (by omega) (by omega)];simp
 have wk:IntKind.i64.wrap ((k:Int)+1)=(k:Int)+1:=wr64 (by omega) (by omega)
 have hN:tmN a b out i c k≤1100:=by unfold tmN;split<;>omega
 obtain⟨N,eN⟩:∃ N,N=tmN a b out i c k:=⟨_,rfl⟩
 have w5:((N:Nat):Int).tmod 10=(N:Int)%10:=Int.tmod_eq_emod_of_nonneg (by omega)
 have w6:IntKind.i64.wrap ((N:Int)%10)=(N:Int)%10:=wr64 (by omega) (by omega)
 have w7:((N:Nat):Int).tdiv 10=(N:Int)/10:=Int.tdiv_eq_ediv_of_nonneg (by omega)
 have w8:IntKind.i64.wrap ((N:Int)/10)=(N:Int)/10:=wr64 (by omega) (by omega)
 rw[← eN] at hN hst ⊢
 have hj1:(0:Int)≤((i+k:Nat):Int):=by omega
 have hj2:((i+k:Nat):Int)<(out.length:Int):=by omega
 have hj3:((i+k:Nat):Int).toNat=i+k:=by omega
 by_cases hkb:k<b.length
 ·have ib:b[k]=b.getD k 0:=by rw[List.getD_eq_getElem?_getD,List.getElem?_eq_getElem hkb];rfl
  have e:N=out.getD (i+k) 0+c+a.getD i 0*b.getD k 0:=by rw[eN];unfold tmN;rw[if_pos hkb]
  rw[← e] at w4
  clear eN e
  generalize out.getD (i+k) 0=x at *
  generalize a.getD i 0=y at *
  generalize b.getD k 0=z at *
  generalize i+k=J at *
  simp only[nI,Int.natCast_emod,show ((10:Nat):Int)=10 from rfl] at hx hst
  obtain⟨_,hx⟩:=List.getElem?_eq_some_iff.1 hx
  simp[l166_0,tmE,put,eset,eget,D.cells,V.cells,allD,hget,hset,fz,zC,zN,nl,nI,hkb,hi,ia,ib,qa,qb,hvl,hx,hst,hj1,hj2,hj3,hk,w1,w2,w3,w4,w5,w6,w7,w8,wk,chunk1,putCells]
 ·have hc0:0<c:=hgo.resolve_left hkb
  have e:N=out.getD (i+k) 0+c:=by rw[eN];unfold tmN;rw[if_neg hkb,Nat.add_zero]
  have w2:IntKind.i64.wrap ((out.getD (i+k) 0:Int)+c)=(N:Int):=by rw[w2,e];simp
  clear eN e
  generalize out.getD (i+k) 0=x at *
  generalize i+k=J at *
  simp only[nI,Int.natCast_emod,show ((10:Nat):Int)=10 from rfl] at hx hst
  obtain⟨_,hx⟩:=List.getElem?_eq_some_iff.1 hx
  simp[l166_0,tmE,put,eset,eget,D.cells,V.cells,allD,hget,hset,fz,zC,zN,nl,nI,hkb,hc0,qa,qb,hvl,hx,hst,hj1,hj2,hj3,hk,w1,w2,w5,w6,w7,w8,wk,chunk1,putCells]
theorem times_in3 (H:Hp) (a b:List Nat) (ga:Digs a) (gb:Digs b) (i:Nat) (hi:i<a.length) (hl:a.length+b.length<1000000):∀ (m k c:Nat) (out:List Nat),b.length+1-k≤m→out.length=a.length+b.length→Digs out→c≤9 →
 val 10 out+c*10 ^ (i+k)+a.getD i 0*val 10 (b.drop k)*10 ^ (i+k)<10 ^ (i+b.length+1) →
 ∃ out' k',evI cS (.loop l166_0) none (tmE H a b out.length i c k) (.gr 3 1 (vl out)::H)=some (.ex 2,tmE H a b out'.length i 0 k'++[(29,.d (.b false))],.gr 3 1 (vl out')::H)∧out'.length=a.length+b.length∧Digs out' ∧
  val 10 out'=val 10 out+c*10 ^ (i+k)+a.getD i 0*val 10 (b.drop k)*10 ^ (i+k):=by
 intro m
 induction m with
 | zero =>
   intro k c out hm ho gout hc hv
   have hk:¬ k<b.length:=by omega
   have hc0:c=0:=by
    by_cases h:c=0
    ·exact h
    ·have h1:1*10 ^ (i+b.length+1)≤c*10 ^ (i+k):=Nat.mul_le_mul (by omega) (Nat.pow_le_pow_right (by omega) (by omega))
     omega
   subst hc0
   have hd:b.drop k=[]:=List.drop_eq_nil_of_le (by omega)
   refine⟨out,k,?_,ho,gout,by rw[hd];simp[val]⟩
   rw[evI_loop]
   simp[l166_0,tmE,put,eset,eget,D.cells,V.cells,allD,hget,hset,fz,zC,zN,nl,nI,hk]
 | succ m ih =>
   intro k c out hm ho gout hc hv
   by_cases hgo:k<b.length∨0<c
   ·have hik:i+k<out.length:=by
     rcases hgo with h | h
     ·omega
     ·have h1:10 ^ (i+k)<10 ^ (i+b.length+1):=by
       have:1*10 ^ (i+k)≤c*10 ^ (i+k):=Nat.mul_le_mul (by omega) (Nat.le_refl _)
       omega
      have:=(Nat.pow_lt_pow_iff_right (a:=10) (by omega)).1 h1
      omega
    have hr:=times_round3 H a b out i c k hi hik (by omega) (by omega) ga gb gout hgo
    have hx9:=getD_lt (by omega) out gout (i+k)
    have hy9:=getD_lt (by omega) a ga i
    have hz9:=getD_lt (by omega) b gb k
    have hp:a.getD i 0*b.getD k 0≤81:=Nat.le_trans (Nat.mul_le_mul (show a.getD i 0≤9 by omega) (show b.getD k 0≤9 by omega)) (by omega)
    have hN:tmN a b out i c k≤99:=by unfold tmN;split<;>omega
    have hs:=val_set 10 out (i+k) (tmN a b out i c k%10) hik
    have hnew:val 10 (out.set (i+k) (tmN a b out i c k%10))+tmN a b out i c k/10*10 ^ (i+(k+1))+a.getD i 0*val 10 (b.drop (k+1))*10 ^ (i+(k+1))=val 10 out+c*10 ^ (i+k)+a.getD i 0*val 10 (b.drop k)*10 ^ (i+k):=by
     have e1:10 ^ (i+(k+1))=10*10 ^ (i+k):=by rw[← Nat.add_assoc,Nat.pow_succ,Nat.mul_comm]
     rw[e1]
     have e2:tmN a b out i c k+a.getD i 0*(10*val 10 (b.drop (k+1)))=out.getD (i+k) 0+c+a.getD i 0*val 10 (b.drop k):=by
      unfold tmN
      by_cases h:k<b.length
      ·rw[if_pos h,val_drop 10 b k,Nat.mul_add];omega
      ·rw[if_neg h,List.drop_eq_nil_of_le (show b.length≤k by omega),List.drop_eq_nil_of_le (show b.length≤k+1 by omega)]
       simp[val]
     generalize 10 ^ (i+k)=P at *
     generalize val 10 (b.drop (k+1))=V at *
     generalize val 10 (b.drop k)=W at *
     generalize a.getD i 0=A at *
     have h3:=congrArg (· * P) e2
     simp only[Nat.add_mul] at h3
     have h4:tmN a b out i c k%10*P+tmN a b out i c k/10*(10*P)=tmN a b out i c k*P:=by
      rw[← Nat.mul_assoc,← Nat.add_mul];congr 1;omega
     have h5:A*V*(10*P)=A*(10*V)*P:=by
      rw[← Nat.mul_assoc,Nat.mul_comm 10 V,← Nat.mul_assoc A V 10]
     omega
    obtain⟨out',k',h1,h2,h3,h4⟩:=ih (k+1) (tmN a b out i c k/10) (out.set (i+k) (tmN a b out i c k%10)) (by omega) (by rw[List.length_set];exact ho) (digs_set gout (by omega)) (by omega) (by rw[hnew];exact hv)
    refine⟨out',k',?_,h2,h3,by rw[h4,hnew]⟩
    rw[evI_loop,hr]
    simp only[thenR]
    rw[List.length_set] at h1
    exact h1
   ·have hk:¬ k<b.length:=fun h=>hgo (.inl h)
    have hc0:c=0:=by have:¬ 0<c:=fun h=>hgo (.inr h)
                     omega
    subst hc0
    have hd:b.drop k=[]:=List.drop_eq_nil_of_le (by omega)
    refine⟨out,k,?_,ho,gout,by rw[hd];simp[val]⟩
    rw[evI_loop]
    simp[l166_0,tmE,put,eset,eget,D.cells,V.cells,allD,hget,hset,fz,zC,zN,nl,nI,hk]
def toE (H:Hp) (a b:List Nat) (n i:Nat):En:=[(0,.d (nl a)),(1,.d (nl b)),(5,.gr H.length n),(6,.d (nI i))]
theorem times_out3 (H:Hp) (a b:List Nat) (ga:Digs a) (gb:Digs b) (hl:a.length+b.length<1000000):∀ (m i:Nat) (out:List Nat),a.length-i≤m→i≤a.length→out.length=a.length+b.length→Digs out→val 10 out=val 10 (a.take i)*val 10 b →
 ∃ out',evI cS (.loop l166_1) none (toE H a b out.length i) (.gr 3 1 (vl out)::H)=some (.ex 0,toE H a b out'.length a.length++[(19,.d (.b false))],.gr 3 1 (vl out')::H)∧out'.length=a.length+b.length∧Digs out'∧val 10 out'=val 10 a*val 10 b:=by
 intro m
 induction m with
 | zero =>
   intro i out hm hi ho gout hv
   have e:i=a.length:=by omega
   subst e
   refine⟨out,?_,ho,gout,by rw[hv,List.take_length]⟩
   rw[evI_loop]
   simp[l166_1,toE,put,eset,eget,D.cells,V.cells,allD,hget,hset,fz,zC,zN,nl,nI]
 | succ m ih =>
   intro i out hm hi ho gout hv
   by_cases hia:i<a.length
   ·have ht:val 10 (a.take (i+1))=val 10 (a.take i)+10 ^ i*a.getD i 0:=by
     rw[List.take_add_one,List.getElem?_eq_getElem hia,Option.toList_some,val_concat',List.length_take,Nat.min_eq_left hi,List.getD_eq_getElem?_getD,List.getElem?_eq_getElem hia];rfl
    have hall:val 10 out+0*10 ^ (i+0)+a.getD i 0*val 10 (b.drop 0)*10 ^ (i+0)=val 10 (a.take (i+1))*val 10 b:=by
     rw[ht,hv,Nat.add_mul,List.drop_zero,Nat.add_zero,Nat.zero_mul,Nat.add_zero]
     congr 1
     rw[Nat.mul_comm,Nat.mul_assoc]
    have lt1:val 10 (a.take (i+1))<10 ^ (i+1):=by
     have:=val_lt (b:=10) (by omega) (a.take (i+1)) (fun d hd=>ga d (List.mem_of_mem_take hd))
     rwa [List.length_take,Nat.min_eq_left (show i+1≤a.length by omega)] at this
    have lt2:val 10 b<10 ^ b.length:=val_lt (by omega) b gb
    have hlt:val 10 (a.take (i+1))*val 10 b<10 ^ (i+b.length+1):=by
     rw[show i+b.length+1=(i+1)+b.length by omega,Nat.pow_add]
     exact Nat.mul_lt_mul'' lt1 lt2
    obtain⟨o1,k1,h1,h2,h3,h4⟩:=times_in3 H a b ga gb i hia hl (b.length+1) 0 0 out (by omega) ho gout (by omega) (by rw[hall];exact hlt)
    rw[hall] at h4
    obtain⟨o2,g1,g2,g3,g4⟩:=ih (i+1) o1 (by omega) (by omega) h2 h3 h4
    refine⟨o2,?_,g2,g3,g4⟩
    rw[evI_loop,← g1]
    have wi:IntKind.i64.wrap ((i:Int)+1)=(i:Int)+1:=wr64 (by omega) (by omega)
    simp only[tmE,toE,nl,nI,show ((0:Nat):Int)=0 from rfl] at h1 ⊢
    generalize vl out=v at *
    generalize vl o1=v1 at *
    simp[l166_1,put,eset,eget,D.cells,V.cells,allD,hget,hset,fz,zC,zN,nI,hia,h1,wi]
   ·have e:i=a.length:=by omega
    subst e
    refine⟨out,?_,ho,gout,by rw[hv,List.take_length]⟩
    rw[evI_loop]
    simp[l166_1,toE,put,eset,eget,D.cells,V.cells,allD,hget,hset,fz,zC,zN,nl,nI]
theorem times3_ok (a b:Nat) (la:(digs 10 a).length≤100000) (lb:(digs 10 b).length≤100000) (H:Hp) :
 callV cS false (fnV 166) [.d (nl (digs 10 a)),.d (nl (digs 10 b))] H=some (.val (.d (nl (digs 10 (a*b)))),H):=by
 rw[callV_fn (sf:=c166) rfl rfl rfl rfl]
 obtain⟨A,hA⟩:∃ A,A=digs 10 a:=⟨_,rfl⟩
 obtain⟨B,hB⟩:∃ B,B=digs 10 b:=⟨_,rfl⟩
 have gA:Digs A:=by rw[hA];exact digs10 a
 have gB:Digs B:=by rw[hB];exact digs10 b
 have vA:val 10 A=a:=by rw[hA,val_digs (by omega)]
 have vB:val 10 B=b:=by rw[hB,val_digs (by omega)]
 rw[← hA] at la ⊢
 rw[← hB] at lb ⊢
 have hz:Digs (List.replicate (A.length+B.length) 0):=by intro d hd;rw[List.eq_of_mem_replicate hd];omega
 have hz0:val 10 (List.replicate (A.length+B.length) 0)=0:=by
  generalize A.length+B.length=n
  induction n with
  | zero=>rfl
  | succ n ih=>rw[List.replicate_succ,val,ih]
 obtain⟨out,h1,h2,h3,h4⟩:=times_out3 H A B gA gB (by omega) A.length 0 (List.replicate (A.length+B.length) 0) (by omega) (by omega) (by simp) hz (by rw[hz0];simp[val])
 rw[vA,vB] at h4
 have htr:=trim3_ok out (by omega)
 rw[trim_eq_digs (b:=10) (by omega) _ h3,h4] at htr
 have hvl:=vl_len out
 have hv0:vl (List.replicate (A.length+B.length) 0)=List.replicate (A.length+B.length) (.d (.i .i64 0)):=by simp[vl,nI]
 rw[hv0,List.length_replicate] at h1
 have w:IntKind.i64.wrap ((A.length:Int)+B.length)=((A.length+B.length:Nat):Int):=by rw[wr64 (by omega) (by omega)];simp
 obtain⟨n,hn⟩:∃ n,n=A.length+B.length:=⟨_,rfl⟩
 rw[← hn] at h1 h2 w
 have b1:(n:Int)*8≤140737488355328:=by omega
 have b2:(n:Int)≤140737488355328:=by omega
 simp only[toE,nl,show nI 0=.i .i64 0 from rfl] at h1
 simp only[nl] at htr ⊢
 simp[c166,b166,put,eset,eget,D.cells,V.cells,allD,hget,hset,fz,zC,zN,w,b1,b2,chunk1,h1,h2,frzV,hvl,allD_vl,htr]
theorem Mul3_ok (a b:List UInt8) (sa:Short a) (sb:Short b) (H:Hp):callV cS false (fnV 118) [.d (.s a),.d (.s b)] H=some (.val (.d (opI (fun x y=>fitD (x*y)) errI a b)),H):=by
 rw[callV_fn (sf:=c118) rfl rfl rfl rfl]
 have v1:=Valid3_ok a sa
 have v2:=Valid3_ok b sb
 rcases ival_cases a b with ⟨x,y,ha,hb⟩ | h
 ·rw[opI_some ha hb]
  rw[ha] at v1
  rw[hb] at v2
  have d1:=call_digits ha
  have d2:=call_digits hb
  have lx:=fits_len10 (ival_fits ha)
  have ly:=fits_len10 (ival_fits hb)
  have h2:=times3_ok x.natAbs y.natAbs (by omega) (by omega)
  have lxy:(digs 10 (x.natAbs*y.natAbs)).length≤300000:=Nat.le_trans (digs_mul_len lx ly) (by omega)
  have h3:=checked_ok (decide (x<0) != decide (y<0)) (x.natAbs*y.natAbs) lxy
  have hs:sg (decide (x<0) != decide (y<0)) (x.natAbs*y.natAbs)=x*y:=by
   rw[← Int.natAbs_mul]
   unfold sg
   have e:∀ z:Int,0≤z→((z.natAbs:Nat):Int)=z:=fun z h=>by omega
   have e':∀ z:Int,z≤0→-((z.natAbs:Nat):Int)=z:=fun z h=>by omega
   by_cases hx:x<0<;>by_cases hy:y<0<;>simp only[hx,hy,decide_true,decide_false,bne_self_eq_false,Bool.false_eq_true,if_false,if_true,Bool.true_bne,Bool.false_bne,Bool.not_false]
   ·exact e _ (Int.le_of_lt (Int.mul_pos_of_neg_of_neg hx hy))
   ·exact e' _ (Int.mul_nonpos_of_nonpos_of_nonneg (by omega) (by omega))
   ·exact e' _ (Int.mul_nonpos_of_nonneg_of_nonpos (by omega) (by omega))
   ·exact e _ (Int.mul_nonneg (by omega) (by omega))
  rw[hs] at h3
  obtain⟨s,e,he⟩:=fitD_tup (x*y)
  rw[he] at h3 ⊢
  generalize x.natAbs*y.natAbs=m at *
  simp only[nl] at h2 h3
  generalize decide (x<0)=bx at *
  generalize decide (y<0)=bY at *
  simp only[bne] at h3
  simp[c118,b118,put,eset,eget,D.cells,V.cells,allD,hget,hset,fz,zC,zN,v1,v2,d1,d2,h2,h3]
 ·rw[opI_none h]
  by_cases ha:ival a=none
  ·rw[ha] at v1
   simp[c118,b118,put,eset,eget,D.cells,V.cells,allD,hget,hset,fz,zC,zN,v1,errI]
  ·have hb:ival b=none:=by rcases h with h | h;exact absurd h ha;exact h
   rw[hb] at v2
   have ha':(ival a).isSome=true:=Option.isSome_iff_ne_none.2 ha
   rw[ha'] at v1
   simp[c118,b118,put,eset,eget,D.cells,V.cells,allD,hget,hset,fz,zC,zN,v1,v2,errI]
end
section
open Go Num
def crossF (p q:Rat):Prop:=Fits (p.num*q.den)∧Fits (q.num*p.den)∧Fits ((p.den:Int)*q.den)
theorem sumD_no {op:Int→Int→Int}{p q:Rat} (h:¬ crossF p q):sumD op p q=errR:=by
 unfold sumD two
 by_cases h1:Fits (p.num*q.den)∧Fits (q.num*p.den)
 ·rw[if_pos h1,if_neg (fun k=>h ⟨h1.1,h1.2,k.2⟩)]
 ·rw[if_neg h1]
theorem cross_ok (a b c d:List UInt8) (sa:Short a) (sb:Short b) (sc:Short c) (sd:Short d) :
 (∃ p q,RQ a b=some p∧RQ c d=some q∧crossF p q∧∀ H,callV cS false (fnV 77) [.d (.agg [.s a,.s b]),.d (.agg [.s c,.s d])] H=some (.val (.d (.tup [.s (txt (p.num*q.den)),.s (txt (q.num*p.den)),.s (txt ((p.den:Int)*q.den)),.b true])),H)) ∨
 ((∀ op,opQ (sumD op) errR a b c d=errR)∧∃ s t u,∀ H,callV cS false (fnV 77) [.d (.agg [.s a,.s b]),.d (.agg [.s c,.s d])] H=some (.val (.d (.tup [.s s,.s t,.s u,.b false])),H)):=by
 have v1:=Valid4_ok a b sa sb
 have v2:=Valid4_ok c d sc sd
 rcases opQ_cases a b c d with ⟨p,q,hp,hq⟩ | ⟨h1,h2⟩
 ·rw[hp,Option.isSome_some] at v1
  rw[hq,Option.isSome_some] at v2
  have ho:∀ op,opQ (sumD op) errR a b c d=sumD op p q:=fun op=>by simp only[opQ,hp,hq]
  have hp':=hp
  have hq':=hq
  obtain⟨⟨fp1,fp2⟩,rfl,rfl⟩:=RQ_some hp
  obtain⟨⟨fq1,fq2⟩,rfl,rfl⟩:=RQ_some hq
  have m1:=Mul3_ok (txt p.num) (txt q.den) sa sd
  have m2:=Mul3_ok (txt q.num) (txt p.den) sc sb
  have m3:=Mul3_ok (txt p.den) (txt q.den) sb sd
  rw[opI_txt fp1 fq2] at m1
  rw[opI_txt fq1 fp2] at m2
  rw[opI_txt fp2 fq2] at m3
  by_cases hf:crossF p q
  ·refine .inl ⟨p,q,hp',hq',hf,fun H=>?_⟩
   rw[fitD_of hf.1] at m1
   rw[fitD_of hf.2.1] at m2
   rw[fitD_of hf.2.2] at m3
   rw[callV_fn (sf:=c77) rfl rfl rfl rfl]
   clear hf hp' hq' ho hp hq
   generalize p.num*(q.den:Int)=x at *
   generalize q.num*(p.den:Int)=y at *
   generalize (p.den:Int)*q.den=z at *
   simp[c77,b77,put,eset,eget,D.cells,V.cells,allD,hget,hset,fz,zC,zN,v1,v2,m1,m2,m3]
  ·refine .inr ⟨fun op=>by rw[ho,sumD_no hf],?_⟩
   have hf':¬ (Fits (p.num*q.den)∧Fits (q.num*p.den)∧Fits ((p.den:Int)*q.den)):=hf
   clear hf hp' hq' ho hp hq
   generalize p.num*(q.den:Int)=x at *
   generalize q.num*(p.den:Int)=y at *
   generalize (p.den:Int)*q.den=z at *
   obtain⟨s,e,he⟩:=fitD_tup x
   obtain⟨t,f,hf⟩:=fitD_tup y
   obtain⟨u,g,hg⟩:=fitD_tup z
   refine⟨s,t,u,fun H=>?_⟩
   have nz:∀ {w:Int}{s:List UInt8}{e:Int},fitD w=.tup [.s s,.i .i64 e]→¬ Fits w→e=30:=by
    intro w s e h k
    unfold fitD at h
    rw[if_neg k,errI] at h
    injection h with h;injection h with _ h;injection h with h;injection h with _ h
    exact h.symm
   have n1:=nz he
   have n2:=nz hf
   have n3:=nz hg
   rw[he] at m1
   rw[hf] at m2
   rw[hg] at m3
   rw[callV_fn (sf:=c77) rfl rfl rfl rfl]
   by_cases f1:Fits x
   ·by_cases f2:Fits y
    ·have:=n3 (fun f3=>hf' ⟨f1,f2,f3⟩)
     subst this
     cases z1:(e==0)<;>cases z2:(f==0)<;>simp[c77,b77,put,eset,eget,D.cells,V.cells,allD,hget,hset,fz,zC,zN,v1,v2,m1,m2,m3,z1,z2]
    ·have:=n2 f2
     subst this
     cases z1:(e==0)<;>simp[c77,b77,put,eset,eget,D.cells,V.cells,allD,hget,hset,fz,zC,zN,v1,v2,m1,m2,m3,z1]
   ·have:=n1 f1
    subst this
    simp[c77,b77,put,eset,eget,D.cells,V.cells,allD,hget,hset,fz,zC,zN,v1,v2,m1,m2,m3]
 ·refine .inr ⟨fun op=>h2 _ _,[],[],[],fun H=>?_⟩
  rw[callV_fn (sf:=c77) rfl rfl rfl rfl]
  cases ha:(RQ a b).isSome
  ·rw[ha] at v1
   simp[c77,b77,put,eset,eget,D.cells,V.cells,allD,hget,hset,fz,zC,zN,v1,v2]
  ·rw[ha] at v1 h1
   have hb:(RQ c d).isSome=false:=by simpa using h1
   rw[hb] at v2
   simp[c77,b77,put,eset,eget,D.cells,V.cells,allD,hget,hset,fz,zC,zN,v1,v2]
theorem Add4_ok (a b c d:List UInt8) (sa:Short a) (sb:Short b) (sc:Short c) (sd:Short d) (H:Hp):callV cS false (fnV 64) [.d (.agg [.s a,.s b]),.d (.agg [.s c,.s d])] H=some (.val (.d (opQ (sumD fun x y=>x+y) errR a b c d)),H):=by
 rw[callV_fn (sf:=c64) rfl rfl rfl rfl]
 rcases cross_ok a b c d sa sb sc sd with ⟨p,q,hp,hq,⟨f1,f2,f3⟩,hc⟩ | ⟨he,s,t,u,hc⟩
 ·have he:opQ (sumD fun x y=>x+y) errR a b c d=two (p.num*q.den+q.num*p.den) ((p.den:Int)*q.den):=by simp only[opQ,hp,hq,sumD,if_pos (And.intro f1 f2)]
  rw[he]
  generalize p.num*(q.den:Int)=x at *
  generalize q.num*(p.den:Int)=y at *
  generalize (p.den:Int)*q.den=z at *
  have a3:=Add3_ok (txt x) (txt y) (txt_short f1) (txt_short f2)
  rw[opI_txt f1 f2] at a3
  by_cases f4:Fits (x+y)
  ·have m:=Make3_ok (txt (x+y)) (txt z) (txt_short f4) (txt_short f3)
   rw[opI_txt f4 f3] at m
   rw[fitD_of f4] at a3
   have ht:two (x+y) z=makeD (x+y) z:=by unfold two;rw[if_pos ⟨f4,f3⟩]
   rw[ht]
   obtain⟨s,t,e,hf⟩:=makeD_form (x+y) z
   rw[hf] at m ⊢
   generalize txt (x+y)=n at *
   simp[c64,b64,put,eset,eget,D.cells,V.cells,allD,hget,hset,fz,zC,zN,hc,a3,m,setParts,chunk1,allCellsD]
  ·have h3:fitD (x+y)=errI:=by unfold fitD;rw[if_neg f4]
   have ht:two (x+y) z=errR:=by unfold two;rw[if_neg (fun h=>f4 h.1)]
   rw[ht]
   rw[h3,errI] at a3
   simp[c64,b64,put,eset,eget,D.cells,V.cells,allD,hget,hset,fz,zC,zN,hc,a3,errR,dR0,setParts,chunk1,allCellsD]
 ·rw[he]
  simp[c64,b64,put,eset,eget,D.cells,V.cells,allD,hget,hset,fz,zC,zN,hc,errR,dR0,setParts,chunk1,allCellsD]
theorem Sub4_ok (a b c d:List UInt8) (sa:Short a) (sb:Short b) (sc:Short c) (sd:Short d) (H:Hp):callV cS false (fnV 29) [.d (.agg [.s a,.s b]),.d (.agg [.s c,.s d])] H=some (.val (.d (opQ (sumD fun x y=>x-y) errR a b c d)),H):=by
 rw[callV_fn (sf:=c29) rfl rfl rfl rfl]
 rcases cross_ok a b c d sa sb sc sd with ⟨p,q,hp,hq,⟨f1,f2,f3⟩,hc⟩ | ⟨he,s,t,u,hc⟩
 ·have he:opQ (sumD fun x y=>x-y) errR a b c d=two (p.num*q.den-q.num*p.den) ((p.den:Int)*q.den):=by simp only[opQ,hp,hq,sumD,if_pos (And.intro f1 f2)]
  rw[he]
  generalize p.num*(q.den:Int)=x at *
  generalize q.num*(p.den:Int)=y at *
  generalize (p.den:Int)*q.den=z at *
  have a3:=Sub3_ok (txt x) (txt y) (txt_short f1) (txt_short f2)
  rw[opI_txt f1 f2] at a3
  by_cases f4:Fits (x-y)
  ·have m:=Make3_ok (txt (x-y)) (txt z) (txt_short f4) (txt_short f3)
   rw[opI_txt f4 f3] at m
   rw[fitD_of f4] at a3
   have ht:two (x-y) z=makeD (x-y) z:=by unfold two;rw[if_pos ⟨f4,f3⟩]
   rw[ht]
   obtain⟨s,t,e,hf⟩:=makeD_form (x-y) z
   rw[hf] at m ⊢
   generalize txt (x-y)=n at *
   simp[c29,b29,put,eset,eget,D.cells,V.cells,allD,hget,hset,fz,zC,zN,hc,a3,m,setParts,chunk1,allCellsD]
  ·have h3:fitD (x-y)=errI:=by unfold fitD;rw[if_neg f4]
   have ht:two (x-y) z=errR:=by unfold two;rw[if_neg (fun h=>f4 h.1)]
   rw[ht]
   rw[h3,errI] at a3
   simp[c29,b29,put,eset,eget,D.cells,V.cells,allD,hget,hset,fz,zC,zN,hc,a3,errR,dR0,setParts,chunk1,allCellsD]
 ·rw[he]
  simp[c29,b29,put,eset,eget,D.cells,V.cells,allD,hget,hset,fz,zC,zN,hc,errR,dR0,setParts,chunk1,allCellsD]
theorem Mul4_ok (a b c d:List UInt8) (sa:Short a) (sb:Short b) (sc:Short c) (sd:Short d) (H:Hp):callV cS false (fnV 63) [.d (.agg [.s a,.s b]),.d (.agg [.s c,.s d])] H=some (.val (.d (opQ (fun p q=>two (p.num*q.num) ((p.den:Int)*q.den)) errR a b c d)),H):=by
 rw[callV_fn (sf:=c63) rfl rfl rfl rfl]
 have v1:=Valid4_ok a b sa sb
 have v2:=Valid4_ok c d sc sd
 rcases opQ_cases a b c d with ⟨p,q,hp,hq⟩ | ⟨h1,h2⟩
 ·have he:opQ (fun p q=>two (p.num*q.num) ((p.den:Int)*q.den)) errR a b c d=two (p.num*q.num) ((p.den:Int)*q.den):=by simp only[opQ,hp,hq]
  rw[he]
  rw[hp,Option.isSome_some] at v1
  rw[hq,Option.isSome_some] at v2
  obtain⟨⟨fp1,fp2⟩,rfl,rfl⟩:=RQ_some hp
  obtain⟨⟨fq1,fq2⟩,rfl,rfl⟩:=RQ_some hq
  have m1:=Mul3_ok (txt p.num) (txt q.num) sa sc
  have m2:=Mul3_ok (txt p.den) (txt q.den) sb sd
  rw[opI_txt fp1 fq1] at m1
  rw[opI_txt fp2 fq2] at m2
  generalize p.num*q.num=x at *
  generalize (p.den:Int)*q.den=z at *
  by_cases f1:Fits x
  ·rw[fitD_of f1] at m1
   by_cases f2:Fits z
   ·rw[fitD_of f2] at m2
    have m:=Make3_ok (txt x) (txt z) (txt_short f1) (txt_short f2)
    rw[opI_txt f1 f2] at m
    have ht:two x z=makeD x z:=by unfold two;rw[if_pos ⟨f1,f2⟩]
    rw[ht]
    obtain⟨s,t,e,hf⟩:=makeD_form x z
    rw[hf] at m ⊢
    simp[c63,b63,put,eset,eget,D.cells,V.cells,allD,hget,hset,fz,zC,zN,v1,v2,m1,m2,m,setParts,chunk1,allCellsD]
   ·have h3:fitD z=errI:=by unfold fitD;rw[if_neg f2]
    have ht:two x z=errR:=by unfold two;rw[if_neg (fun h=>f2 h.2)]
    rw[ht]
    rw[h3,errI] at m2
    simp[c63,b63,put,eset,eget,D.cells,V.cells,allD,hget,hset,fz,zC,zN,v1,v2,m1,m2,errR,dR0,setParts,chunk1,allCellsD]
  ·have h3:fitD x=errI:=by unfold fitD;rw[if_neg f1]
   have ht:two x z=errR:=by unfold two;rw[if_neg (fun h=>f1 h.1)]
   rw[ht]
   rw[h3,errI] at m1
   obtain⟨s,e,hz⟩:=fitD_tup z
   rw[hz] at m2
   simp[c63,b63,put,eset,eget,D.cells,V.cells,allD,hget,hset,fz,zC,zN,v1,v2,m1,m2,errR,dR0,setParts,chunk1,allCellsD]
 ·rw[h2]
  cases ha:(RQ a b).isSome
  ·rw[ha] at v1
   simp[c63,b63,put,eset,eget,D.cells,V.cells,allD,hget,hset,fz,zC,zN,v1,v2,errR,dR0,setParts,chunk1,allCellsD]
  ·rw[ha] at v1 h1
   have hb:(RQ c d).isSome=false:=by simpa using h1
   rw[hb] at v2
   simp[c63,b63,put,eset,eget,D.cells,V.cells,allD,hget,hset,fz,zC,zN,v1,v2,errR,dR0,setParts,chunk1,allCellsD]
end
end Go.Proofs.YtmiioebapckcoaaGreatDoor
