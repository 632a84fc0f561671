/- Part 21 of a proof: the small semantics, its soundness, the functions of the program in it, and the law. -/
import Derived.Test.YtmiioebapckcoaaGreatDoorJt
set_option linter.unusedVariables false
set_option linter.unusedSimpArgs false
set_option maxRecDepth 4000
namespace Go.Proofs.YtmiioebapckcoaaGreatDoor
section
open Go Num
theorem ref_c0 {H:Hp}{XS ES:List D}{i:Int} (hl:i<(XS.length:Int)) (v5 v13 v21 v76 v77 v78 v85 v86 v87:V):evI cS (nthC 0 l6_0) none [(5,v5),(13,v13),(21,v21),(24,.d (.ls XS)),(25,.d (.ls ES)),(26,.d (.ls XS)),(27,.d (.ls ES)),(28,.d (.i .i64 i)),(76,v76),(77,v77),(78,v78),(85,v85),(86,v86),(87,v87)] H=some (.nor,[(5,v5),(13,v13),(21,v21),(24,.d (.ls XS)),(25,.d (.ls ES)),(26,.d (.ls XS)),(27,.d (.ls ES)),(28,.d (.i .i64 i)),(76,v76),(77,v77),(78,v78),(85,v85),(86,v86),(87,v87),(112,.d (.b true))],H):=by
 simp[nthC,tlC,unB,l6_0,put,eset,eget,D.cells,V.cells,allD,hget,hset,fz,zC,zN,setParts,chunk1,allCellsD,eqKs,eqCell,hl]
theorem ref_c0f {H:Hp}{XS ES:List D}{i:Int} (hl:¬ i<(XS.length:Int)) (v5 v13 v21 v76 v77 v78 v85 v86 v87:V):evI cS (nthC 0 l6_0) none [(5,v5),(13,v13),(21,v21),(24,.d (.ls XS)),(25,.d (.ls ES)),(26,.d (.ls XS)),(27,.d (.ls ES)),(28,.d (.i .i64 i)),(76,v76),(77,v77),(78,v78),(85,v85),(86,v86),(87,v87)] H=some (.ex 4,[(5,v5),(13,v13),(21,v21),(24,.d (.ls XS)),(25,.d (.ls ES)),(26,.d (.ls XS)),(27,.d (.ls ES)),(28,.d (.i .i64 i)),(76,v76),(77,v77),(78,v78),(85,v85),(86,v86),(87,v87),(112,.d (.b false))],H):=by
 simp[nthC,tlC,unB,l6_0,put,eset,eget,D.cells,V.cells,allD,hget,hset,fz,zC,zN,setParts,chunk1,allCellsD,eqKs,eqCell,hl]
theorem ref_c1 {H:Hp}{XS ES:List D}{i e:Int}{a b c d:List UInt8} (h0:0≤i) (hl:i<(XS.length:Int)) (hm:i<(ES.length:Int)) (hx:XS[i.toNat]? = some (.agg [.s a,.s b,.s c,.s d])) (he:ES[i.toNat]? = some (.i .i64 e)) (hz:allCellsD 4 XS=true) (hy:allCellsD 1 ES=true) (v5 v13 v21 v76 v77 v78 v85 v86 v87 v112:V) :
 evI cS (nthC 0 (unB (nthC 1 l6_0))) none [(5,v5),(13,v13),(21,v21),(24,.d (.ls XS)),(25,.d (.ls ES)),(26,.d (.ls XS)),(27,.d (.ls ES)),(28,.d (.i .i64 i)),(76,v76),(77,v77),(78,v78),(85,v85),(86,v86),(87,v87),(112,v112)] H=some (.nor,[(5,v5),(13,v13),(21,v21),(24,.d (.ls XS)),(25,.d (.ls ES)),(26,.d (.ls XS)),(27,.d (.ls ES)),(28,.d (.i .i64 i)),(76,v76),(77,v77),(78,v78),(85,v85),(86,v86),(87,v87),(134,.d (.b false))],H):=by
 obtain⟨_,hx'⟩:=List.getElem?_eq_some_iff.1 hx
 obtain⟨_,he'⟩:=List.getElem?_eq_some_iff.1 he
 simp only[nthC,unB,l6_0]
 apply evI_drawP
 simp[evP,put,eset,eget,D.cells,V.cells,allD,hget,hset,fz,zC,zN,setParts,chunk1,allCellsD,eqKs,eqCell,h0,hl,hm,hx',he',hz,hy]
theorem ref_c2 {H:Hp}{XS ES:List D}{i:Int} (v5 v13 v21 v76 v77 v78 v85 v86 v87:V):evI cS (tlC 1 (unB (nthC 1 l6_0))) none [(5,v5),(13,v13),(21,v21),(24,.d (.ls XS)),(25,.d (.ls ES)),(26,.d (.ls XS)),(27,.d (.ls ES)),(28,.d (.i .i64 i)),(76,v76),(77,v77),(78,v78),(85,v85),(86,v86),(87,v87),(134,.d (.b false))] H=some (.nor,[(5,v5),(13,v13),(21,v21),(24,.d (.ls XS)),(25,.d (.ls ES)),(26,.d (.ls XS)),(27,.d (.ls ES)),(28,.d (.i .i64 i)),(76,v76),(77,v77),(78,v78),(85,v85),(86,v86),(87,v87),(134,.d (.b false))],H):=by
 simp[nthC,tlC,unB,l6_0,put,eset,eget,D.cells,V.cells,allD,hget,hset,fz,zC,zN,setParts,chunk1,allCellsD,eqKs,eqCell]
theorem ref_c3 {H:Hp}{XS ES:List D}{i:Int} (h0:0≤i) (h1:i<1000) (v5 v13 v21 v76 v77 v78 v85 v86 v87:V):evI cS (tlC 2 l6_0) none [(5,v5),(13,v13),(21,v21),(24,.d (.ls XS)),(25,.d (.ls ES)),(26,.d (.ls XS)),(27,.d (.ls ES)),(28,.d (.i .i64 i)),(76,v76),(77,v77),(78,v78),(85,v85),(86,v86),(87,v87),(134,.d (.b false))] H=some (.nor,[(5,v5),(13,v13),(21,v21),(24,.d (.ls XS)),(25,.d (.ls ES)),(26,.d (.ls XS)),(27,.d (.ls ES)),(28,.d (.i .i64 (i+1))),(76,v76),(77,v77),(78,v78),(85,v85),(86,v86),(87,v87)],H):=by
 have w1:IntKind.i64.wrap (i+1)=i+1:=wr64 (by omega) (by omega)
 simp[nthC,tlC,unB,l6_0,put,eset,eget,D.cells,V.cells,allD,hget,hset,fz,zC,zN,setParts,chunk1,allCellsD,eqKs,eqCell,w1]
theorem ref_cmp {H:Hp}{XS ES:List D} (lx:XS.length=8) (le:ES.length=8) (hz:allCellsD 4 XS=true) (hy:allCellsD 1 ES=true) (hF:∀ k,k<8→∃ a b c d e,XS[k]? = some (.agg [.s a,.s b,.s c,.s d])∧ES[k]? = some (.i .i64 e)) (v5 v13 v21 v76 v77 v78 v85 v86 v87:V):∀ (m k:Nat),k+m=8 →
 evI cS (.loop l6_0) none [(5,v5),(13,v13),(21,v21),(24,.d (.ls XS)),(25,.d (.ls ES)),(26,.d (.ls XS)),(27,.d (.ls ES)),(28,.d (.i .i64 (k:Int))),(76,v76),(77,v77),(78,v78),(85,v85),(86,v86),(87,v87)] H=some (.ex 4,[(5,v5),(13,v13),(21,v21),(24,.d (.ls XS)),(25,.d (.ls ES)),(26,.d (.ls XS)),(27,.d (.ls ES)),(28,.d (.i .i64 8)),(76,v76),(77,v77),(78,v78),(85,v85),(86,v86),(87,v87),(112,.d (.b false))],H):=by
 intro m
 induction m with
 | zero =>
   intro k hk
   obtain rfl:k=8:=by omega
   have:=ref_c0f (H:=H) (XS:=XS) (ES:=ES) (i:=((8:Nat):Int)) (by omega) v5 v13 v21 v76 v77 v78 v85 v86 v87
   have hT:∀ (e:En) (h:Hp),evI cS l6_0 none e h=evI cS (.seq (nthC 0 l6_0) (.seq (.block 5 (.seq (nthC 0 (unB (nthC 1 l6_0))) (tlC 1 (unB (nthC 1 l6_0))))) (tlC 2 l6_0))) none e h:=fun _ _=>rfl
   rw[evI_loop,hT,evI_seq,this]
   rfl
 | succ m ih =>
   intro k hk
   have hT:∀ (e:En) (h:Hp),evI cS l6_0 none e h=evI cS (.seq (nthC 0 l6_0) (.seq (.block 5 (.seq (nthC 0 (unB (nthC 1 l6_0))) (tlC 1 (unB (nthC 1 l6_0))))) (tlC 2 l6_0))) none e h:=fun _ _=>rfl
   obtain⟨a,b,c,d,e,h1,h2⟩:=hF k (by omega)
   have q0:=ref_c0 (H:=H) (XS:=XS) (ES:=ES) (i:=(k:Int)) (by omega) v5 v13 v21 v76 v77 v78 v85 v86 v87
   have q1:=ref_c1 (H:=H) (i:=(k:Int)) (by omega) (by omega) (by omega) (show XS[(k:Int).toNat]? = _ from h1) (show ES[(k:Int).toNat]? = _ from h2) hz hy v5 v13 v21 v76 v77 v78 v85 v86 v87 (.d (.b true))
   have q2:=ref_c2 (H:=H) (XS:=XS) (ES:=ES) (i:=(k:Int)) v5 v13 v21 v76 v77 v78 v85 v86 v87
   have q3:=ref_c3 (H:=H) (XS:=XS) (ES:=ES) (i:=(k:Int)) (by omega) (by omega) v5 v13 v21 v76 v77 v78 v85 v86 v87
   have:=ih (k+1) (by omega)
   rw[show ((k+1:Nat):Int)=(k:Int)+1 by omega] at this
   rw[evI_loop,hT,evI_seq,q0];simp only[thenR]
   rw[evI_seq,evI_block,evI_seq,q1];simp only[thenR]
   rw[q2];simp only[blockR]
   rw[q3];simp only[thenR]
   exact this
theorem ref_m0 {H:Hp}{q:Nat}{n m j:Int} (hj:j<2) (v5 v13 v76 v77 v78:V):evI cS (nthC 0 l6_1) none [(5,v5),(13,v13),(21,.p q 0),(76,v76),(77,v77),(78,v78),(85,.d (.ls [.i .i64 n,.i .i64 m])),(86,.d (.i .i64 2)),(87,.d (.i .i64 j))] H=some (.nor,[(5,v5),(13,v13),(21,.p q 0),(76,v76),(77,v77),(78,v78),(85,.d (.ls [.i .i64 n,.i .i64 m])),(86,.d (.i .i64 2)),(87,.d (.i .i64 j)),(88,.d (.b true))],H):=by
 simp[nthC,tlC,unB,l6_1,put,eset,eget,D.cells,V.cells,allD,hget,hset,fz,zC,zN,setParts,chunk1,allCellsD,eqKs,eqCell,hj]
theorem ref_m1 {H:Hp}{q:Nat}{n m j:Int} (v5 v13 v76 v77 v78:V):evI cS (nthC 1 l6_1) none [(5,v5),(13,v13),(21,.p q 0),(76,v76),(77,v77),(78,v78),(85,.d (.ls [.i .i64 n,.i .i64 m])),(86,.d (.i .i64 2)),(87,.d (.i .i64 j)),(88,.d (.b true))] H=some (.nor,[(5,v5),(13,v13),(21,.p q 0),(76,v76),(77,v77),(78,v78),(85,.d (.ls [.i .i64 n,.i .i64 m])),(86,.d (.i .i64 2)),(87,.d (.i .i64 j)),(88,.d (.b true))],H):=by
 simp[nthC,tlC,unB,l6_1,put,eset,eget,D.cells,V.cells,allD,hget,hset,fz,zC,zN,setParts,chunk1,allCellsD,eqKs,eqCell]
theorem ref_m0f {H:Hp}{q:Nat}{n m:Int} (v5 v13 v76 v77 v78:V):evI cS (nthC 0 l6_1) none [(5,v5),(13,v13),(21,.p q 0),(76,v76),(77,v77),(78,v78),(85,.d (.ls [.i .i64 n,.i .i64 m])),(86,.d (.i .i64 2)),(87,.d (.i .i64 2))] H=some (.nor,[(5,v5),(13,v13),(21,.p q 0),(76,v76),(77,v77),(78,v78),(85,.d (.ls [.i .i64 n,.i .i64 m])),(86,.d (.i .i64 2)),(87,.d (.i .i64 2)),(88,.d (.b false))],H):=by
 simp[nthC,tlC,unB,l6_1,put,eset,eget,D.cells,V.cells,allD,hget,hset,fz,zC,zN,setParts,chunk1,allCellsD,eqKs,eqCell]
theorem ref_m1f {H:Hp}{q:Nat}{n m:Int} (v5 v13 v76 v77 v78:V):evI cS (nthC 1 l6_1) none [(5,v5),(13,v13),(21,.p q 0),(76,v76),(77,v77),(78,v78),(85,.d (.ls [.i .i64 n,.i .i64 m])),(86,.d (.i .i64 2)),(87,.d (.i .i64 2)),(88,.d (.b false))] H=some (.ex 2,[(5,v5),(13,v13),(21,.p q 0),(76,v76),(77,v77),(78,v78),(85,.d (.ls [.i .i64 n,.i .i64 m])),(86,.d (.i .i64 2)),(87,.d (.i .i64 2)),(88,.d (.b false))],H):=by
 simp[nthC,tlC,unB,l6_1,put,eset,eget,D.cells,V.cells,allD,hget,hset,fz,zC,zN,setParts,chunk1,allCellsD,eqKs,eqCell]
theorem ref_m2 {H:Hp}{q:Nat}{n m j z:Int} (hs:(j=0∧z=n)∨(j=1∧z=m)) (v5 v13 v76 v77 v78:V):evI cS (nthC 0 (unB (nthC 2 l6_1))) none [(5,v5),(13,v13),(21,.p q 0),(76,v76),(77,v77),(78,v78),(85,.d (.ls [.i .i64 n,.i .i64 m])),(86,.d (.i .i64 2)),(87,.d (.i .i64 j)),(88,.d (.b true))] H=some (.nor,[(5,v5),(13,v13),(21,.p q 0),(23,.d (.i .i64 z)),(76,v76),(77,v77),(78,v78),(85,.d (.ls [.i .i64 n,.i .i64 m])),(86,.d (.i .i64 2)),(87,.d (.i .i64 j))],H):=by
 rcases hs with ⟨rfl,rfl⟩ | ⟨rfl,rfl⟩<;>simp[nthC,unB,l6_1,put,eset,eget,D.cells,V.cells,allD,hget,hset,fz,zC,zN,setParts,chunk1,allCellsD,eqKs,eqCell]
theorem ref_m3 {H:Hp}{q:Nat}{n m j z:Int}{x y:IV}{XS ES:List D} (g:hget H q=some (.box 49 [.d (.s x.a),.d (.s x.b),.d (.s x.c),.d (.s x.d),.d (.s y.a),.d (.s y.b),.d (.s y.c),.d (.s y.d)])) (hc:callV cS false (fnV 31) [.d (.agg [.s x.a,.s x.b,.s x.c,.s x.d]),.d (.agg [.s y.a,.s y.b,.s y.c,.s y.d]),.d (.i .i64 z)] H=some (.val (.d (.tup [.ls XS,.ls ES])),H)) (v5 v13 v76 v77 v78:V):evI cS (nthC 1 (unB (nthC 2 l6_1))) none [(5,v5),(13,v13),(21,.p q 0),(23,.d (.i .i64 z)),(76,v76),(77,v77),(78,v78),(85,.d (.ls [.i .i64 n,.i .i64 m])),(86,.d (.i .i64 2)),(87,.d (.i .i64 j))] H=some (.nor,[(5,v5),(13,v13),(21,.p q 0),(23,.d (.i .i64 z)),(24,.d (.ls XS)),(25,.d (.ls ES)),(76,v76),(77,v77),(78,v78),(85,.d (.ls [.i .i64 n,.i .i64 m])),(86,.d (.i .i64 2)),(87,.d (.i .i64 j))],H):=by
 simp[nthC,tlC,unB,l6_1,put,eset,eget,D.cells,V.cells,allD,hget,hset,fz,zC,zN,setParts,chunk1,allCellsD,eqKs,eqCell,g,hc]
theorem ref_m4 {H:Hp}{q:Nat}{n m j z:Int}{x y:IV}{XS ES:List D} (g:hget H q=some (.box 49 [.d (.s x.a),.d (.s x.b),.d (.s x.c),.d (.s x.d),.d (.s y.a),.d (.s y.b),.d (.s y.c),.d (.s y.d)])) (hc:callV cS false (fnV 32) [.d (.agg [.s x.a,.s x.b,.s x.c,.s x.d]),.d (.agg [.s y.a,.s y.b,.s y.c,.s y.d]),.d (.i .i64 z)] H=some (.val (.d (.tup [.ls XS,.ls ES])),H)) (v5 v13 v24 v25 v76 v77 v78:V):evI cS (nthC 2 (unB (nthC 2 l6_1))) none [(5,v5),(13,v13),(21,.p q 0),(23,.d (.i .i64 z)),(24,v24),(25,v25),(76,v76),(77,v77),(78,v78),(85,.d (.ls [.i .i64 n,.i .i64 m])),(86,.d (.i .i64 2)),(87,.d (.i .i64 j))] H=some (.nor,[(5,v5),(13,v13),(21,.p q 0),(24,v24),(25,v25),(26,.d (.ls XS)),(27,.d (.ls ES)),(76,v76),(77,v77),(78,v78),(85,.d (.ls [.i .i64 n,.i .i64 m])),(86,.d (.i .i64 2)),(87,.d (.i .i64 j))],H):=by
 simp[nthC,tlC,unB,l6_1,put,eset,eget,D.cells,V.cells,allD,hget,hset,fz,zC,zN,setParts,chunk1,allCellsD,eqKs,eqCell,g,hc]
theorem ref_m5 {H:Hp} (v5 v13 v21 v24 v25 v26 v27 v76 v77 v78 v85 v86 v87:V):evI cS (nthC 0 (tlC 3 (unB (nthC 2 l6_1)))) none [(5,v5),(13,v13),(21,v21),(24,v24),(25,v25),(26,v26),(27,v27),(76,v76),(77,v77),(78,v78),(85,v85),(86,v86),(87,v87)] H=some (.nor,[(5,v5),(13,v13),(21,v21),(24,v24),(25,v25),(26,v26),(27,v27),(28,.d (.i .i64 0)),(76,v76),(77,v77),(78,v78),(85,v85),(86,v86),(87,v87)],H):=by
 simp[nthC,tlC,unB,l6_1,put,eset,eget,D.cells,V.cells,allD,hget,hset,fz,zC,zN,setParts,chunk1,allCellsD,eqKs,eqCell]
theorem ref_m6 {H:Hp}{q:Nat}{n m j:Int} (h0:0≤j) (h1:j<2) (v5 v13 v24 v25 v26 v27 v28 v76 v77 v78 v112:V):evI cS (tlC 3 l6_1) none [(5,v5),(13,v13),(21,.p q 0),(24,v24),(25,v25),(26,v26),(27,v27),(28,v28),(76,v76),(77,v77),(78,v78),(85,.d (.ls [.i .i64 n,.i .i64 m])),(86,.d (.i .i64 2)),(87,.d (.i .i64 j)),(112,v112)] H=some (.nor,[(5,v5),(13,v13),(21,.p q 0),(76,v76),(77,v77),(78,v78),(85,.d (.ls [.i .i64 n,.i .i64 m])),(86,.d (.i .i64 2)),(87,.d (.i .i64 (j+1)))],H):=by
 have w1:IntKind.i64.wrap (j+1)=j+1:=wr64 (by omega) (by omega)
 simp[nthC,tlC,unB,l6_1,put,eset,eget,D.cells,V.cells,allD,hget,hset,fz,zC,zN,setParts,chunk1,allCellsD,eqKs,eqCell,w1]
def Agree (x y:IV) (z:Int) (H:Hp):Prop:=∃ XS ES:List D,(callV cS false (fnV 31) [.d (.agg [.s x.a,.s x.b,.s x.c,.s x.d]),.d (.agg [.s y.a,.s y.b,.s y.c,.s y.d]),.d (.i .i64 z)] H=some (.val (.d (.tup [.ls XS,.ls ES])),H))∧(callV cS false (fnV 32) [.d (.agg [.s x.a,.s x.b,.s x.c,.s x.d]),.d (.agg [.s y.a,.s y.b,.s y.c,.s y.d]),.d (.i .i64 z)] H=some (.val (.d (.tup [.ls XS,.ls ES])),H))∧(XS.length=8∧ES.length=8∧allCellsD 4 XS=true∧allCellsD 1 ES=true)∧∀ k,k<8→∃ a b c d e,XS[k]? = some (.agg [.s a,.s b,.s c,.s d])∧ES[k]? = some (.i .i64 e)
theorem ref_mid {H:Hp}{q:Nat}{n m j z:Int}{x y:IV} (g:hget H q=some (.box 49 [.d (.s x.a),.d (.s x.b),.d (.s x.c),.d (.s x.d),.d (.s y.a),.d (.s y.b),.d (.s y.c),.d (.s y.d)])) (hA:Agree x y z H) (hs:(j=0∧z=n)∨(j=1∧z=m)) (v5 v13 v76 v77 v78:V) :
 evI cS l6_1 none [(5,v5),(13,v13),(21,.p q 0),(76,v76),(77,v77),(78,v78),(85,.d (.ls [.i .i64 n,.i .i64 m])),(86,.d (.i .i64 2)),(87,.d (.i .i64 j))] H=some (.nor,[(5,v5),(13,v13),(21,.p q 0),(76,v76),(77,v77),(78,v78),(85,.d (.ls [.i .i64 n,.i .i64 m])),(86,.d (.i .i64 2)),(87,.d (.i .i64 (j+1)))],H):=by
 obtain⟨XS,ES,h1,h2,⟨lx,le,hz,hy⟩,hF⟩:=hA
 have hj:0≤j∧j<2:=by omega
 have hT:∀ (e:En) (h:Hp),evI cS l6_1 none e h=evI cS (.seq (nthC 0 l6_1) (.seq (nthC 1 l6_1) (.seq (.block 3 (.seq (nthC 0 (unB (nthC 2 l6_1))) (.seq (nthC 1 (unB (nthC 2 l6_1))) (.seq (nthC 2 (unB (nthC 2 l6_1))) (.seq (nthC 0 (tlC 3 (unB (nthC 2 l6_1)))) (.block 4 (.loop l6_0))))))) (tlC 3 l6_1)))) none e h:=fun _ _=>rfl
 have q0:=ref_m0 (H:=H) (q:=q) (n:=n) (m:=m) hj.2 v5 v13 v76 v77 v78
 have q1:=ref_m1 (H:=H) (q:=q) (n:=n) (m:=m) (j:=j) v5 v13 v76 v77 v78
 have q2:=ref_m2 (H:=H) (q:=q) hs v5 v13 v76 v77 v78
 have q3:=ref_m3 (n:=n) (m:=m) (j:=j) g h1 v5 v13 v76 v77 v78
 have q4:=ref_m4 (n:=n) (m:=m) (j:=j) g h2 v5 v13 (.d (.ls XS)) (.d (.ls ES)) v76 v77 v78
 have q5:=ref_m5 (H:=H) v5 v13 (.p q 0) (.d (.ls XS)) (.d (.ls ES)) (.d (.ls XS)) (.d (.ls ES)) v76 v77 v78 (.d (.ls [.i .i64 n,.i .i64 m])) (.d (.i .i64 2)) (.d (.i .i64 j))
 have q6:=ref_cmp lx le hz hy hF v5 v13 (.p q 0) v76 v77 v78 (.d (.ls [.i .i64 n,.i .i64 m])) (.d (.i .i64 2)) (.d (.i .i64 j)) (H:=H) 8 0 rfl
 have q7:=ref_m6 (H:=H) (q:=q) (n:=n) (m:=m) hj.1 hj.2 v5 v13 (.d (.ls XS)) (.d (.ls ES)) (.d (.ls XS)) (.d (.ls ES)) (.d (.i .i64 8)) v76 v77 v78 (.d (.b false))
 simp only[show ((0:Nat):Int)=0 from rfl] at q6
 rw[hT,evI_seq,q0];simp only[thenR]
 rw[evI_seq,q1];simp only[thenR]
 rw[evI_seq,evI_block,evI_seq,q2];simp only[thenR]
 rw[evI_seq,q3];simp only[thenR]
 rw[evI_seq,q4];simp only[thenR]
 rw[evI_seq,q5];simp only[thenR]
 rw[evI_block,q6];simp only[blockR,if_true]
 exact q7
theorem ref_both {H:Hp}{q:Nat}{n m:Int}{x y:IV} (g:hget H q=some (.box 49 [.d (.s x.a),.d (.s x.b),.d (.s x.c),.d (.s x.d),.d (.s y.a),.d (.s y.b),.d (.s y.c),.d (.s y.d)])) (hA:Agree x y n H) (hB:Agree x y m H) (v5 v13 v76 v77 v78:V) :
 evI cS (.loop l6_1) none [(5,v5),(13,v13),(21,.p q 0),(76,v76),(77,v77),(78,v78),(85,.d (.ls [.i .i64 n,.i .i64 m])),(86,.d (.i .i64 2)),(87,.d (.i .i64 0))] H=some (.ex 2,[(5,v5),(13,v13),(21,.p q 0),(76,v76),(77,v77),(78,v78),(85,.d (.ls [.i .i64 n,.i .i64 m])),(86,.d (.i .i64 2)),(87,.d (.i .i64 2)),(88,.d (.b false))],H):=by
 have q0:=ref_mid (n:=n) (m:=m) g hA (.inl ⟨rfl,rfl⟩) v5 v13 v76 v77 v78
 have q1:=ref_mid (n:=n) (m:=m) g hB (.inr ⟨rfl,rfl⟩) v5 v13 v76 v77 v78
 have q2:=ref_m0f (H:=H) (q:=q) (n:=n) (m:=m) v5 v13 v76 v77 v78
 have q3:=ref_m1f (H:=H) (q:=q) (n:=n) (m:=m) v5 v13 v76 v77 v78
 rw[show (0:Int)+1=1 from rfl] at q0
 rw[show (1:Int)+1=2 from rfl] at q1
 have hT:∀ (e:En) (h:Hp),evI cS l6_1 none e h=evI cS (.seq (nthC 0 l6_1) (.seq (nthC 1 l6_1) (tlC 2 l6_1))) none e h:=fun _ _=>rfl
 rw[evI_loop,q0];simp only[thenR]
 rw[evI_loop,q1];simp only[thenR]
 rw[evI_loop,hT,evI_seq,q2];simp only[thenR]
 rw[evI_seq,q3]
 rfl
theorem ref_p0 {H:Hp}{PS:List D}{n i:Int} (hi:i<6) (v13:V):evI cS (nthC 0 l6_2) none [(5,.d (.i .i64 n)),(13,v13),(76,.d (.ls PS)),(77,.d (.i .i64 6)),(78,.d (.i .i64 i))] H=some (.nor,[(5,.d (.i .i64 n)),(13,v13),(76,.d (.ls PS)),(77,.d (.i .i64 6)),(78,.d (.i .i64 i)),(79,.d (.b true))],H):=by
 simp[nthC,tlC,unB,l6_2,put,eset,eget,D.cells,V.cells,allD,hget,hset,fz,zC,zN,setParts,chunk1,allCellsD,eqKs,eqCell,hi]
theorem ref_p1 {H:Hp} (v5 v13 v76 v77 v78:V):evI cS (nthC 1 l6_2) none [(5,v5),(13,v13),(76,v76),(77,v77),(78,v78),(79,.d (.b true))] H=some (.nor,[(5,v5),(13,v13),(76,v76),(77,v77),(78,v78),(79,.d (.b true))],H):=by
 simp[nthC,tlC,unB,l6_2,put,eset,eget,D.cells,V.cells,allD,hget,hset,fz,zC,zN,setParts,chunk1,allCellsD,eqKs,eqCell]
theorem ref_p0f {H:Hp}{PS:List D}{n:Int} (v13:V):evI cS (nthC 0 l6_2) none [(5,.d (.i .i64 n)),(13,v13),(76,.d (.ls PS)),(77,.d (.i .i64 6)),(78,.d (.i .i64 6))] H=some (.nor,[(5,.d (.i .i64 n)),(13,v13),(76,.d (.ls PS)),(77,.d (.i .i64 6)),(78,.d (.i .i64 6)),(79,.d (.b false))],H):=by
 simp[nthC,tlC,unB,l6_2,put,eset,eget,D.cells,V.cells,allD,hget,hset,fz,zC,zN,setParts,chunk1,allCellsD,eqKs,eqCell]
theorem ref_p1f {H:Hp} (v5 v13 v76 v77 v78:V):evI cS (nthC 1 l6_2) none [(5,v5),(13,v13),(76,v76),(77,v77),(78,v78),(79,.d (.b false))] H=some (.ex 0,[(5,v5),(13,v13),(76,v76),(77,v77),(78,v78),(79,.d (.b false))],H):=by
 simp[nthC,tlC,unB,l6_2,put,eset,eget,D.cells,V.cells,allD,hget,hset,fz,zC,zN,setParts,chunk1,allCellsD,eqKs,eqCell]
theorem ref_p2 {H:Hp}{PS:List D}{i:Int}{x y:IV} (h0:0≤i) (hl:i<(PS.length:Int)) (hx:PS[i.toNat]? = some (.agg [.s x.a,.s x.b,.s x.c,.s x.d,.s y.a,.s y.b,.s y.c,.s y.d])) (hz:allCellsD 8 PS=true) (v5 v13 v77 v79:V) :
 evI cS (nthC 0 (unB (nthC 2 l6_2))) none [(5,v5),(13,v13),(76,.d (.ls PS)),(77,v77),(78,.d (.i .i64 i)),(79,v79)] H=some (.nor,[(5,v5),(13,v13),(21,.p H.length 0),(76,.d (.ls PS)),(77,v77),(78,.d (.i .i64 i))],.box 49 [.d (.s x.a),.d (.s x.b),.d (.s x.c),.d (.s x.d),.d (.s y.a),.d (.s y.b),.d (.s y.c),.d (.s y.d)]::H):=by
 obtain⟨_,hx'⟩:=List.getElem?_eq_some_iff.1 hx
 simp[nthC,unB,l6_2,put,eset,eget,D.cells,V.cells,allD,hget,hset,fz,zC,zN,setParts,chunk1,allCellsD,eqKs,eqCell,h0,hl,hx',hz]
theorem ref_p3 {H:Hp}{n:Int} (hn:I64 n) (v13 v21 v76 v77 v78:V):evI cS (nthC 0 (nthC 1 (unB (nthC 2 l6_2)))) none [(5,.d (.i .i64 n)),(13,v13),(21,v21),(76,v76),(77,v77),(78,v78)] H=some (.nor,[(5,.d (.i .i64 n)),(13,v13),(21,v21),(76,v76),(77,v77),(78,v78),(85,.d (.ls [.i .i64 n,.i .i64 (pickI n 31)])),(86,.d (.i .i64 2)),(87,.d (.i .i64 0))],H):=by
 have f0:=pick5_ok n 31 hn (by unfold I64;omega) (by omega) H
 simp[nthC,unB,l6_2,put,eset,eget,D.cells,V.cells,allD,hget,hset,fz,zC,zN,setParts,chunk1,allCellsD,eqKs,eqCell,f0]
theorem ref_p4 {H:Hp}{q:Nat}{x y:IV}{s t:List UInt8}{e:Int} (g:hget H q=some (.box 49 [.d (.s x.a),.d (.s x.b),.d (.s x.c),.d (.s x.d),.d (.s y.a),.d (.s y.b),.d (.s y.c),.d (.s y.d)])) (hc:callV cS false (fnV 33) [.d (.agg [.s x.a,.s x.b,.s x.c,.s x.d])] H=some (.val (.d (.tup [(.agg [.s s,.s t]),.i .i64 e])),H)) (v5 v13 v76 v77 v78 v85 v86 v87 v88:V):evI cS (nthC 2 (unB (nthC 2 l6_2))) none [(5,v5),(13,v13),(21,.p q 0),(76,v76),(77,v77),(78,v78),(85,v85),(86,v86),(87,v87),(88,v88)] H=some (.nor,[(5,v5),(13,v13),(21,.p q 0),(29,.p H.length 0),(30,.d (.i .i64 e)),(76,v76),(77,v77),(78,v78)],(.box 26 [.d (.s s),.d (.s t)]::H)):=by
 simp[nthC,tlC,unB,l6_2,put,eset,eget,D.cells,V.cells,allD,hget,hset,fz,zC,zN,setParts,chunk1,allCellsD,eqKs,eqCell,g,hc]
theorem ref_p5 {H:Hp}{q:Nat}{x y:IV}{s t:List UInt8}{e:Int} (g:hget H q=some (.box 49 [.d (.s x.a),.d (.s x.b),.d (.s x.c),.d (.s x.d),.d (.s y.a),.d (.s y.b),.d (.s y.c),.d (.s y.d)])) (hc:callV cS false (fnV 34) [.d (.agg [.s x.a,.s x.b,.s x.c,.s x.d])] H=some (.val (.d (.tup [(.agg [.s s,.s t]),.i .i64 e])),H)) (v5 v13 v29 v30 v76 v77 v78:V):evI cS (nthC 3 (unB (nthC 2 l6_2))) none [(5,v5),(13,v13),(21,.p q 0),(29,v29),(30,v30),(76,v76),(77,v77),(78,v78)] H=some (.nor,[(5,v5),(13,v13),(21,.p q 0),(29,v29),(30,v30),(31,.p H.length 0),(32,.d (.i .i64 e)),(76,v76),(77,v77),(78,v78)],(.box 26 [.d (.s s),.d (.s t)]::H)):=by
 simp[nthC,tlC,unB,l6_2,put,eset,eget,D.cells,V.cells,allD,hget,hset,fz,zC,zN,setParts,chunk1,allCellsD,eqKs,eqCell,g,hc]
theorem ref_p6 {H:Hp}{q:Nat}{x y:IV} (g:hget H q=some (.box 49 [.d (.s x.a),.d (.s x.b),.d (.s x.c),.d (.s x.d),.d (.s y.a),.d (.s y.b),.d (.s y.c),.d (.s y.d)])) (v5 v13 v29 v30 v31 v32 v76 v77 v78:V):evI cS (nthC 4 (unB (nthC 2 l6_2))) none [(5,v5),(13,v13),(21,.p q 0),(29,v29),(30,v30),(31,v31),(32,v32),(76,v76),(77,v77),(78,v78)] H=some (.nor,[(5,v5),(13,v13),(21,.p q 0),(29,v29),(30,v30),(31,v31),(32,v32),(33,.p H.length 0),(76,v76),(77,v77),(78,v78)],(.box 26 [.d (.s y.a),.d (.s y.b)]::H)):=by
 simp[nthC,tlC,unB,l6_2,put,eset,eget,D.cells,V.cells,allD,hget,hset,fz,zC,zN,setParts,chunk1,allCellsD,eqKs,eqCell,g]
theorem ref_p7 {H:Hp}{q i29 i31 i33:Nat}{x y:IV}{s t z1 z2 z3 z4:List UInt8}{e:Int}{w1 w2 w3:Bool} (g:hget H q=some (.box 49 [.d (.s x.a),.d (.s x.b),.d (.s x.c),.d (.s x.d),.d (.s y.a),.d (.s y.b),.d (.s y.c),.d (.s y.d)])) (g29:hget H i29=some (.box 26 [.d (.s s),.d (.s t)])) (g31:hget H i31=some (.box 26 [.d (.s s),.d (.s t)])) (g33:hget H i33=some (.box 26 [.d (.s y.a),.d (.s y.b)])) (va1:callV cS false (fnV 35) [.d (.agg [.s x.a,.s x.b,.s x.c,.s x.d])] H=some (.val (.d (.b w1)),H)) (vb1:callV cS false (fnV 37) [.d (.agg [.s y.a,.s y.b])] H=some (.val (.d (.agg [.s z1,.s z2,.s z3,.s z4])),H)) (vc1:callV cS false (fnV 23) [.d (.agg [.s x.a,.s x.b,.s x.c,.s x.d]),.d (.agg [.s y.a,.s y.b])] H=some (.val (.d (.b w2)),H)) (vd1:callV cS false (fnV 15) [.d (.agg [.s x.a,.s x.b,.s x.c,.s x.d]),.d (.agg [.s y.a,.s y.b,.s y.c,.s y.d])] H=some (.val (.d (.b w3)),H)) (va2:callV cS false (fnV 36) [.d (.agg [.s x.a,.s x.b,.s x.c,.s x.d])] H=some (.val (.d (.b w1)),H)) (vb2:callV cS false (fnV 38) [.d (.agg [.s y.a,.s y.b])] H=some (.val (.d (.agg [.s z1,.s z2,.s z3,.s z4])),H)) (vc2:callV cS false (fnV 39) [.d (.agg [.s x.a,.s x.b,.s x.c,.s x.d]),.d (.agg [.s y.a,.s y.b])] H=some (.val (.d (.b w2)),H)) (vd2:callV cS false (fnV 40) [.d (.agg [.s x.a,.s x.b,.s x.c,.s x.d]),.d (.agg [.s y.a,.s y.b,.s y.c,.s y.d])] H=some (.val (.d (.b w3)),H)) (v5 v13 v76 v77 v78:V) :
 evI cS (nthC 5 (unB (nthC 2 l6_2))) none [(5,v5),(13,v13),(21,.p q 0),(29,.p i29 0),(30,.d (.i .i64 e)),(31,.p i31 0),(32,.d (.i .i64 e)),(33,.p i33 0),(76,v76),(77,v77),(78,v78)] H=some (.nor,[(5,v5),(13,v13),(76,v76),(77,v77),(78,v78),(198,.d (.b false))],H):=by
 obtain⟨xa,xb,xc,xd⟩:=x
 obtain⟨ya,yb,yc,yd⟩:=y
 simp only at *
 simp only[nthC,unB,l6_2]
 apply evI_drawP
 simp[evP,put,eset,eget,D.cells,V.cells,allD,hget,hset,fz,zC,zN,setParts,chunk1,allCellsD,eqKs,eqCell,g,g29,g31,g33,va1,va2,vb1,vb2,vc1,vc2,vd1,vd2]
theorem ref_p8 {H:Hp} (v5 v13 v76 v77 v78:V):evI cS (tlC 6 (unB (nthC 2 l6_2))) none [(5,v5),(13,v13),(76,v76),(77,v77),(78,v78),(198,.d (.b false))] H=some (.nor,[(5,v5),(13,v13),(76,v76),(77,v77),(78,v78),(198,.d (.b false))],H):=by
 simp[nthC,tlC,unB,l6_2,put,eset,eget,D.cells,V.cells,allD,hget,hset,fz,zC,zN,setParts,chunk1,allCellsD,eqKs,eqCell]
theorem ref_p9 {H:Hp}{i:Int} (h0:0≤i) (h1:i<6) (v5 v13 v76 v77 v198:V):evI cS (tlC 3 l6_2) none [(5,v5),(13,v13),(76,v76),(77,v77),(78,.d (.i .i64 i)),(198,v198)] H=some (.nor,[(5,v5),(13,v13),(76,v76),(77,v77),(78,.d (.i .i64 (i+1)))],H):=by
 have w1:IntKind.i64.wrap (i+1)=i+1:=wr64 (by omega) (by omega)
 simp[nthC,tlC,unB,l6_2,put,eset,eget,D.cells,V.cells,allD,hget,hset,fz,zC,zN,setParts,chunk1,allCellsD,eqKs,eqCell,w1]
end
section
open Go Num
theorem err_app:∀ (L:Hp) {H:Hp}{o:EO},ErrAt H o→ErrAt (L++H) o
 | [],_,_,h=>h
 | x::L,_,_,h=>(err_app L h).cons x
theorem work_any {l:List IV}{x:Option D} (hx:∀ z,x=some z→∃ s t u v,z=.agg [.s s,.s t,.s u,.s v]):∃ (r:IV) (e:Int),workD l x=.tup [r.D,.i .i64 e]:=by
 obtain⟨s,t,u,v,e,h⟩:=workD_form (l:=l) hx
 exact⟨⟨s,t,u,v⟩,e,h⟩
theorem agree {x y:IV} (s:IVS x) (t:IVS y) {z:Int} (hz:I64 z) {H:Hp}{o:EO} (g:Glb H) (e:ErrAt H o):Agree x y z H:=by
 obtain⟨r0,e0,h0⟩:=work_any (l:=[x,y]) (addX_form x y)
 obtain⟨r1,e1,h1⟩:=work_any (l:=[x,y]) (subX_form x y)
 obtain⟨r2,e2,h2⟩:=work_any (l:=[x,y]) (mulX_form x y)
 obtain⟨r3,e3,h3⟩:=work_any (l:=[x,y]) (divX_form x y)
 obtain⟨r4,e4,h4⟩:=work_any (l:=[x,y]) (hullX_form x y)
 obtain⟨r5,e5,h5⟩:=work_any (l:=[x,y]) (meetX_form x y)
 obtain⟨r6,e6,h6⟩:=work_any (l:=[x]) (sqrtX_form z x)
 obtain⟨r7,e7,h7⟩:=work_any (l:=[x]) (x:=pairD (opQ1 (rdD false z) errR x.a x.b) (opQ1 (rdD true z) errR x.c x.d)) (fun z hz=>pairD_form hz)
 have A:=calls_ok (A:=x) (B:=y) (n:=z) g e (fun h g e=>(EAdd_ok x y g e).trans (by rw[h0];rfl)) (fun h g e=>(ESub_ok x y g e).trans (by rw[h1];rfl)) (fun h g e=>(EMul_ok x y g e).trans (by rw[h2];rfl)) (fun h g e=>(EDiv_ok x y g e).trans (by rw[h3];rfl)) (fun h g e=>(EHull_ok x y g e).trans (by rw[h4];rfl)) (fun h g e=>(EMeet_ok x y g e).trans (by rw[h5];rfl)) (fun h g e=>(ESqrt_ok x z hz g e).trans (by rw[h6];rfl)) (fun h g e=>(ERound_ok x z hz g e).trans (by rw[h7];rfl))
 have B:=wnt_ok (A:=x) (B:=y) (n:=z) g e (fun h _ _=>(Add5_ok x y s t h).trans (by rw[h0];rfl)) (fun h _ _=>(Sub5_ok x y s t h).trans (by rw[h1];rfl)) (fun h _ _=>(Mul5_ok x y s t h).trans (by rw[h2];rfl)) (fun h _ _=>(Div5_ok x y s t h).trans (by rw[h3];rfl)) (fun h _ _=>(Hull5_ok x y s t h).trans (by rw[h4];rfl)) (fun h _ _=>(Meet5_ok x y s t h).trans (by rw[h5];rfl)) (fun h _ _=>(Sqrt5_ok x z s h).trans (by rw[h6];rfl)) (fun h _ _=>(Round5_ok x z s h).trans (by rw[h7];rfl))
 refine⟨_,_,A,B,⟨rfl,rfl,by simp[allCellsD,IV.D,D.cells,scDs,scD],by simp[allCellsD,D.cells,scDs,scD]⟩,fun k hk=>?_⟩
 match k,hk with
 | 0,_=>exact⟨_,_,_,_,_,rfl,rfl⟩
 | 1,_=>exact⟨_,_,_,_,_,rfl,rfl⟩
 | 2,_=>exact⟨_,_,_,_,_,rfl,rfl⟩
 | 3,_=>exact⟨_,_,_,_,_,rfl,rfl⟩
 | 4,_=>exact⟨_,_,_,_,_,rfl,rfl⟩
 | 5,_=>exact⟨_,_,_,_,_,rfl,rfl⟩
 | 6,_=>exact⟨_,_,_,_,_,rfl,rfl⟩
 | 7,_=>exact⟨_,_,_,_,_,rfl,rfl⟩
theorem ref_pair {H:Hp}{o:EO} (g:Glb H) (e:ErrAt H o) {PS:List D}{n i:Int} (hn:I64 n) {x y:IV} (s:IVS x) (t:IVS y) (h0:0≤i) (h6:i<6) (hl:PS.length=6) (hx:PS[i.toNat]? = some (.agg [.s x.a,.s x.b,.s x.c,.s x.d,.s y.a,.s y.b,.s y.c,.s y.d])) (hz:allCellsD 8 PS=true) (v13:V) :
 ∃ L,evI cS l6_2 none [(5,.d (.i .i64 n)),(13,v13),(76,.d (.ls PS)),(77,.d (.i .i64 6)),(78,.d (.i .i64 i))] H=some (.nor,[(5,.d (.i .i64 n)),(13,v13),(76,.d (.ls PS)),(77,.d (.i .i64 6)),(78,.d (.i .i64 (i+1)))],L++H):=by
 have hT:∀ (e:En) (h:Hp),evI cS l6_2 none e h=evI cS (.seq (nthC 0 l6_2) (.seq (nthC 1 l6_2) (.seq (.block 1 (.seq (nthC 0 (unB (nthC 2 l6_2))) (.seq (.seq (nthC 0 (nthC 1 (unB (nthC 2 l6_2)))) (.block 2 (.loop l6_1))) (.seq (nthC 2 (unB (nthC 2 l6_2))) (.seq (nthC 3 (unB (nthC 2 l6_2))) (.seq (nthC 4 (unB (nthC 2 l6_2))) (.seq (nthC 5 (unB (nthC 2 l6_2))) (tlC 6 (unB (nthC 2 l6_2)))))))))) (tlC 3 l6_2)))) none e h:=fun _ _=>rfl
 obtain⟨k0,k1⟩:=pickI_range n (show (0:Int)<31 by omega)
 obtain⟨hA,eA⟩:∃ h:Hp,h=.box 49 [.d (.s x.a),.d (.s x.b),.d (.s x.c),.d (.s x.d),.d (.s y.a),.d (.s y.b),.d (.s y.c),.d (.s y.d)]::H:=⟨_,rfl⟩
 have gA:Glb hA:=by rw[eA];exact g.cons _
 have rA:ErrAt hA o:=by rw[eA];exact e.cons _
 have tA:=hget_top eA
 obtain⟨ws,wt,we,hw⟩:∃ s t e,workQ [x] (oneD (opQ (sumD fun x y=>x-y) errR x.c x.d x.a x.b))=.tup [(.agg [.s s,.s t]),.i .i64 e]:=by
  unfold workQ
  split
  ·cases hq:oneD (opQ (sumD fun x y=>x-y) errR x.c x.d x.a x.b) with
   | none=>exact⟨_,_,_,rfl⟩
   | some z=>obtain⟨s,t,rfl⟩:=oneD_form hq;exact⟨_,_,_,rfl⟩
  ·exact⟨_,_,_,rfl⟩
 obtain⟨hB,eB⟩:∃ h:Hp,h=.box 26 [.d (.s ws),.d (.s wt)]::hA:=⟨_,rfl⟩
 have gB:Glb hB:=by rw[eB];exact gA.cons _
 obtain⟨hC,eC⟩:∃ h:Hp,h=.box 26 [.d (.s ws),.d (.s wt)]::hB:=⟨_,rfl⟩
 have gC:Glb hC:=by rw[eC];exact gB.cons _
 obtain⟨hD,eD⟩:∃ h:Hp,h=.box 26 [.d (.s y.a),.d (.s y.b)]::hC:=⟨_,rfl⟩
 have gD:Glb hD:=by rw[eD];exact gC.cons _
 have W1:=(Width_ok x gA rA).trans (by rw[hw])
 have W2:=(Width5_ok x s hB).trans (by rw[hw])
 obtain⟨z1,z2,z3,z4,hp⟩:∃ z1 z2 z3 z4,(if (RQ y.a y.b).isSome=true then dV y.a y.b y.a y.b else zI)=(.agg [.s z1,.s z2,.s z3,.s z4]):=by
  split<;>exact⟨_,_,_,_,rfl⟩
 have q0:=ref_p0 (H:=H) (PS:=PS) (n:=n) h6 v13
 have q1:=ref_p1 (H:=H) (.d (.i .i64 n)) v13 (.d (.ls PS)) (.d (.i .i64 6)) (.d (.i .i64 i))
 have q2:=ref_p2 (H:=H) h0 (by omega) hx hz (.d (.i .i64 n)) v13 (.d (.i .i64 6)) (.d (.b true))
 rw[← eA] at q2
 have q3:=ref_p3 (H:=hA) hn v13 (.p H.length 0) (.d (.ls PS)) (.d (.i .i64 6)) (.d (.i .i64 i))
 have q4:=ref_both tA (agree s t hn gA rA) (agree s t (show I64 (pickI n 31) by unfold I64;omega) gA rA) (.d (.i .i64 n)) v13 (.d (.ls PS)) (.d (.i .i64 6)) (.d (.i .i64 i))
 have q5:=ref_p4 tA W1 (.d (.i .i64 n)) v13 (.d (.ls PS)) (.d (.i .i64 6)) (.d (.i .i64 i)) (.d (.ls [.i .i64 n,.i .i64 (pickI n 31)])) (.d (.i .i64 2)) (.d (.i .i64 2)) (.d (.b false))
 rw[← eB] at q5
 have q6:=ref_p5 (hget_up eB tA) W2 (.d (.i .i64 n)) v13 (.p hA.length 0) (.d (.i .i64 we)) (.d (.ls PS)) (.d (.i .i64 6)) (.d (.i .i64 i))
 rw[← eC] at q6
 have q7:=ref_p6 (hget_up eC (hget_up eB tA)) (.d (.i .i64 n)) v13 (.p hA.length 0) (.d (.i .i64 we)) (.p hB.length 0) (.d (.i .i64 we)) (.d (.ls PS)) (.d (.i .i64 6)) (.d (.i .i64 i))
 rw[← eD] at q7
 have q8:=ref_p7 (e:=we) (hget_up eD (hget_up eC (hget_up eB tA))) (hget_up eD (hget_up eC (hget_top eB))) (hget_up eD (hget_top eC)) (hget_top eD)
  (EValid_ok x.a x.b x.c x.d hD gD) ((Point_ok y.a y.b hD gD).trans (by rw[hp])) (Contains_ok x y.a y.b hD gD) (Within_ok x y hD gD)
  (Valid5_ok x s hD) ((Point5_ok y.a y.b t.1.1 t.1.2 hD).trans (by rw[hp])) (Contains5_ok x y.a y.b s t.1.1 t.1.2 hD) (Within5_ok x y s t hD) (.d (.i .i64 n)) v13 (.d (.ls PS)) (.d (.i .i64 6)) (.d (.i .i64 i))
 have q9:=ref_p8 (H:=hD) (.d (.i .i64 n)) v13 (.d (.ls PS)) (.d (.i .i64 6)) (.d (.i .i64 i))
 have q10:=ref_p9 (H:=hD) h0 h6 (.d (.i .i64 n)) v13 (.d (.ls PS)) (.d (.i .i64 6)) (.d (.b false))
 obtain⟨L,hL⟩:∃ L:Hp,hD=L++H:=⟨_::_::_::_::[],by rw[eD,eC,eB,eA];rfl⟩
 refine⟨L,?_⟩
 rw[hT,evI_seq,q0];simp only[thenR]
 rw[evI_seq,q1];simp only[thenR]
 rw[evI_seq,evI_block,evI_seq,q2];simp only[thenR]
 rw[evI_seq,evI_seq,q3];simp only[thenR]
 rw[evI_block,q4];simp only[blockR,if_true,thenR]
 rw[evI_seq,q5];simp only[thenR]
 rw[evI_seq,q6];simp only[thenR]
 rw[evI_seq,q7];simp only[thenR]
 rw[evI_seq,q8];simp only[thenR]
 rw[q9];simp only[blockR]
 rw[q10,hL]
theorem ref_pairs {o:EO}{PS:List D}{n:Int} (hn:I64 n) (hl:PS.length=6) (hz:allCellsD 8 PS=true) (hP:∀ k,k<6→∃ x y,(IVS x∧IVS y)∧PS[k]? = some (.agg [.s x.a,.s x.b,.s x.c,.s x.d,.s y.a,.s y.b,.s y.c,.s y.d])) (v13:V):∀ (m k:Nat),k+m=6→∀ (H:Hp),Glb H→ErrAt H o →
 ∃ L,evI cS (.loop l6_2) none [(5,.d (.i .i64 n)),(13,v13),(76,.d (.ls PS)),(77,.d (.i .i64 6)),(78,.d (.i .i64 (k:Int)))] H=some (.ex 0,[(5,.d (.i .i64 n)),(13,v13),(76,.d (.ls PS)),(77,.d (.i .i64 6)),(78,.d (.i .i64 6)),(79,.d (.b false))],L++H):=by
 intro m
 induction m with
 | zero =>
   intro k hk H g e
   obtain rfl:k=6:=by omega
   have q0:=ref_p0f (H:=H) (PS:=PS) (n:=n) v13
   have q1:=ref_p1f (H:=H) (.d (.i .i64 n)) v13 (.d (.ls PS)) (.d (.i .i64 6)) (.d (.i .i64 6))
   have hT:∀ (e:En) (h:Hp),evI cS l6_2 none e h=evI cS (.seq (nthC 0 l6_2) (.seq (nthC 1 l6_2) (tlC 2 l6_2))) none e h:=fun _ _=>rfl
   refine⟨[],?_⟩
   rw[evI_loop,hT,evI_seq,show ((6:Nat):Int)=6 from rfl,q0];simp only[thenR]
   rw[evI_seq,q1]
   rfl
 | succ m ih =>
   intro k hk H g e
   obtain⟨x,y,⟨s,t⟩,hx⟩:=hP k (by omega)
   obtain⟨L,h1⟩:=ref_pair g e hn s t (show (0:Int)≤(k:Int) by omega) (by omega) hl (show PS[(k:Int).toNat]? = _ from hx) hz v13
   obtain⟨L',h2⟩:=ih (k+1) (by omega) (L++H) (glb_app L g) (err_app L e)
   rw[show ((k+1:Nat):Int)=(k:Int)+1 by omega] at h2
   refine⟨L'++L,?_⟩
   rw[evI_loop,h1];simp only[thenR]
   rw[h2,List.append_assoc]
end
end Go.Proofs.YtmiioebapckcoaaGreatDoor
section
namespace Num
def lstep (c:Int):Int:=(c*48271+11)%2147483647
def ldig (c:Int):UInt8:=ch (c/65536%10).toNat
def lgen:Nat→Int→List UInt8→List UInt8
 | 0,_,s=>s
 | m+1,c,s=>lgen m (lstep c) (s++[ldig (lstep c)])
def lfin:Nat→Int→Int
 | 0,c=>c
 | m+1,c=>lfin m (lstep c)
theorem lgen_length:∀ (m:Nat) (c:Int) (s:List UInt8),(lgen m c s).length=s.length+m
 | 0,_,_=>rfl
 | m+1,c,s=>by rw[lgen,lgen_length m];simp;omega
theorem ldig_dig (c:Int) (h:0≤c):isDig (ldig c)=true:=isDig_ch (by omega)
theorem lstep_nonneg (c:Int):0≤lstep c∧lstep c<2147483647:=⟨Int.emod_nonneg _ (by omega),Int.emod_lt_of_pos _ (by omega)⟩
theorem lgen_dig:∀ (m:Nat) (c:Int) (s:List UInt8),(∀ b∈s,isDig b=true)→∀ b∈lgen m c s,isDig b=true
 | 0,_,_,h=>h
 | m+1,c,s,h=>by
   rw[lgen]
   refine lgen_dig m _ _ fun b hb=>?_
   rcases List.mem_append.1 hb with k | k
   ·exact h b k
   ·rw[List.mem_singleton] at k
    subst k
    exact ldig_dig _ (lstep_nonneg c).1
def strip0:List UInt8→List UInt8
 | a::b::r=>if a=48 then strip0 (b::r) else a::b::r
 | l=>l
theorem strip0_txt:∀ (l:List UInt8),l≠[]→(∀ b∈l,isDig b=true)→∃ v:Nat,strip0 l=txtN v∧v<10 ^ l.length
 | [],h,_=>absurd rfl h
 | [a],_,hd=>by
   by_cases h:a=48
   ·subst h
    exact⟨0,rfl,by simp⟩
   ·have e:=txtN_dval (l:=[a]) hd rfl h
    refine⟨dval [a],by rw[e];rfl,?_⟩
    have:=(txtN_length (n:=dval [a]) (k:=1) (by omega)).1 (by rw[e];simp)
    simpa using this
 | a::b::r,_,hd=>by
   unfold strip0
   by_cases h:a=48
   ·rw[if_pos h]
    obtain⟨v,h1,h2⟩:=strip0_txt (b::r) (by simp) (fun x hx=>hd x (by simp[hx]))
    refine⟨v,h1,Nat.lt_of_lt_of_le h2 (Nat.pow_le_pow_right (by omega) (by simp))⟩
   ·rw[if_neg h]
    have e:=txtN_dval (l:=a::b::r) hd rfl h
    exact⟨_,e.symm,(txtN_length (by simp)).1 (by rw[e];exact Nat.le_refl _)⟩
end Num
end
namespace Go.Proofs.YtmiioebapckcoaaGreatDoor
section
open Go Num
theorem gen_loop (G:Hp) (v1 v2 v3 v4:V) (n:Nat) (hn:n≤1000):∀ (m:Nat) (c:Int) (s:List UInt8),s.length+m=n→0≤c→c<2147483647 →
 evI cS (.loop l12_0) none [(1,v1),(2,v2),(3,v3),(4,v4),(5,.d (.i .i64 n)),(6,.d (.s s)),(7,.d (.i .i64 c))] G =
  some (.ex 2,[(1,v1),(2,v2),(3,v3),(4,v4),(5,.d (.i .i64 n)),(6,.d (.s (lgen m c s))),(7,.d (.i .i64 (lfin m c))),(29,.d (.b false))],G):=by
 intro m
 induction m with
 | zero =>
   intro c s hs h0 h1
   have hlt:¬ s.length<n:=by omega
   rw[evI_loop]
   simp[l12_0,put,eset,eget,D.cells,V.cells,allD,hget,hset,fz,zC,zN,hlt,lgen,lfin]
 | succ m ih =>
   intro c s hs h0 h1
   have hlt:s.length<n:=by omega
   have hsl:s.length≤9223372036854775806:=by omega
   have w1:IntKind.i64.wrap (c*48271)=c*48271:=wr64 (by omega) (by omega)
   have w2:IntKind.i64.wrap (c*48271+11)=c*48271+11:=wr64 (by omega) (by omega)
   have w3:(c*48271+11).tmod 2147483647=lstep c:=by rw[Int.tmod_eq_emod_of_nonneg (by omega)];rfl
   obtain⟨l0,l1⟩:=lstep_nonneg c
   have w4:IntKind.i64.wrap (lstep c)=lstep c:=wr64 (by omega) (by omega)
   have hih:=ih (lstep c) (s++[ldig (lstep c)]) (by simp<;>omega) l0 l1
   have hd:UInt8.ofNat (48+(lstep c/65536%10)).toNat=ldig (lstep c):=by
    unfold ldig ch
    congr 1
    omega
   simp only[lgen,lfin]
   generalize lstep c=c' at *
   have w5:c'.tdiv 65536=c'/65536:=Int.tdiv_eq_ediv_of_nonneg l0
   have w6:IntKind.i64.wrap (c'/65536)=c'/65536:=wr64 (by omega) (by omega)
   have w7:(c'/65536).tmod 10=c'/65536%10:=Int.tmod_eq_emod_of_nonneg (by omega)
   have d0:0≤c'/65536%10:=Int.emod_nonneg _ (by omega)
   have d1:c'/65536%10<10:=Int.emod_lt_of_pos _ (by omega)
   have w8:IntKind.i64.wrap (c'/65536%10)=c'/65536%10:=wr64 (by omega) (by omega)
   have w9:IntKind.i64.wrap (48+c'/65536%10)=48+c'/65536%10:=wr64 (by omega) (by omega)
   have w10:IntKind.u8.wrap (48+c'/65536%10)=48+c'/65536%10:=by
    exact wr8 (by omega) (by omega)
   generalize c'/65536%10=d at *
   simp only[l12_0,o1,mv] at hih
   rw[evI_loop]
   simp[l12_0,put,eset,eget,D.cells,V.cells,allD,hget,hset,fz,zC,zN,hlt,w1,w2,w3,w4,w5,w6,w7,w8,w9,w10,setParts,chunk1,allCellsD,bytesOf,hd,hsl,hih]
theorem strip_loop (G:Hp) (v1 v2 v3 v4:V):∀ (s:List UInt8),s.length≤1000 →
 evI cS (.loop l12_1) none [(1,v1),(2,v2),(3,v3),(4,v4),(6,.d (.s s))] G=some (.ex 4,[(1,v1),(2,v2),(3,v3),(4,v4),(6,.d (.s (strip0 s))),(50,.d (.b false))],G)
 | [],_=>by
   rw[evI_loop]
   simp[l12_1,put,eset,eget,D.cells,V.cells,allD,hget,hset,fz,zC,zN,strip0]
 | [a],_=>by
   rw[evI_loop]
   simp[l12_1,put,eset,eget,D.cells,V.cells,allD,hget,hset,fz,zC,zN,strip0]
 | a::b::r,hl=>by
   have ih:=strip_loop G v1 v2 v3 v4 (b::r) (by simp at hl ⊢; omega)
   rw[evI_loop]
   simp only[l12_1,o1,mv] at ih
   unfold strip0
   have hr1:(1:Int)<r.length+1+1:=by omega
   have hr2:(1:Int)≤r.length+1+1:=by omega
   by_cases h:a=48
   ·subst h
    simp[l12_1,put,eset,eget,D.cells,V.cells,allD,hget,hset,fz,zC,zN,hr1,hr2,bounds,boundOf,ih]
   ·have h2:¬ (a.toNat:Int)=48:=fun k=>h (UInt8.toNat_inj.1 (show a.toNat=48 by omega))
    have h3:((a.toNat:Int)==48)=false:=by rw[beq_eq_false_iff_ne];exact h2
    simp[l12_1,put,eset,eget,D.cells,V.cells,allD,hget,hset,fz,zC,zN,hr1,h,h2,h3]
theorem strip_loop8 (G:Hp) (v1 v2 v3 v4 v5 v7 v8:V) (s:List UInt8) (hl:s.length≤1000) :
 evI cS (.loop l12_1) none [(1,v1),(2,v2),(3,v3),(4,v4),(5,v5),(6,.d (.s s)),(7,v7),(29,v8)] G=some (.ex 4,[(1,v1),(2,v2),(3,v3),(4,v4),(6,.d (.s (strip0 s))),(50,.d (.b false))],G):=by
 match s,hl with
 | [],_ =>
   rw[evI_loop]
   simp[l12_1,put,eset,eget,D.cells,V.cells,allD,hget,hset,fz,zC,zN,strip0]
 | [a],_ =>
   rw[evI_loop]
   simp[l12_1,put,eset,eget,D.cells,V.cells,allD,hget,hset,fz,zC,zN,strip0]
 | a::b::r,hl =>
   have ih:=strip_loop G v1 v2 v3 v4 (b::r) (by simp at hl ⊢; omega)
   rw[evI_loop]
   simp only[l12_1,o1,mv] at ih
   unfold strip0
   have hr1:(1:Int)<r.length+1+1:=by omega
   have hr2:(1:Int)≤r.length+1+1:=by omega
   by_cases h:a=48
   ·subst h
    simp[l12_1,put,eset,eget,D.cells,V.cells,allD,hget,hset,fz,zC,zN,hr1,hr2,bounds,boundOf,ih]
   ·have h2:¬ (a.toNat:Int)=48:=fun k=>h (UInt8.toNat_inj.1 (show a.toNat=48 by omega))
    have h3:((a.toNat:Int)==48)=false:=by rw[beq_eq_false_iff_ne];exact h2
    simp[l12_1,put,eset,eget,D.cells,V.cells,allD,hget,hset,fz,zC,zN,hr1,h,h2,h3]
def lngH (H:Hp) (x0 x1 x2 x3:Int) (s0 s1:List UInt8):Hp:=.box 65 [.d (.s s0),.d (.s s1)]::.box 26 [.d (.s []),.d (.s [])]::.box 22 [.d (.i .i64 x0),.d (.i .i64 x1),.d (.i .i64 x2),.d (.i .i64 x3)]::H
def lngS (a b:Int):List UInt8:=strip0 (lgen (1+pickI b 100).toNat (pickI a 1000000007) [])
def lngE (H:Hp) (k:Int):En:=[(1,.p H.length 0),(2,.p (H.length+1) 0),(3,.p (H.length+1+1) 0),(4,.d (.i .i64 k))]
theorem long_facts (a b:Int) (ha:I64 a) (hb:I64 b):∃ n:Nat,1+pickI b 100=(n:Int)∧n≤100∧(∀ h,callV cS false (fnV 44) [.d (.i .i64 b),.d (.i .i64 100)] h=some (.val (.d (.i .i64 ((n:Int)-1))),h))∧IntKind.i64.wrap (1+((n:Int)-1))=n ∧
 ∃ c,(∀ h,callV cS false (fnV 44) [.d (.i .i64 a),.d (.i .i64 1000000007)] h=some (.val (.d (.i .i64 c)),h))∧(∀ G v1 v2 v3 v4,evI cS (.loop l12_0) none [(1,v1),(2,v2),(3,v3),(4,v4),(5,.d (.i .i64 n)),(6,.d (.s [])),(7,.d (.i .i64 c))] G =
  some (.ex 2,[(1,v1),(2,v2),(3,v3),(4,v4),(5,.d (.i .i64 n)),(6,.d (.s (lgen n c []))),(7,.d (.i .i64 (lfin n c))),(29,.d (.b false))],G)) ∧
 (lgen n c []).length≤1000∧lngS a b=strip0 (lgen n c []):=by
 obtain⟨p0,p1⟩:=pickI_range b (show (0:Int)<100 by omega)
 obtain⟨q0,q1⟩:=pickI_range a (show (0:Int)<1000000007 by omega)
 refine⟨(1+pickI b 100).toNat,by omega,by omega,fun h=>?_,wr64 (by omega) (by omega) |>.trans (by omega),pickI a 1000000007,pick4_ok a _ ha (by unfold I64;omega) (by omega),fun G v1 v2 v3 v4=>?_,?_,rfl⟩
 ·rw[pick4_ok b 100 hb (by unfold I64;omega) (by omega)]
  rw[show (((1+pickI b 100).toNat:Nat):Int)-1=pickI b 100 by omega]
 ·exact gen_loop G v1 v2 v3 v4 _ (by omega) _ _ [] (by simp) q0 (by omega)
 ·rw[lgen_length];simp<;>omega
theorem long_r0 (H:Hp) (x0 x1 x2 x3:Int) (h0:I64 x0) (h1:I64 x1):evI cS l12_2 none (lngE H 0) (lngH H x0 x1 x2 x3 [] [])=some (.nor,lngE H 1,lngH H x0 x1 x2 x3 (lngS x0 x1) []):=by
 obtain⟨n,_,hn,pk1,w1,c,pk0,gl,hl,hs⟩:=long_facts x0 x1 h0 h1
 have st:=fun G v1 v2 v3 v4 v5 v7 v8=>strip_loop8 G v1 v2 v3 v4 v5 v7 v8 _ hl
 rw[hs]
 generalize lgen n c []=g at *
 generalize lfin n c=c2 at *
 generalize ((n:Int)-1)=n1 at *
 generalize (n:Int)=n2 at *
 simp[l12_2,lngE,lngH,put,eset,eget,D.cells,V.cells,allD,hget,hset,fz,zC,zN,wrl,pk0,pk1,w1,gl,st]
theorem long_r1 (H:Hp) (x0 x1 x2 x3:Int) (h2:I64 x2) (h3:I64 x3) (s0:List UInt8):evI cS l12_2 none (lngE H 1) (lngH H x0 x1 x2 x3 s0 [])=some (.nor,lngE H 2,lngH H x0 x1 x2 x3 s0 (lngS x2 x3)):=by
 obtain⟨n,_,hn,pk1,w1,c,pk0,gl,hl,hs⟩:=long_facts x2 x3 h2 h3
 have st:=fun G v1 v2 v3 v4 v5 v7 v8=>strip_loop8 G v1 v2 v3 v4 v5 v7 v8 _ hl
 rw[hs]
 generalize lgen n c []=g at *
 generalize lfin n c=c2 at *
 generalize ((n:Int)-1)=n1 at *
 generalize (n:Int)=n2 at *
 simp[l12_2,lngE,lngH,put,eset,eget,D.cells,V.cells,allD,hget,hset,fz,zC,zN,wrl,pk0,pk1,w1,gl,st]
theorem long_r2 (H:Hp) (x0 x1 x2 x3:Int) (s0 s1:List UInt8):evI cS l12_2 none (lngE H 2) (lngH H x0 x1 x2 x3 s0 s1)=some (.ex 0,lngE H 2++[(11,.d (.b false))],lngH H x0 x1 x2 x3 s0 s1):=by
 simp[l12_2,lngE,lngH,put,eset,eget,D.cells,V.cells,allD,hget,hset,fz,zC,zN]
theorem long_loop (H:Hp) (x0 x1 x2 x3:Int) (h0:I64 x0) (h1:I64 x1) (h2:I64 x2) (h3:I64 x3):evI cS (.loop l12_2) none (lngE H 0) (lngH H x0 x1 x2 x3 [] [])=some (.ex 0,lngE H 2++[(11,.d (.b false))],lngH H x0 x1 x2 x3 (lngS x0 x1) (lngS x2 x3)):=by
 rw[evI_loop,long_r0 H x0 x1 x2 x3 h0 h1]
 simp only[thenR]
 rw[evI_loop,long_r1 H x0 x1 x2 x3 h2 h3]
 simp only[thenR]
 rw[evI_loop,long_r2]
 rfl
theorem lngS_txt (a b:Int):∃ v:Nat,lngS a b=txtN v∧v<10 ^ 100:=by
 obtain⟨p0,p1⟩:=pickI_range b (show (0:Int)<100 by omega)
 obtain⟨q0,q1⟩:=pickI_range a (show (0:Int)<1000000007 by omega)
 have hlen:=lgen_length (1+pickI b 100).toNat (pickI a 1000000007) []
 obtain⟨v,h1,h2⟩:=strip0_txt (lgen (1+pickI b 100).toNat (pickI a 1000000007) []) (fun h=>by rw[h] at hlen;simp at hlen;omega) (lgen_dig _ _ _ (by simp))
 refine⟨v,h1,Nat.lt_of_lt_of_le h2 (Nat.pow_le_pow_right (by omega) ?_)⟩
 rw[hlen];simp<;>omega
theorem txt_nat (v:Nat):txt (v:Int)=txtN v:=by unfold txt;rw[if_neg (by omega)];simp
theorem txt_negn {v:Nat} (h:v≠0):txt (-(v:Int))=45::txtN v:=by unfold txt;rw[if_pos (by omega)];simp
set_option maxHeartbeats 1000000 in
theorem Long_ok (x0 x1 x2 x3:Int) (h0:I64 x0) (h1:I64 x1) (h2:I64 x2) (h3:I64 x3):∃ q,Sh q∧∀ H,callV cS false (fnV 12) [.d (.agg [.i .i64 x0,.i .i64 x1,.i .i64 x2,.i .i64 x3])] H=some (.val (.d (dR q)),H):=by
 obtain⟨v0,e0,b0⟩:=lngS_txt x0 x1
 obtain⟨v1,e1,b1⟩:=lngS_txt x2 x3
 obtain⟨d,hd,hd0,hdb⟩:∃ d:Nat,d=(if v1=0 then 7 else v1)∧0<d∧d<10 ^ 100:=by
  refine⟨_,rfl,?_,?_⟩
  ·split<;>omega
  ·have:(7:Nat)<10 ^ 100:=Nat.lt_of_lt_of_le (show 7<10 ^ 1 by decide) (Nat.pow_le_pow_right (by omega) (by omega))
   split<;>omega
 obtain⟨z,hz,hzb⟩:∃ z:Int,z=(if pickI x0 2=0∧v0≠0 then -(v0:Int) else v0)∧z.natAbs<10 ^ 100:=by
  refine⟨_,rfl,?_⟩
  split<;>simp<;>omega
 have hlt:(10:Nat) ^ 100≤10 ^ 200:=Nat.pow_le_pow_right (by omega) (by omega)
 have fitz:Fits z:=by unfold Fits;omega
 have fd:Fits (d:Int):=by unfold Fits;simp<;>omega
 refine⟨Rat.divInt z d,?_,fun H=>?_⟩
 ·obtain⟨p1,p2⟩:=divInt_abs z (show 0<(d:Int) by omega)
  exact⟨by omega,by omega⟩
 have mk:=Make3_ok (txt z) (txt d) (txt_short fitz) (txt_short fd)
 rw[opI_txt fitz fd,makeD,if_neg (by omega)] at mk
 have lp:=long_loop H x0 x1 x2 x3 h0 h1 h2 h3
 rw[e0,e1] at lp
 have pk:=pick4_ok x0 2 h0 (by unfold I64;omega) (by omega)
 rw[callV_fn (sf:=c12) rfl rfl rfl rfl]
 simp only[dR] at mk ⊢
 generalize hq:Rat.divInt z d=q at mk ⊢
 simp only[lngE,lngH,List.cons_append,List.nil_append] at lp
 have hz48:txtN 0=[48]:=rfl
 have hn48:∀ v:Nat,v≠0→¬ txtN v=[48]:=fun v hv h=>by
  have:=txt_eq_zero.1 (show txt (v:Int)=[48] by rw[txt_nat];exact h)
  omega
 have ht7:txtN 7=[55]:=by simp[txtN,digs_pos,digs_zero,ch]
 by_cases c1:v1=0
 ·subst c1
  rw[if_pos rfl] at hd
  subst hd
  rw[txt_nat,ht7] at mk
  rw[hz48] at lp
  by_cases c0:v0=0
  ·subst c0
   rw[if_neg (by simp)] at hz
   subst hz
   rw[txt_nat,hz48] at mk
   rw[hz48] at lp
   by_cases cp:pickI x0 2=0
   ·simp[c12,b12,put,eset,eget,D.cells,V.cells,allD,hget,hset,fz,zC,zN,lp,pk,mk,cp]
   ·have cpb:(pickI x0 2==0)=false:=by rw[beq_eq_false_iff_ne];exact cp
    simp[c12,b12,put,eset,eget,D.cells,V.cells,allD,hget,hset,fz,zC,zN,lp,pk,mk,cpb]
  ·have k0:=hn48 v0 c0
   have hl0:1+(txtN v0).length≤9223372036854775807:=by
    have:=(txtN_length (n:=v0) (k:=100) (by omega)).2 b0
    omega
   by_cases cp:pickI x0 2=0
   ·rw[if_pos ⟨cp,c0⟩] at hz
    subst hz
    rw[txt_negn c0] at mk
    generalize txtN v0=t0 at *
    have k0b:(t0==[48])=false:=by rw[beq_eq_false_iff_ne];exact k0
    simp[c12,b12,put,eset,eget,D.cells,V.cells,allD,hget,hset,fz,zC,zN,lp,pk,mk,cp,k0,k0b,hl0]
   ·have cpb:(pickI x0 2==0)=false:=by rw[beq_eq_false_iff_ne];exact cp
    rw[if_neg (fun h=>cp h.1)] at hz
    subst hz
    rw[txt_nat] at mk
    generalize txtN v0=t0 at *
    have k0b:(t0==[48])=false:=by rw[beq_eq_false_iff_ne];exact k0
    simp[c12,b12,put,eset,eget,D.cells,V.cells,allD,hget,hset,fz,zC,zN,lp,pk,mk,cp,cpb]
 ·rw[if_neg c1] at hd
  rw[hd,txt_nat v1] at mk
  clear hd
  have k1:=hn48 _ c1
  by_cases c0:v0=0
  ·subst c0
   rw[if_neg (by simp)] at hz
   subst hz
   rw[txt_nat,hz48] at mk
   rw[hz48] at lp
   generalize txtN v1=t1 at *
   have k1b:(t1==[48])=false:=by rw[beq_eq_false_iff_ne];exact k1
   by_cases cp:pickI x0 2=0
   ·simp[c12,b12,put,eset,eget,D.cells,V.cells,allD,hget,hset,fz,zC,zN,lp,pk,mk,k1,k1b,cp]
   ·have cpb:(pickI x0 2==0)=false:=by rw[beq_eq_false_iff_ne];exact cp
    simp[c12,b12,put,eset,eget,D.cells,V.cells,allD,hget,hset,fz,zC,zN,lp,pk,mk,k1,k1b,cpb]
  ·have k0:=hn48 v0 c0
   have hl0:1+(txtN v0).length≤9223372036854775807:=by
    have:=(txtN_length (n:=v0) (k:=100) (by omega)).2 b0
    omega
   by_cases cp:pickI x0 2=0
   ·rw[if_pos ⟨cp,c0⟩] at hz
    subst hz
    rw[txt_negn c0] at mk
    generalize txtN v0=t0 at *
    generalize txtN v1=t1 at *
    have k0b:(t0==[48])=false:=by rw[beq_eq_false_iff_ne];exact k0
    have k1b:(t1==[48])=false:=by rw[beq_eq_false_iff_ne];exact k1
    simp[c12,b12,put,eset,eget,D.cells,V.cells,allD,hget,hset,fz,zC,zN,lp,pk,mk,cp,k0,k0b,k1,k1b,hl0]
   ·have cpb:(pickI x0 2==0)=false:=by rw[beq_eq_false_iff_ne];exact cp
    rw[if_neg (fun h=>cp h.1)] at hz
    subst hz
    rw[txt_nat] at mk
    generalize txtN v0=t0 at *
    generalize txtN v1=t1 at *
    have k0b:(t0==[48])=false:=by rw[beq_eq_false_iff_ne];exact k0
    have k1b:(t1==[48])=false:=by rw[beq_eq_false_iff_ne];exact k1
    simp[c12,b12,put,eset,eget,D.cells,V.cells,allD,hget,hset,fz,zC,zN,lp,pk,mk,cp,cpb,k1,k1b]
end
section
open Go Num
theorem ref_h0 (H:Hp) (a b:IV) (x0 x1 x2 x3 y0 y1 y2 y3 z0 z1 z2 z3 n:Int):evI cS (nthC 0 b6) none [(0,.d (.agg [.s a.a,.s a.b,.s a.c,.s a.d])),(1,.d (.agg [.s b.a,.s b.b,.s b.c,.s b.d])),(2,.d (.agg [.i .i64 x0,.i .i64 x1,.i .i64 x2,.i .i64 x3])),(3,.d (.agg [.i .i64 y0,.i .i64 y1,.i .i64 y2,.i .i64 y3])),(4,.d (.agg [.i .i64 z0,.i .i64 z1,.i .i64 z2,.i .i64 z3])),(5,.d (.i .i64 n))] H=some (.nor,[(5,.d (.i .i64 n)),(6,.p H.length 0),(7,.p (H.length+1) 0),(8,.p (H.length+2) 0),(9,.p (H.length+3) 0),(10,.p (H.length+4) 0)],.box 22 [.d (.i .i64 z0),.d (.i .i64 z1),.d (.i .i64 z2),.d (.i .i64 z3)]::.box 22 [.d (.i .i64 y0),.d (.i .i64 y1),.d (.i .i64 y2),.d (.i .i64 y3)]::.box 22 [.d (.i .i64 x0),.d (.i .i64 x1),.d (.i .i64 x2),.d (.i .i64 x3)]::.box 29 [.d (.s b.a),.d (.s b.b),.d (.s b.c),.d (.s b.d)]::.box 29 [.d (.s a.a),.d (.s a.b),.d (.s a.c),.d (.s a.d)]::H):=by
 simp[nthC,b6,put,eset,eget,D.cells,V.cells,allD,hget,hset,fz,zC,zN,setParts,chunk1,allCellsD,eqKs,eqCell]
theorem ref_h1 {H:Hp}{o:EO} (g:Glb H) (e:ErrAt H o) (v5 v6 v7 v8 v9 v10:V):evI cS (nthC 1 b6) none [(5,v5),(6,v6),(7,v7),(8,v8),(9,v9),(10,v10)] H=some (.nor,[(5,v5),(6,v6),(7,v7),(8,v8),(9,v9),(10,v10),(13,.d (.b true))],H):=by
 have f0:=sane_ok g e
 simp[nthC,tlC,unB,b6,put,eset,eget,D.cells,V.cells,allD,hget,hset,fz,zC,zN,setParts,chunk1,allCellsD,eqKs,eqCell,f0]
theorem ref_h2 {H:Hp}{i:Nat}{a b:IV} (g:hget H i=some (.box 29 [.d (.s a.a),.d (.s a.b),.d (.s a.c),.d (.s a.d)])) (hc:callV cS false (fnV 28) [.d (.agg [.s a.a,.s a.b,.s a.c,.s a.d])] H=some (.val (.d (.agg [.s b.a,.s b.b,.s b.c,.s b.d])),H)) (v5 v7 v8 v9 v10 v13:V):evI cS (nthC 2 b6) none [(5,v5),(6,.p i 0),(7,v7),(8,v8),(9,v9),(10,v10),(13,v13)] H=some (.nor,[(5,v5),(6,.p i 0),(7,v7),(8,v8),(9,v9),(10,v10),(13,v13)],(hset H i (.box 29 [.d (.s b.a),.d (.s b.b),.d (.s b.c),.d (.s b.d)]))):=by
 simp[nthC,tlC,unB,b6,put,eset,eget,D.cells,V.cells,allD,hget,hset,fz,zC,zN,setParts,chunk1,allCellsD,eqKs,eqCell,g,hc]
theorem ref_h3 {H:Hp}{i:Nat}{a b:IV} (g:hget H i=some (.box 29 [.d (.s a.a),.d (.s a.b),.d (.s a.c),.d (.s a.d)])) (hc:callV cS false (fnV 28) [.d (.agg [.s a.a,.s a.b,.s a.c,.s a.d])] H=some (.val (.d (.agg [.s b.a,.s b.b,.s b.c,.s b.d])),H)) (v5 v6 v8 v9 v10 v13:V):evI cS (nthC 3 b6) none [(5,v5),(6,v6),(7,.p i 0),(8,v8),(9,v9),(10,v10),(13,v13)] H=some (.nor,[(5,v5),(6,v6),(7,.p i 0),(8,v8),(9,v9),(10,v10),(13,v13)],(hset H i (.box 29 [.d (.s b.a),.d (.s b.b),.d (.s b.c),.d (.s b.d)]))):=by
 simp[nthC,tlC,unB,b6,put,eset,eget,D.cells,V.cells,allD,hget,hset,fz,zC,zN,setParts,chunk1,allCellsD,eqKs,eqCell,g,hc]
theorem ref_h4 {H:Hp}{i:Nat}{c0 c1 c2 c3:Int}{s t:List UInt8} (g:hget H i=some (.box 22 [.d (.i .i64 c0),.d (.i .i64 c1),.d (.i .i64 c2),.d (.i .i64 c3)])) (hc:callV cS false (fnV 12) [.d (.agg [.i .i64 c0,.i .i64 c1,.i .i64 c2,.i .i64 c3])] H=some (.val (.d (.agg [.s s,.s t])),H)) (v5 v6 v7 v8 v9 v13:V):evI cS (nthC 4 b6) none [(5,v5),(6,v6),(7,v7),(8,v8),(9,v9),(10,.p i 0),(13,v13)] H=some (.nor,[(5,v5),(6,v6),(7,v7),(8,v8),(9,v9),(13,v13),(14,.p H.length 0)],(.box 26 [.d (.s s),.d (.s t)]::H)):=by
 simp[nthC,tlC,unB,b6,put,eset,eget,D.cells,V.cells,allD,hget,hset,fz,zC,zN,setParts,chunk1,allCellsD,eqKs,eqCell,g,hc]
theorem ref_h5 {H:Hp}{i:Nat}{s t:List UInt8} (g:hget H i=some (.box 26 [.d (.s s),.d (.s t)])) (v5 v6 v7 v8 v9 v13:V):evI cS (nthC 5 b6) none [(5,v5),(6,v6),(7,v7),(8,v8),(9,v9),(13,v13),(14,.p i 0)] H=some (.nor,[(5,v5),(6,v6),(7,v7),(8,v8),(9,v9),(13,v13),(14,.p i 0),(15,.p H.length 0)],(.box 29 [.d (.s s),.d (.s t),.d (.s s),.d (.s t)]::H)):=by
 simp[nthC,tlC,unB,b6,put,eset,eget,D.cells,V.cells,allD,hget,hset,fz,zC,zN,setParts,chunk1,allCellsD,eqKs,eqCell,g]
theorem ref_h6 {H:Hp}{i:Nat}{e:Int}{s t u v r1 r2:List UInt8} (g:hget H i=some (.box 26 [.d (.s s),.d (.s t)])) (hr:callV cS false (fnV 16) [.d (.i .i64 1),.d (.i .i64 3)] H=some (.val (.d (.agg [.s r1,.s r2])),H)) (hc:callV cS false (fnV 29) [.d (.agg [.s s,.s t]),.d (.agg [.s r1,.s r2])] H=some (.val (.d (.tup [(.agg [.s u,.s v]),.i .i64 e])),H)) (v5 v6 v7 v8 v9 v13 v15:V):evI cS (nthC 6 b6) none [(5,v5),(6,v6),(7,v7),(8,v8),(9,v9),(13,v13),(14,.p i 0),(15,v15)] H=some (.nor,[(5,v5),(6,v6),(7,v7),(8,v8),(9,v9),(13,v13),(15,v15),(16,.p H.length 0)],(.box 26 [.d (.s u),.d (.s v)]::H)):=by
 simp[nthC,tlC,unB,b6,put,eset,eget,D.cells,V.cells,allD,hget,hset,fz,zC,zN,setParts,chunk1,allCellsD,eqKs,eqCell,g,hr,hc]
theorem ref_h7 {H:Hp}{i j:Nat}{w:Bool}{s t u v:List UInt8} (g:hget H i=some (.box 29 [.d (.s s),.d (.s t),.d (.s s),.d (.s t)])) (gj:hget H j=some (.box 26 [.d (.s u),.d (.s v)])) (hc:callV cS false (fnV 30) [.d (.agg [.s u,.s v])] H=some (.val (.d (.b w)),H)) (hw:w=true) (v5 v6 v7 v8 v9 v13:V):evI cS (nthC 7 b6) none [(5,v5),(6,v6),(7,v7),(8,v8),(9,v9),(13,v13),(15,.p i 0),(16,.p j 0)] H=some (.nor,[(5,v5),(6,v6),(7,v7),(8,v8),(9,v9),(13,v13),(15,.p i 0)],(hset H i (.box 29 [.d (.s u),.d (.s v),.d (.s s),.d (.s t)]))):=by
 subst hw
 simp[nthC,tlC,unB,b6,put,eset,eget,D.cells,V.cells,allD,hget,hset,fz,zC,zN,setParts,chunk1,allCellsD,eqKs,eqCell,g,gj,hc]
theorem ref_h7n {H:Hp}{i j:Nat}{w:Bool}{s t u v:List UInt8} (g:hget H i=some (.box 29 [.d (.s s),.d (.s t),.d (.s s),.d (.s t)])) (gj:hget H j=some (.box 26 [.d (.s u),.d (.s v)])) (hc:callV cS false (fnV 30) [.d (.agg [.s u,.s v])] H=some (.val (.d (.b w)),H)) (hw:w=false) (v5 v6 v7 v8 v9 v13:V):evI cS (nthC 7 b6) none [(5,v5),(6,v6),(7,v7),(8,v8),(9,v9),(13,v13),(15,.p i 0),(16,.p j 0)] H=some (.nor,[(5,v5),(6,v6),(7,v7),(8,v8),(9,v9),(13,v13),(15,.p i 0),(16,.p j 0),(51,.d (.b false))],H):=by
 subst hw
 simp[nthC,tlC,unB,b6,put,eset,eget,D.cells,V.cells,allD,hget,hset,fz,zC,zN,setParts,chunk1,allCellsD,eqKs,eqCell,g,gj,hc]
theorem ref_h8 {H:Hp}{i:Nat}{c0 c1 c2 c3:Int}{a b c d:List UInt8} (g:hget H i=some (.box 22 [.d (.i .i64 c0),.d (.i .i64 c1),.d (.i .i64 c2),.d (.i .i64 c3)])) (hc:callV cS false (fnV 19) [.d (.agg [.i .i64 c0,.i .i64 c1,.i .i64 c2,.i .i64 c3])] H=some (.val (.d (.agg [.s a,.s b,.s c,.s d])),H)) (v5 v6 v7 v9 v13 v15:V):evI cS (nthC 8 b6) none [(5,v5),(6,v6),(7,v7),(8,.p i 0),(9,v9),(13,v13),(15,v15)] H=some (.nor,[(5,v5),(6,v6),(7,v7),(9,v9),(13,v13),(15,v15),(18,.p H.length 0)],(.box 29 [.d (.s a),.d (.s b),.d (.s c),.d (.s d)]::H)):=by
 simp[nthC,tlC,unB,b6,put,eset,eget,D.cells,V.cells,allD,hget,hset,fz,zC,zN,setParts,chunk1,allCellsD,eqKs,eqCell,g,hc]
theorem ref_h8n {H:Hp}{i:Nat}{c0 c1 c2 c3:Int}{a b c d:List UInt8} (g:hget H i=some (.box 22 [.d (.i .i64 c0),.d (.i .i64 c1),.d (.i .i64 c2),.d (.i .i64 c3)])) (hc:callV cS false (fnV 19) [.d (.agg [.i .i64 c0,.i .i64 c1,.i .i64 c2,.i .i64 c3])] H=some (.val (.d (.agg [.s a,.s b,.s c,.s d])),H)) (v5 v6 v7 v9 v13 v15 v16 v51:V):evI cS (nthC 8 b6) none [(5,v5),(6,v6),(7,v7),(8,.p i 0),(9,v9),(13,v13),(15,v15),(16,v16),(51,v51)] H=some (.nor,[(5,v5),(6,v6),(7,v7),(9,v9),(13,v13),(15,v15),(18,.p H.length 0)],(.box 29 [.d (.s a),.d (.s b),.d (.s c),.d (.s d)]::H)):=by
 simp[nthC,tlC,unB,b6,put,eset,eget,D.cells,V.cells,allD,hget,hset,fz,zC,zN,setParts,chunk1,allCellsD,eqKs,eqCell,g,hc]
theorem ref_h9 {H:Hp}{i:Nat}{c0 c1 c2 c3:Int}{a b c d:List UInt8} (g:hget H i=some (.box 22 [.d (.i .i64 c0),.d (.i .i64 c1),.d (.i .i64 c2),.d (.i .i64 c3)])) (hc:callV cS false (fnV 19) [.d (.agg [.i .i64 c0,.i .i64 c1,.i .i64 c2,.i .i64 c3])] H=some (.val (.d (.agg [.s a,.s b,.s c,.s d])),H)) (v5 v6 v7 v13 v15 v18:V):evI cS (nthC 9 b6) none [(5,v5),(6,v6),(7,v7),(9,.p i 0),(13,v13),(15,v15),(18,v18)] H=some (.nor,[(5,v5),(6,v6),(7,v7),(13,v13),(15,v15),(18,v18),(19,.p H.length 0)],(.box 29 [.d (.s a),.d (.s b),.d (.s c),.d (.s d)]::H)):=by
 simp[nthC,tlC,unB,b6,put,eset,eget,D.cells,V.cells,allD,hget,hset,fz,zC,zN,setParts,chunk1,allCellsD,eqKs,eqCell,g,hc]
def refPS (a b c d w:IV):List D:=[(.agg [.s a.a,.s a.b,.s a.c,.s a.d,.s b.a,.s b.b,.s b.c,.s b.d]),(.agg [.s c.a,.s c.b,.s c.c,.s c.d,.s d.a,.s d.b,.s d.c,.s d.d]),(.agg [.s a.a,.s a.b,.s a.c,.s a.d,.s c.a,.s c.b,.s c.c,.s c.d]),(.agg [.s w.a,.s w.b,.s w.c,.s w.d,.s c.a,.s c.b,.s c.c,.s c.d]),(.agg [.s c.a,.s c.b,.s c.c,.s c.d,.s w.a,.s w.b,.s w.c,.s w.d]),(.agg [.s w.a,.s w.b,.s w.c,.s w.d,.s w.a,.s w.b,.s w.c,.s w.d])]
theorem ref_h10 {H:Hp}{ia ib iw ic id:Nat}{a b c d w:IV} (ga:hget H ia=some (.box 29 [.d (.s a.a),.d (.s a.b),.d (.s a.c),.d (.s a.d)])) (gb:hget H ib=some (.box 29 [.d (.s b.a),.d (.s b.b),.d (.s b.c),.d (.s b.d)])) (gc:hget H ic=some (.box 29 [.d (.s c.a),.d (.s c.b),.d (.s c.c),.d (.s c.d)])) (gd:hget H id=some (.box 29 [.d (.s d.a),.d (.s d.b),.d (.s d.c),.d (.s d.d)])) (gw:hget H iw=some (.box 29 [.d (.s w.a),.d (.s w.b),.d (.s w.c),.d (.s w.d)])) (v5 v13:V) :
 evI cS (nthC 0 (nthC 10 b6)) none [(5,v5),(6,.p ia 0),(7,.p ib 0),(13,v13),(15,.p iw 0),(18,.p ic 0),(19,.p id 0)] H=some (.nor,[(5,v5),(13,v13),(76,.d (.ls (refPS a b c d w))),(77,.d (.i .i64 6)),(78,.d (.i .i64 0))],H):=by
 obtain⟨a1,a2,a3,a4⟩:=a
 obtain⟨b1,b2,b3,b4⟩:=b
 obtain⟨c1,c2,c3,c4⟩:=c
 obtain⟨d1,d2,d3,d4⟩:=d
 obtain⟨w1,w2,w3,w4⟩:=w
 simp only at *
 simp[nthC,b6,put,eset,eget,D.cells,V.cells,allD,hget,hset,fz,zC,zN,setParts,chunk1,allCellsD,eqKs,eqCell,refPS,ga,gb,gc,gd,gw]
theorem ref_h11 {H:Hp} (v5 v76 v77 v78 v79:V):evI cS (tlC 11 b6) none [(5,v5),(13,.d (.b true)),(76,v76),(77,v77),(78,v78),(79,v79)] H=some (.rt,[(12,.d (.b true))],H):=by
 simp[nthC,tlC,unB,b6,put,eset,eget,D.cells,V.cells,allD,hget,hset,fz,zC,zN,setParts,chunk1,allCellsD,eqKs,eqCell]
def RSt (H h:Hp) (a b:IV) (x0 x1 x2 x3 y0 y1 y2 y3 z0 z1 z2 z3:Int):Prop:=(∃ L,h=L++H)∧(hget h H.length=some (.box 29 [.d (.s a.a),.d (.s a.b),.d (.s a.c),.d (.s a.d)])∧hget h (H.length+1)=some (.box 29 [.d (.s b.a),.d (.s b.b),.d (.s b.c),.d (.s b.d)]))∧(hget h (H.length+2)=some (.box 22 [.d (.i .i64 x0),.d (.i .i64 x1),.d (.i .i64 x2),.d (.i .i64 x3)])∧hget h (H.length+3)=some (.box 22 [.d (.i .i64 y0),.d (.i .i64 y1),.d (.i .i64 y2),.d (.i .i64 y3)]))∧hget h (H.length+4)=some (.box 22 [.d (.i .i64 z0),.d (.i .i64 z1),.d (.i .i64 z2),.d (.i .i64 z3)])
theorem RSt.cons {H h:Hp}{a b:IV}{x0 x1 x2 x3 y0 y1 y2 y3 z0 z1 z2 z3:Int} (f:RSt H h a b x0 x1 x2 x3 y0 y1 y2 y3 z0 z1 z2 z3) (x:Ob):RSt H (x::h) a b x0 x1 x2 x3 y0 y1 y2 y3 z0 z1 z2 z3:=by
 obtain⟨⟨L,rfl⟩,⟨h1,h2⟩,⟨h3,h4⟩,h5⟩:=f
 exact⟨⟨x::L,rfl⟩,⟨hget_up rfl h1,hget_up rfl h2⟩,⟨hget_up rfl h3,hget_up rfl h4⟩,hget_up rfl h5⟩
theorem RSt.put {H h:Hp}{a b:IV}{x0 x1 x2 x3 y0 y1 y2 y3 z0 z1 z2 z3:Int} (f:RSt H h a b x0 x1 x2 x3 y0 y1 y2 y3 z0 z1 z2 z3) {i:Nat} (hi:H.length+4<i) (x:Ob):RSt H (hset h i x) a b x0 x1 x2 x3 y0 y1 y2 y3 z0 z1 z2 z3:=by
 obtain⟨⟨L,rfl⟩,⟨h1,h2⟩,⟨h3,h4⟩,h5⟩:=f
 obtain⟨L',hL⟩:=hset_app L H i x (by omega)
 exact⟨⟨L',hL⟩,⟨by rw[hget_hset_ne (by omega)];exact h1,by rw[hget_hset_ne (by omega)];exact h2⟩,⟨by rw[hget_hset_ne (by omega)];exact h3,by rw[hget_hset_ne (by omega)];exact h4⟩,by rw[hget_hset_ne (by omega)];exact h5⟩
theorem RSt.glb {H h:Hp}{a b:IV}{x0 x1 x2 x3 y0 y1 y2 y3 z0 z1 z2 z3:Int} (f:RSt H h a b x0 x1 x2 x3 y0 y1 y2 y3 z0 z1 z2 z3) {o:EO} (g:Glb H) (e:ErrAt H o):Glb h∧ErrAt h o:=by
 obtain⟨⟨L,rfl⟩,_⟩:=f
 exact⟨glb_app L g,err_app L e⟩
theorem sum_short (op:Int→Int→Int) (a b c d:List UInt8):∃ s t e,opQ (sumD op) errR a b c d=.tup [(.agg [.s s,.s t]),.i .i64 e]∧Short s∧Short t:=by
 have s0:Short []:=by unfold Short;simp
 unfold opQ
 split
 ·unfold sumD
  split
  ·unfold two
   split
   ·rename_i hf
    unfold makeD
    split
    ·exact⟨_,_,_,rfl,s0,s0⟩
    ·rename_i h0
     have:=divInt_fits hf.1 hf.2 h0
     exact⟨_,_,_,rfl,txt_short this.1,txt_short this.2⟩
   ·exact⟨_,_,_,rfl,s0,s0⟩
  ·exact⟨_,_,_,rfl,s0,s0⟩
 ·exact⟨_,_,_,rfl,s0,s0⟩
theorem ivs_q {p q:Rat} (f1:RFits p) (f2:RFits q):IVS (qV p q):=⟨⟨txt_short f1.1,txt_short f1.2⟩,txt_short f2.1,txt_short f2.2⟩
theorem ref_rest {H h:Hp}{o:EO} (g:Glb H) (e:ErrAt H o) {a b w:IV}{x0 x1 x2 x3 y0 y1 y2 y3 z0 z1 z2 z3 n:Int} (hn:I64 n) (hx0:I64 x0) (hx1:I64 x1) (hx2:I64 x2) (hx3:I64 x3) (hy0:I64 y0) (hy1:I64 y1) (hy2:I64 y2) (hy3:I64 y3) (f:RSt H h a b x0 x1 x2 x3 y0 y1 y2 y3 z0 z1 z2 z3) (sa:IVS a) (sb:IVS b) (sw:IVS w) {i:Nat} (gw:hget h i=some (.box 29 [.d (.s w.a),.d (.s w.b),.d (.s w.c),.d (.s w.d)])) {E:En}
 (q8:∀ p q r s:List UInt8,callV cS false (fnV 19) [.d (.agg [.i .i64 x0,.i .i64 x1,.i .i64 x2,.i .i64 x3])] h=some (.val (.d (.agg [.s p,.s q,.s r,.s s])),h)→evI cS (nthC 8 b6) none E h=some (.nor,[(5,.d (.i .i64 n)),(6,.p H.length 0),(7,.p (H.length+1) 0),(9,.p (H.length+3) 0),(13,.d (.b true)),(15,.p i 0),(18,.p h.length 0)],.box 29 [.d (.s p),.d (.s q),.d (.s r),.d (.s s)]::h)) :
 ∃ L,evI cS (.seq (nthC 8 b6) (.seq (nthC 9 b6) (.seq (.seq (nthC 0 (nthC 10 b6)) (.block 0 (.loop l6_2))) (tlC 11 b6)))) none E h=some (.rt,[(12,.d (.b true))],L++H):=by
 have ma:=Made_ok x0 x1 x2 x3 hx0 hx1 hx2 hx3
 have mb:=Made_ok y0 y1 y2 y3 hy0 hy1 hy2 hy3
 obtain⟨sx1,sx2⟩:=made_sm x0 x1 x2 x3
 obtain⟨sy1,sy2⟩:=made_sm y0 y1 y2 y3
 have sf:∀ {q:Rat},q.num.natAbs≤999∧q.den≤60→RFits q:=fun h=>Sm.fits (by simp only[Sm,Bool.and_eq_true,decide_eq_true_eq];omega)
 have sc:IVS (qV (madeLo x0 x1 x2 x3) (madeHi x0 x1 x2 x3)):=ivs_q (sf sx1) (sf sx2)
 have sd:IVS (qV (madeLo y0 y1 y2 y3) (madeHi y0 y1 y2 y3)):=ivs_q (sf sy1) (sf sy2)
 have ma':=fun h=>ma h
 simp only[← qV_D] at ma mb
 generalize qV (madeLo x0 x1 x2 x3) (madeHi x0 x1 x2 x3)=c at *
 generalize qV (madeLo y0 y1 y2 y3) (madeHi y0 y1 y2 y3)=d at *
 have q8':=q8 c.a c.b c.c c.d (ma h)
 obtain⟨h1,e1⟩:∃ h1:Hp,h1=.box 29 [.d (.s c.a),.d (.s c.b),.d (.s c.c),.d (.s c.d)]::h:=⟨_,rfl⟩
 rw[← e1] at q8'
 have f1:=f.cons (.box 29 [.d (.s c.a),.d (.s c.b),.d (.s c.c),.d (.s c.d)])
 rw[← e1] at f1
 have q9:=ref_h9 f1.2.2.1.2 (mb h1) (.d (.i .i64 n)) (.p H.length 0) (.p (H.length+1) 0) (.d (.b true)) (.p i 0) (.p h.length 0)
 obtain⟨h2,e2⟩:∃ h2:Hp,h2=.box 29 [.d (.s d.a),.d (.s d.b),.d (.s d.c),.d (.s d.d)]::h1:=⟨_,rfl⟩
 have q9':evI cS (nthC 9 b6) none [(5,.d (.i .i64 n)),(6,.p H.length 0),(7,.p (H.length+1) 0),(9,.p (H.length+3) 0),(13,.d (.b true)),(15,.p i 0),(18,.p h.length 0)] h1=some (.nor,[(5,.d (.i .i64 n)),(6,.p H.length 0),(7,.p (H.length+1) 0),(13,.d (.b true)),(15,.p i 0),(18,.p h.length 0),(19,.p h1.length 0)],h2):=by rw[e2];exact q9
 have f2:=f1.cons (.box 29 [.d (.s d.a),.d (.s d.b),.d (.s d.c),.d (.s d.d)])
 rw[← e2] at f2
 obtain⟨g2,r2⟩:=f2.glb g e
 have q10:=ref_h10 f2.2.1.1 f2.2.1.2 (hget_up e2 (hget_top e1)) (hget_top e2) (hget_up e2 (hget_up e1 gw)) (.d (.i .i64 n)) (.d (.b true))
 have hz:allCellsD 8 (refPS a b c d w)=true:=by simp[refPS,allCellsD,D.cells,scDs,scD]
 have hP:∀ k,k<6→∃ x y,(IVS x∧IVS y)∧(refPS a b c d w)[k]? = some (.agg [.s x.a,.s x.b,.s x.c,.s x.d,.s y.a,.s y.b,.s y.c,.s y.d]):=by
  intro k hk
  match k,hk with
  | 0,_=>exact⟨a,b,⟨sa,sb⟩,rfl⟩
  | 1,_=>exact⟨c,d,⟨sc,sd⟩,rfl⟩
  | 2,_=>exact⟨a,c,⟨sa,sc⟩,rfl⟩
  | 3,_=>exact⟨w,c,⟨sw,sc⟩,rfl⟩
  | 4,_=>exact⟨c,w,⟨sc,sw⟩,rfl⟩
  | 5,_=>exact⟨w,w,⟨sw,sw⟩,rfl⟩
 obtain⟨L,q11⟩:=ref_pairs hn rfl hz hP (.d (.b true)) 6 0 rfl h2 g2 r2
 rw[show ((0:Nat):Int)=0 from rfl] at q11
 obtain⟨L2,hL⟩:=f2.1
 refine⟨L++L2,?_⟩
 have q12:=ref_h11 (H:=L++h2) (.d (.i .i64 n)) (.d (.ls (refPS a b c d w))) (.d (.i .i64 6)) (.d (.i .i64 6)) (.d (.b false))
 rw[evI_seq,q8'];simp only[thenR]
 rw[evI_seq,q9'];simp only[thenR]
 rw[evI_seq,evI_seq,q10];simp only[thenR]
 rw[evI_block,q11];simp only[blockR,if_true]
 rw[q12,hL,List.append_assoc]
set_option maxHeartbeats 1000000 in
theorem Ref_ok (a b:IV) (x0 x1 x2 x3 y0 y1 y2 y3 z0 z1 z2 z3 n:Int) (laa:a.a.length<9223372036854775808) (lab:a.b.length<9223372036854775808) (lac:a.c.length<9223372036854775808) (lad:a.d.length<9223372036854775808) (lba:b.a.length<9223372036854775808) (lbb:b.b.length<9223372036854775808) (lbc:b.c.length<9223372036854775808) (lbd:b.d.length<9223372036854775808) (hx0:I64 x0) (hx1:I64 x1) (hx2:I64 x2) (hx3:I64 x3) (hy0:I64 y0) (hy1:I64 y1) (hy2:I64 y2) (hy3:I64 y3) (hz0:I64 z0) (hz1:I64 z1) (hz2:I64 z2) (hz3:I64 z3) (hn:I64 n) {H:Hp}{o:EO} (hG:Glb H) (hE:ErrAt H o) :
 callV cS false (fnV 6) [.d (.agg [.s a.a,.s a.b,.s a.c,.s a.d]),.d (.agg [.s b.a,.s b.b,.s b.c,.s b.d]),.d (.agg [.i .i64 x0,.i .i64 x1,.i .i64 x2,.i .i64 x3]),.d (.agg [.i .i64 y0,.i .i64 y1,.i .i64 y2,.i .i64 y3]),.d (.agg [.i .i64 z0,.i .i64 z1,.i .i64 z2,.i .i64 z3]),.d (.i .i64 n)] H=some (.val (.d (.b true)),H):=by
 rw[callV_fn (sf:=c6) rfl rfl rfl rfl]
 have hb:∀ (E:En) (h:Hp),evI cS b6 none E h=evI cS (.seq (nthC 0 b6) (.seq (nthC 1 b6) (.seq (nthC 2 b6) (.seq (nthC 3 b6) (.seq (nthC 4 b6) (.seq (nthC 5 b6) (.seq (nthC 6 b6) (.seq (nthC 7 b6) (.seq (nthC 8 b6) (.seq (nthC 9 b6) (.seq (.seq (nthC 0 (nthC 10 b6)) (.block 0 (.loop l6_2))) (tlC 11 b6)))))))))))) none E h:=fun _ _=>rfl
 obtain⟨hA,eA⟩:∃ h:Hp,h=.box 22 [.d (.i .i64 z0),.d (.i .i64 z1),.d (.i .i64 z2),.d (.i .i64 z3)]::.box 22 [.d (.i .i64 y0),.d (.i .i64 y1),.d (.i .i64 y2),.d (.i .i64 y3)]::.box 22 [.d (.i .i64 x0),.d (.i .i64 x1),.d (.i .i64 x2),.d (.i .i64 x3)]::.box 29 [.d (.s b.a),.d (.s b.b),.d (.s b.c),.d (.s b.d)]::.box 29 [.d (.s a.a),.d (.s a.b),.d (.s a.c),.d (.s a.d)]::H:=⟨_,rfl⟩
 have q0:=ref_h0 H a b x0 x1 x2 x3 y0 y1 y2 y3 z0 z1 z2 z3 n
 rw[← eA] at q0
 have fA:RSt H hA a b x0 x1 x2 x3 y0 y1 y2 y3 z0 z1 z2 z3:=by
  rw[eA]
  exact⟨⟨_::_::_::_::_::[],rfl⟩,⟨hget_up rfl (hget_up rfl (hget_up rfl (hget_up rfl (hget_top rfl)))),hget_up rfl (hget_up rfl (hget_up rfl (hget_top rfl)))⟩,⟨hget_up rfl (hget_up rfl (hget_top rfl)),hget_up rfl (hget_top rfl)⟩,hget_top rfl⟩
 obtain⟨gA,rA⟩:=fA.glb hG hE
 have q1:=ref_h1 gA rA (.d (.i .i64 n)) (.p H.length 0) (.p (H.length+1) 0) (.p (H.length+2) 0) (.p (H.length+3) 0) (.p (H.length+4) 0)
 have q2:=ref_h2 fA.2.1.1 (short_ok a laa lab lac lad hA) (.d (.i .i64 n)) (.p (H.length+1) 0) (.p (H.length+2) 0) (.p (H.length+3) 0) (.p (H.length+4) 0) (.d (.b true))
 obtain⟨hB,eB⟩:∃ h:Hp,h=hset hA H.length (.box 29 [.d (.s a.cut.a),.d (.s a.cut.b),.d (.s a.cut.c),.d (.s a.cut.d)]):=⟨_,rfl⟩
 rw[← eB] at q2
 have tB:hget hB (H.length+1)=some (.box 29 [.d (.s b.a),.d (.s b.b),.d (.s b.c),.d (.s b.d)]):=by rw[eB,hget_hset_ne (by omega)];exact fA.2.1.2
 have q3:=ref_h3 tB (short_ok b lba lbb lbc lbd hB) (.d (.i .i64 n)) (.p H.length 0) (.p (H.length+2) 0) (.p (H.length+3) 0) (.p (H.length+4) 0) (.d (.b true))
 obtain⟨hC,eC⟩:∃ h:Hp,h=hset hB (H.length+1) (.box 29 [.d (.s b.cut.a),.d (.s b.cut.b),.d (.s b.cut.c),.d (.s b.cut.d)]):=⟨_,rfl⟩
 rw[← eC] at q3
 have fC:RSt H hC a.cut b.cut x0 x1 x2 x3 y0 y1 y2 y3 z0 z1 z2 z3:=by
  obtain⟨⟨L,eL⟩,⟨h1,h2⟩,⟨h3,h4⟩,h5⟩:=fA
  have l1:=hget_lt' h1
  obtain⟨L1,k1⟩:=hset_app L H H.length (.box 29 [.d (.s a.cut.a),.d (.s a.cut.b),.d (.s a.cut.c),.d (.s a.cut.d)]) (by omega)
  obtain⟨L2,k2⟩:=hset_app L1 H (H.length+1) (.box 29 [.d (.s b.cut.a),.d (.s b.cut.b),.d (.s b.cut.c),.d (.s b.cut.d)]) (by omega)
  refine⟨⟨L2,by rw[eC,eB,eL,k1,k2]⟩,⟨?_,?_⟩,⟨?_,?_⟩,?_⟩
  ·rw[eC,hget_hset_ne (by omega),eB];exact hget_hset l1
  ·rw[eC];exact hget_hset (hget_lt' tB)
  ·rw[eC,hget_hset_ne (by omega),eB,hget_hset_ne (by omega)];exact h3
  ·rw[eC,hget_hset_ne (by omega),eB,hget_hset_ne (by omega)];exact h4
  ·rw[eC,hget_hset_ne (by omega),eB,hget_hset_ne (by omega)];exact h5
 obtain⟨p,sp,lp⟩:=Long_ok z0 z1 z2 z3 hz0 hz1 hz2 hz3
 have fp:RFits p:=sp.fits
 simp only[dR] at lp
 have s1:=txt_short fp.1
 have s2:=txt_short fp.2
 generalize txt p.num=s at *
 generalize txt p.den=t at *
 have q4:=ref_h4 fC.2.2.2 (lp hC) (.d (.i .i64 n)) (.p H.length 0) (.p (H.length+1) 0) (.p (H.length+2) 0) (.p (H.length+3) 0) (.d (.b true))
 obtain⟨hD,eD⟩:∃ h:Hp,h=.box 26 [.d (.s s),.d (.s t)]::hC:=⟨_,rfl⟩
 rw[← eD] at q4
 have fD:=fC.cons (.box 26 [.d (.s s),.d (.s t)])
 rw[← eD] at fD
 have q5:=ref_h5 (hget_top eD) (.d (.i .i64 n)) (.p H.length 0) (.p (H.length+1) 0) (.p (H.length+2) 0) (.p (H.length+3) 0) (.d (.b true))
 obtain⟨hF,eF⟩:∃ h:Hp,h=.box 29 [.d (.s s),.d (.s t),.d (.s s),.d (.s t)]::hD:=⟨_,rfl⟩
 rw[← eF] at q5
 have fF:=fD.cons (.box 29 [.d (.s s),.d (.s t),.d (.s s),.d (.s t)])
 rw[← eF] at fF
 have hr:=ratio_q 1 3 (Rat.divInt 1 3) (by unfold I64;omega) (by unfold I64;omega) (by omega) rfl hF
 have f3:RFits (Rat.divInt 1 3):=divInt_fits fits_one (by unfold Fits;simp) (by omega)
 have r1:=txt_short f3.1
 have r2:=txt_short f3.2
 generalize txt (Rat.divInt 1 3).num=u1 at *
 generalize txt ((Rat.divInt 1 3).den:Int)=u2 at *
 obtain⟨u,v,e,hs,su,sv⟩:=sum_short (fun x y=>x-y) s t u1 u2
 have S:=Sub4_ok s t u1 u2 s1 s2 r1 r2 hF
 rw[hs] at S
 have q6:=ref_h6 (hget_up eF (hget_top eD)) hr S (.d (.i .i64 n)) (.p H.length 0) (.p (H.length+1) 0) (.p (H.length+2) 0) (.p (H.length+3) 0) (.d (.b true)) (.p hD.length 0)
 obtain⟨hI,eI⟩:∃ h:Hp,h=.box 26 [.d (.s u),.d (.s v)]::hF:=⟨_,rfl⟩
 rw[← eI] at q6
 have fI:=fF.cons (.box 26 [.d (.s u),.d (.s v)])
 rw[← eI] at fI
 have v1:=Valid4_ok u v su sv hI
 have gw:=hget_up eI (hget_top eF)
 have gj:=hget_top eI
 have hlen:H.length+4<hC.length:=hget_lt' fC.2.2.2
 have hlD:hD.length=hC.length+1:=by rw[eD];rfl
 have hev:∃ L,evI cS b6 none (enter [.d (.agg [.s a.a,.s a.b,.s a.c,.s a.d]),.d (.agg [.s b.a,.s b.b,.s b.c,.s b.d]),.d (.agg [.i .i64 x0,.i .i64 x1,.i .i64 x2,.i .i64 x3]),.d (.agg [.i .i64 y0,.i .i64 y1,.i .i64 y2,.i .i64 y3]),.d (.agg [.i .i64 z0,.i .i64 z1,.i .i64 z2,.i .i64 z3]),.d (.i .i64 n)]) H=some (.rt,[(12,.d (.b true))],L++H):=by
  have hen:enter [.d (.agg [.s a.a,.s a.b,.s a.c,.s a.d]),.d (.agg [.s b.a,.s b.b,.s b.c,.s b.d]),.d (.agg [.i .i64 x0,.i .i64 x1,.i .i64 x2,.i .i64 x3]),.d (.agg [.i .i64 y0,.i .i64 y1,.i .i64 y2,.i .i64 y3]),.d (.agg [.i .i64 z0,.i .i64 z1,.i .i64 z2,.i .i64 z3]),.d (.i .i64 n)]=[(0,.d (.agg [.s a.a,.s a.b,.s a.c,.s a.d])),(1,.d (.agg [.s b.a,.s b.b,.s b.c,.s b.d])),(2,.d (.agg [.i .i64 x0,.i .i64 x1,.i .i64 x2,.i .i64 x3])),(3,.d (.agg [.i .i64 y0,.i .i64 y1,.i .i64 y2,.i .i64 y3])),(4,.d (.agg [.i .i64 z0,.i .i64 z1,.i .i64 z2,.i .i64 z3])),(5,.d (.i .i64 n))]:=rfl
  have key:∀ (R:Option (Ex×En×Hp)),thenR (evI cS (nthC 7 b6) none [(5,.d (.i .i64 n)),(6,.p H.length 0),(7,.p (H.length+1) 0),(8,.p (H.length+2) 0),(9,.p (H.length+3) 0),(13,.d (.b true)),(15,.p hD.length 0),(16,.p hF.length 0)] hI) (fun e h=>evI cS (.seq (nthC 8 b6) (.seq (nthC 9 b6) (.seq (.seq (nthC 0 (nthC 10 b6)) (.block 0 (.loop l6_2))) (tlC 11 b6)))) none e h)=R→evI cS b6 none (enter [.d (.agg [.s a.a,.s a.b,.s a.c,.s a.d]),.d (.agg [.s b.a,.s b.b,.s b.c,.s b.d]),.d (.agg [.i .i64 x0,.i .i64 x1,.i .i64 x2,.i .i64 x3]),.d (.agg [.i .i64 y0,.i .i64 y1,.i .i64 y2,.i .i64 y3]),.d (.agg [.i .i64 z0,.i .i64 z1,.i .i64 z2,.i .i64 z3]),.d (.i .i64 n)]) H=R:=by
   intro R hR
   rw[hen,hb,evI_seq,q0];simp only[thenR]
   rw[evI_seq,q1];simp only[thenR]
   rw[evI_seq,q2];simp only[thenR]
   rw[evI_seq,q3];simp only[thenR]
   rw[evI_seq,q4];simp only[thenR]
   rw[evI_seq,q5];simp only[thenR]
   rw[evI_seq,q6];simp only[thenR]
   rw[evI_seq]
   exact hR
  cases hw:(RQ u v).isSome with
  | true =>
    have q7:=ref_h7 gw gj v1 hw (.d (.i .i64 n)) (.p H.length 0) (.p (H.length+1) 0) (.p (H.length+2) 0) (.p (H.length+3) 0) (.d (.b true))
    have fJ:=fI.put (i:=hD.length) (by omega) (.box 29 [.d (.s u),.d (.s v),.d (.s s),.d (.s t)])
    have gW:=hget_hset (x:=.box 29 [.d (.s u),.d (.s v),.d (.s s),.d (.s t)]) (hget_lt' gw)
    obtain⟨L,hL⟩:=ref_rest (w:=⟨u,v,s,t⟩) hG hE hn hx0 hx1 hx2 hx3 hy0 hy1 hy2 hy3 fJ (cut_short a) (cut_short b) ⟨⟨su,sv⟩,s1,s2⟩ gW (fun p q r s' hc=>ref_h8 fJ.2.2.1.1 hc (.d (.i .i64 n)) (.p H.length 0) (.p (H.length+1) 0) (.p (H.length+3) 0) (.d (.b true)) (.p hD.length 0))
    refine⟨L,key _ ?_⟩
    rw[q7];simp only[thenR]
    exact hL
  | false =>
    have q7:=ref_h7n gw gj v1 hw (.d (.i .i64 n)) (.p H.length 0) (.p (H.length+1) 0) (.p (H.length+2) 0) (.p (H.length+3) 0) (.d (.b true))
    obtain⟨L,hL⟩:=ref_rest (w:=⟨s,t,s,t⟩) hG hE hn hx0 hx1 hx2 hx3 hy0 hy1 hy2 hy3 fI (cut_short a) (cut_short b) ⟨⟨s1,s2⟩,s1,s2⟩ gw (fun p q r s' hc=>ref_h8n fI.2.2.1.1 hc (.d (.i .i64 n)) (.p H.length 0) (.p (H.length+1) 0) (.p (H.length+3) 0) (.d (.b true)) (.p hD.length 0) (.p hF.length 0) (.d (.b false)))
    refine⟨L,key _ ?_⟩
    rw[q7];simp only[thenR]
    exact hL
 obtain⟨L,hev⟩:=hev
 have hbd:c6.body=b6:=rfl
 simp only[List.map_nil,List.nil_append,List.append_nil,hbd,hev]
 have:=fin_app L H (.b true)
 simp only[c6,outOf,resAll,resOf,resV,eget,mkTup]
 simpa using this
end
section
open Go Num
theorem trod_text {H:Type}{enc:TypeId×Value→H}{P:Program}{w:World}{base:Nat}{sp:Nat→Bool}{held:Bool}{fuel:Nat}{t:TypeId}{c:Value}{x:DataW H×List MemPlace}
 (ht:P.underlying t=some .string) (h:DataW.trod enc P w base sp held fuel t [c]=some x):∃ l:List UInt8,c=.string ⟨l.toArray⟩∧l.length<9223372036854775808:=by
 cases fuel with
 | zero=>simp[DataW.trod] at h
 | succ fuel =>
   simp only[DataW.trod,ht] at h
   cases c with
   | string s =>
     simp only at h
     split at h
     ·rename_i hs
      refine⟨s.data.toList,by simp,?_⟩
      have e:s.data.toList.length=s.size:=by rw[Array.length_toList];rfl
      rw[e]
      unfold maxLen at hs
      omega
     ·cases h
   | _=>simp at h
theorem trod_two {H:Type}{enc:TypeId×Value→H}{P:Program}{w:World}{base:Nat}{sp:Nat→Bool}{held:Bool}{fuel:Nat}{t:TypeId}{f g:Field}{cs:List Value}{x:DataW H×List MemPlace}
 (ht:P.underlying t=some (.struct #[f,g])) (h:DataW.trod enc P w base sp held fuel t cs=some x):∃ k y z,DataW.trod enc P w base sp held k f.type ((cs.drop f.offset).take (P.cellsOf f.type))=some y∧DataW.trod enc P w base sp held k g.type ((cs.drop g.offset).take (P.cellsOf g.type))=some z:=by
 cases fuel with
 | zero=>simp[DataW.trod] at h
 | succ fuel =>
   simp only[DataW.trod,ht] at h
   split at h
   ·obtain⟨xs,hm,_⟩:=Option.map_eq_some_iff.1 h
    simp only[List.mapM_cons,bind,Option.bind_eq_some_iff] at hm
    obtain⟨y,hy,xs',⟨z,hz,_⟩,_⟩:=hm
    exact⟨fuel,y,z,hy,hz⟩
   ·cases h
def IVL (x:IV):Prop:=(x.a.length<9223372036854775808∧x.b.length<9223372036854775808)∧x.c.length<9223372036854775808∧x.d.length<9223372036854775808
theorem ivl_arg {H:Type}{enc:TypeId×Value→H}{W w:World}{r:Reach}{b0 base:Nat}{sp:Nat→Bool}{held:Bool}{v:Value}{d:DataW H}{ps:List MemPlace}
 (hval:Value.okWide Tryz.prog W r b0 29 v) (hd:DataW.Trod enc Tryz.prog w base sp held 29 v d ps):∃ x:IV,v=.agg #[.string ⟨x.a.toArray⟩,.string ⟨x.b.toArray⟩,.string ⟨x.c.toArray⟩,.string ⟨x.d.toArray⟩]∧IVL x:=by
 simp only[Value.okWide,Tryz.underlying29] at hval
 obtain⟨cs,rfl,hsz,_⟩:=hval
 obtain⟨fuel,hf⟩:=hd
 simp only[Value.cells] at hf
 have e4:Tryz.prog.cellsOf 29=4:=by kernel_rfl
 have e2:Tryz.prog.cellsOf 26=2:=by kernel_rfl
 have e1:Tryz.prog.cellsOf 9=1:=by kernel_rfl
 rw[e4] at hsz
 obtain⟨c0,c1,c2,c3,hl⟩:∃ c0 c1 c2 c3,cs = #[c0,c1,c2,c3]:=by
  obtain⟨l⟩:=cs
  match l,hsz with
  | [c0,c1,c2,c3],_=>exact⟨c0,c1,c2,c3,rfl⟩
 subst hl
 obtain⟨k,y,z,hy,hz⟩:=trod_two Tryz.underlying29 hf
 simp only[e2,List.drop_zero,List.drop_succ_cons,List.take_succ_cons,List.take_zero] at hy hz
 obtain⟨k1,y1,z1,hy1,hz1⟩:=trod_two Tryz.underlying26 hy
 obtain⟨k2,y2,z2,hy2,hz2⟩:=trod_two Tryz.underlying26 hz
 simp only[e1,List.drop_zero,List.drop_succ_cons,List.take_succ_cons,List.take_zero] at hy1 hz1 hy2 hz2
 obtain⟨a,rfl,ha⟩:=trod_text Tryz.underlying9 hy1
 obtain⟨b,rfl,hb⟩:=trod_text Tryz.underlying9 hz1
 obtain⟨c,rfl,hc⟩:=trod_text Tryz.underlying9 hy2
 obtain⟨e,rfl,he⟩:=trod_text Tryz.underlying9 hz2
 exact⟨⟨a,b,c,e⟩,rfl,⟨ha,hb⟩,hc,he⟩
theorem HD_ivl {O:Bs}{w:World} (x:IV):HD O w x.D (.agg #[.string ⟨x.a.toArray⟩,.string ⟨x.b.toArray⟩,.string ⟨x.c.toArray⟩,.string ⟨x.d.toArray⟩]):=by
 refine .agg _ _ (by simp) fun j v hv=>?_
 match j with
 | 0=>cases hv;exact .s _
 | 1=>cases hv;exact .s _
 | 2=>cases hv;exact .s _
 | 3=>cases hv;exact .s _
 | j+4=>simp at hv
end
end Go.Proofs.YtmiioebapckcoaaGreatDoor
