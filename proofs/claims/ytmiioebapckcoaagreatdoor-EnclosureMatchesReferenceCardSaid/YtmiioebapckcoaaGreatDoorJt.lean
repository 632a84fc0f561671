/- Part 20 of a proof: the small semantics, its soundness, the functions of the program in it, and the law. -/
import Derived.Test.YtmiioebapckcoaaGreatDoorJs
set_option linter.unusedVariables false
set_option linter.unusedSimpArgs false
set_option maxRecDepth 4000
namespace Go.Proofs.YtmiioebapckcoaaGreatDoor
section
open Go Num
theorem four_hd {H:Hp}{k:Int} (hk:k<4) (v2 v3 v4 v6 v8:V):evI cS (nthC 0 l134_0) none [(2,v2),(3,v3),(4,v4),(6,v6),(8,v8),(9,.d (.i .i64 k))] H=some (.nor,[(2,v2),(3,v3),(4,v4),(6,v6),(8,v8),(9,.d (.i .i64 k)),(16,.d (.b true))],H):=by
 simp[nthC,tlC,unB,l134_0,put,eset,eget,D.cells,V.cells,allD,hget,hset,fz,zC,zN,setParts,chunk1,allCellsD,eqKs,eqCell,hk]
theorem four_hf {H:Hp} (v2 v3 v4 v6 v8:V):evI cS (nthC 0 l134_0) none [(2,v2),(3,v3),(4,v4),(6,v6),(8,v8),(9,.d (.i .i64 4))] H=some (.ex 0,[(2,v2),(3,v3),(4,v4),(6,v6),(8,v8),(9,.d (.i .i64 4)),(16,.d (.b false))],H):=by
 simp[nthC,tlC,unB,l134_0,put,eset,eget,D.cells,V.cells,allD,hget,hset,fz,zC,zN,setParts,chunk1,allCellsD,eqKs,eqCell]
theorem four_p0 {H:Hp}{i:Nat}{k:Int}{a b c d x y:List UInt8} (g:hget H i=some (.box 29 [.d (.s a),.d (.s b),.d (.s c),.d (.s d)])) (hs:((k=0∨k=1)∧x=a∧y=b)∨((k=2∨k=3)∧x=c∧y=d)) (v2 v4 v6 v8 v16:V):evI cS (nthC 0 (unB (nthC 1 l134_0))) none [(2,v2),(3,.p i 0),(4,v4),(6,v6),(8,v8),(9,.d (.i .i64 k)),(16,v16)] H=some (.nor,[(2,v2),(3,.p i 0),(4,v4),(6,v6),(8,v8),(9,.d (.i .i64 k)),(10,.p H.length 0)],(.box 26 [.d (.s x),.d (.s y)]::H)):=by
 rcases hs with ⟨rfl | rfl,rfl,rfl⟩ | ⟨rfl | rfl,rfl,rfl⟩<;>simp[nthC,tlC,unB,l134_0,put,eset,eget,D.cells,V.cells,allD,hget,hset,fz,zC,zN,setParts,chunk1,allCellsD,eqKs,eqCell,g,wrl]
theorem four_p1 {H:Hp}{i:Nat}{k:Int}{a b c d x y:List UInt8} (g:hget H i=some (.box 29 [.d (.s a),.d (.s b),.d (.s c),.d (.s d)])) (hs:((k=0∨k=2)∧x=a∧y=b)∨((k=1∨k=3)∧x=c∧y=d)) (v2 v3 v6 v8 v10:V):evI cS (nthC 1 (unB (nthC 1 l134_0))) none [(2,v2),(3,v3),(4,.p i 0),(6,v6),(8,v8),(9,.d (.i .i64 k)),(10,v10)] H=some (.nor,[(2,v2),(3,v3),(4,.p i 0),(6,v6),(8,v8),(9,.d (.i .i64 k)),(10,v10),(11,.p H.length 0)],(.box 26 [.d (.s x),.d (.s y)]::H)):=by
 rcases hs with ⟨rfl | rfl,rfl,rfl⟩ | ⟨rfl | rfl,rfl,rfl⟩<;>simp[nthC,tlC,unB,l134_0,put,eset,eget,D.cells,V.cells,allD,hget,hset,fz,zC,zN,setParts,chunk1,allCellsD,eqKs,eqCell,g,wrl]
theorem four_p2 {H:Hp}{i j:Nat}{e:Int}{a b c d x y:List UInt8} (gi:hget H i=some (.box 26 [.d (.s a),.d (.s b)])) (gj:hget H j=some (.box 26 [.d (.s c),.d (.s d)])) (hc:callV cS false (fnV 63) [.d (.agg [.s a,.s b]),.d (.agg [.s c,.s d])] H=some (.val (.d (.tup [(.agg [.s x,.s y]),.i .i64 e])),H)) (v2 v3 v4 v6 v8 v9:V):evI cS (nthC 2 (unB (nthC 1 l134_0))) none [(2,v2),(3,v3),(4,v4),(6,v6),(8,v8),(9,v9),(10,.p i 0),(11,.p j 0)] H=some (.nor,[(2,v2),(3,v3),(4,v4),(6,v6),(8,v8),(9,v9),(10,.p i 0),(11,.p j 0),(12,.p H.length 0),(13,.d (.i .i64 e))],(.box 26 [.d (.s x),.d (.s y)]::H)):=by
 simp[nthC,tlC,unB,l134_0,put,eset,eget,D.cells,V.cells,allD,hget,hset,fz,zC,zN,setParts,chunk1,allCellsD,eqKs,eqCell,gi,gj,hc]
theorem four_p3m {H:Hp} (v3 v4 v6 v8 v9 v10 v11 v12 v13:V):evI cS (nthC 3 (unB (nthC 1 l134_0))) none [(2,.d (.b false)),(3,v3),(4,v4),(6,v6),(8,v8),(9,v9),(10,v10),(11,v11),(12,v12),(13,v13)] H=some (.nor,[(2,.d (.b false)),(3,v3),(4,v4),(6,v6),(8,v8),(9,v9),(10,v10),(11,v11),(12,v12),(13,v13),(43,.d (.b false))],H):=by
 simp[nthC,tlC,unB,l134_0,put,eset,eget,D.cells,V.cells,allD,hget,hset,fz,zC,zN,setParts,chunk1,allCellsD,eqKs,eqCell]
theorem four_p3d {H:Hp}{i j:Nat}{e:Int}{a b c d x y s t:List UInt8} (gi:hget H i=some (.box 26 [.d (.s a),.d (.s b)])) (gj:hget H j=some (.box 26 [.d (.s c),.d (.s d)])) (hc:callV cS false (fnV 172) [.d (.agg [.s a,.s b]),.d (.agg [.s c,.s d])] (.box 26 [.d (.s s),.d (.s t)]::H)=some (.val (.d (.tup [(.agg [.s x,.s y]),.i .i64 e])),(.box 26 [.d (.s s),.d (.s t)]::H))) (v3 v4 v6 v8 v9 v13:V):evI cS (nthC 3 (unB (nthC 1 l134_0))) none [(2,.d (.b true)),(3,v3),(4,v4),(6,v6),(8,v8),(9,v9),(10,.p i 0),(11,.p j 0),(12,.p H.length 0),(13,v13)] (.box 26 [.d (.s s),.d (.s t)]::H)=some (.nor,[(2,.d (.b true)),(3,v3),(4,v4),(6,v6),(8,v8),(9,v9),(12,.p H.length 0),(13,.d (.i .i64 e))],(.box 26 [.d (.s x),.d (.s y)]::H)):=by
 have li:=hget_lt' gi
 have lj:=hget_lt' gj
 have ni:¬ i=H.length:=by omega
 have nj:¬ j=H.length:=by omega
 simp[nthC,tlC,unB,l134_0,put,eset,eget,D.cells,V.cells,allD,hget,hset,fz,zC,zN,setParts,chunk1,allCellsD,eqKs,eqCell,gi,gj,ni,nj,hc]
theorem four_p4m {H:Hp} (v2 v3 v4 v6 v8 v9 v10 v11 v12 v43:V):evI cS (nthC 4 (unB (nthC 1 l134_0))) none [(2,v2),(3,v3),(4,v4),(6,v6),(8,v8),(9,v9),(10,v10),(11,v11),(12,v12),(13,.d (.i .i64 0)),(43,v43)] H=some (.nor,[(2,v2),(3,v3),(4,v4),(6,v6),(8,v8),(9,v9),(12,v12),(51,.d (.b false))],H):=by
 simp[nthC,tlC,unB,l134_0,put,eset,eget,D.cells,V.cells,allD,hget,hset,fz,zC,zN,setParts,chunk1,allCellsD,eqKs,eqCell]
theorem four_e4m {H:Hp}{i:Nat}{e:Int} (he:e≠0) (g:hget H i=some (.box 29 [.d (.s []),.d (.s []),.d (.s []),.d (.s [])])) (v2 v3 v4 v8 v9 v10 v11 v12 v43:V):evI cS (nthC 4 (unB (nthC 1 l134_0))) none [(2,v2),(3,v3),(4,v4),(6,.p i 0),(8,v8),(9,v9),(10,v10),(11,v11),(12,v12),(13,.d (.i .i64 e)),(43,v43)] H=some (.rt,[(6,.p i 0),(7,.d (.i .i64 50))],H):=by
 have hb:(e==0)=false:=by rw[beq_eq_false_iff_ne];exact he
 simp[nthC,tlC,unB,l134_0,put,eset,eget,D.cells,V.cells,allD,hget,hset,fz,zC,zN,setParts,chunk1,allCellsD,eqKs,eqCell,he,hb,bne,g,hset_self g]
theorem four_p4d {H:Hp} (v2 v3 v4 v6 v8 v9 v12:V):evI cS (nthC 4 (unB (nthC 1 l134_0))) none [(2,v2),(3,v3),(4,v4),(6,v6),(8,v8),(9,v9),(12,v12),(13,.d (.i .i64 0))] H=some (.nor,[(2,v2),(3,v3),(4,v4),(6,v6),(8,v8),(9,v9),(12,v12),(51,.d (.b false))],H):=by
 simp[nthC,tlC,unB,l134_0,put,eset,eget,D.cells,V.cells,allD,hget,hset,fz,zC,zN,setParts,chunk1,allCellsD,eqKs,eqCell]
theorem four_e4d {H:Hp}{i:Nat}{e:Int} (he:e≠0) (g:hget H i=some (.box 29 [.d (.s []),.d (.s []),.d (.s []),.d (.s [])])) (v2 v3 v4 v8 v9 v12:V):evI cS (nthC 4 (unB (nthC 1 l134_0))) none [(2,v2),(3,v3),(4,v4),(6,.p i 0),(8,v8),(9,v9),(12,v12),(13,.d (.i .i64 e))] H=some (.rt,[(6,.p i 0),(7,.d (.i .i64 50))],H):=by
 have hb:(e==0)=false:=by rw[beq_eq_false_iff_ne];exact he
 simp[nthC,tlC,unB,l134_0,put,eset,eget,D.cells,V.cells,allD,hget,hset,fz,zC,zN,setParts,chunk1,allCellsD,eqKs,eqCell,he,hb,bne,g,hset_self g]
theorem four_p5A {H:Hp}{i j:Nat}{l0 l1 u0 u1 x y:List UInt8} (g8:hget H i=some (.box 29 [.d (.s l0),.d (.s l1),.d (.s u0),.d (.s u1)])) (g12:hget H j=some (.box 26 [.d (.s x),.d (.s y)])) (v2 v3 v4 v6 v51:V):evI cS (nthC 5 (unB (nthC 1 l134_0))) none [(2,v2),(3,v3),(4,v4),(6,v6),(8,.p i 0),(9,.d (.i .i64 0)),(12,.p j 0),(51,v51)] H=some (.nor,[(2,v2),(3,v3),(4,v4),(6,v6),(8,.p i 0),(9,.d (.i .i64 0)),(12,.p j 0)],(hset H i (.box 29 [.d (.s x),.d (.s y),.d (.s u0),.d (.s u1)]))):=by
 simp[nthC,tlC,unB,l134_0,put,eset,eget,D.cells,V.cells,allD,hget,hset,fz,zC,zN,setParts,chunk1,allCellsD,eqKs,eqCell,g8,g12]
theorem four_p5B {H:Hp}{i j:Nat}{k z:Int}{l0 l1 u0 u1 x y:List UInt8} (g8:hget H i=some (.box 29 [.d (.s l0),.d (.s l1),.d (.s u0),.d (.s u1)])) (g12:hget H j=some (.box 26 [.d (.s x),.d (.s y)])) (hk:k≠0) (hc:callV cS false (fnV 94) [.d (.agg [.s x,.s y]),.d (.agg [.s l0,.s l1])] H=some (.val (.d (.i .i64 z)),H)) (hz:z<0) (v2 v3 v4 v6 v51:V):evI cS (nthC 5 (unB (nthC 1 l134_0))) none [(2,v2),(3,v3),(4,v4),(6,v6),(8,.p i 0),(9,.d (.i .i64 k)),(12,.p j 0),(51,v51)] H=some (.nor,[(2,v2),(3,v3),(4,v4),(6,v6),(8,.p i 0),(9,.d (.i .i64 k)),(12,.p j 0)],(hset H i (.box 29 [.d (.s x),.d (.s y),.d (.s u0),.d (.s u1)]))):=by
 have hb:(k==0)=false:=by rw[beq_eq_false_iff_ne];exact hk
 simp[nthC,tlC,unB,l134_0,put,eset,eget,D.cells,V.cells,allD,hget,hset,fz,zC,zN,setParts,chunk1,allCellsD,eqKs,eqCell,g8,g12,hc,hk,hb,hz]
theorem four_p5C {H:Hp}{i j:Nat}{k z:Int}{l0 l1 u0 u1 x y:List UInt8} (g8:hget H i=some (.box 29 [.d (.s l0),.d (.s l1),.d (.s u0),.d (.s u1)])) (g12:hget H j=some (.box 26 [.d (.s x),.d (.s y)])) (hk:k≠0) (hc:callV cS false (fnV 94) [.d (.agg [.s x,.s y]),.d (.agg [.s l0,.s l1])] H=some (.val (.d (.i .i64 z)),H)) (hz:¬ z<0) (v2 v3 v4 v6 v51:V):evI cS (nthC 5 (unB (nthC 1 l134_0))) none [(2,v2),(3,v3),(4,v4),(6,v6),(8,.p i 0),(9,.d (.i .i64 k)),(12,.p j 0),(51,v51)] H=some (.nor,[(2,v2),(3,v3),(4,v4),(6,v6),(8,.p i 0),(9,.d (.i .i64 k)),(12,.p j 0),(61,.d (.b false))],H):=by
 have hb:(k==0)=false:=by rw[beq_eq_false_iff_ne];exact hk
 simp[nthC,tlC,unB,l134_0,put,eset,eget,D.cells,V.cells,allD,hget,hset,fz,zC,zN,setParts,chunk1,allCellsD,eqKs,eqCell,g8,g12,hc,hk,hb,hz]
theorem four_p6A {H:Hp}{i j:Nat}{l0 l1 u0 u1 x y:List UInt8} (g8:hget H i=some (.box 29 [.d (.s l0),.d (.s l1),.d (.s u0),.d (.s u1)])) (g12:hget H j=some (.box 26 [.d (.s x),.d (.s y)])) (v2 v3 v4 v6:V):evI cS (tlC 6 (unB (nthC 1 l134_0))) none [(2,v2),(3,v3),(4,v4),(6,v6),(8,.p i 0),(9,.d (.i .i64 0)),(12,.p j 0)] H=some (.nor,[(2,v2),(3,v3),(4,v4),(6,v6),(8,.p i 0),(9,.d (.i .i64 0))],(hset H i (.box 29 [.d (.s l0),.d (.s l1),.d (.s x),.d (.s y)]))):=by
 simp[nthC,tlC,unB,l134_0,put,eset,eget,D.cells,V.cells,allD,hget,hset,fz,zC,zN,setParts,chunk1,allCellsD,eqKs,eqCell,g8,g12]
theorem four_p6B {H:Hp}{i j:Nat}{k z:Int}{l0 l1 u0 u1 x y:List UInt8} (g8:hget H i=some (.box 29 [.d (.s l0),.d (.s l1),.d (.s u0),.d (.s u1)])) (g12:hget H j=some (.box 26 [.d (.s x),.d (.s y)])) (hk:k≠0) (hc:callV cS false (fnV 94) [.d (.agg [.s x,.s y]),.d (.agg [.s u0,.s u1])] H=some (.val (.d (.i .i64 z)),H)) (hz:0<z) (v2 v3 v4 v6:V):evI cS (tlC 6 (unB (nthC 1 l134_0))) none [(2,v2),(3,v3),(4,v4),(6,v6),(8,.p i 0),(9,.d (.i .i64 k)),(12,.p j 0)] H=some (.nor,[(2,v2),(3,v3),(4,v4),(6,v6),(8,.p i 0),(9,.d (.i .i64 k))],(hset H i (.box 29 [.d (.s l0),.d (.s l1),.d (.s x),.d (.s y)]))):=by
 have hb:(k==0)=false:=by rw[beq_eq_false_iff_ne];exact hk
 simp[nthC,tlC,unB,l134_0,put,eset,eget,D.cells,V.cells,allD,hget,hset,fz,zC,zN,setParts,chunk1,allCellsD,eqKs,eqCell,g8,g12,hc,hk,hb,hz]
theorem four_p6C {H:Hp}{i j:Nat}{k z:Int}{l0 l1 u0 u1 x y:List UInt8} (g8:hget H i=some (.box 29 [.d (.s l0),.d (.s l1),.d (.s u0),.d (.s u1)])) (g12:hget H j=some (.box 26 [.d (.s x),.d (.s y)])) (hk:k≠0) (hc:callV cS false (fnV 94) [.d (.agg [.s x,.s y]),.d (.agg [.s u0,.s u1])] H=some (.val (.d (.i .i64 z)),H)) (hz:¬ 0<z) (v2 v3 v4 v6:V):evI cS (tlC 6 (unB (nthC 1 l134_0))) none [(2,v2),(3,v3),(4,v4),(6,v6),(8,.p i 0),(9,.d (.i .i64 k)),(12,.p j 0)] H=some (.nor,[(2,v2),(3,v3),(4,v4),(6,v6),(8,.p i 0),(9,.d (.i .i64 k)),(12,.p j 0),(72,.d (.b false))],H):=by
 have hb:(k==0)=false:=by rw[beq_eq_false_iff_ne];exact hk
 simp[nthC,tlC,unB,l134_0,put,eset,eget,D.cells,V.cells,allD,hget,hset,fz,zC,zN,setParts,chunk1,allCellsD,eqKs,eqCell,g8,g12,hc,hk,hb,hz]
theorem four_p6Bf {H:Hp}{i j:Nat}{k z:Int}{l0 l1 u0 u1 x y:List UInt8} (g8:hget H i=some (.box 29 [.d (.s l0),.d (.s l1),.d (.s u0),.d (.s u1)])) (g12:hget H j=some (.box 26 [.d (.s x),.d (.s y)])) (hk:k≠0) (hc:callV cS false (fnV 94) [.d (.agg [.s x,.s y]),.d (.agg [.s u0,.s u1])] H=some (.val (.d (.i .i64 z)),H)) (hz:0<z) (v2 v3 v4 v6:V):evI cS (tlC 6 (unB (nthC 1 l134_0))) none [(2,v2),(3,v3),(4,v4),(6,v6),(8,.p i 0),(9,.d (.i .i64 k)),(12,.p j 0),(61,.d (.b false))] H=some (.nor,[(2,v2),(3,v3),(4,v4),(6,v6),(8,.p i 0),(9,.d (.i .i64 k))],(hset H i (.box 29 [.d (.s l0),.d (.s l1),.d (.s x),.d (.s y)]))):=by
 have hb:(k==0)=false:=by rw[beq_eq_false_iff_ne];exact hk
 simp[nthC,tlC,unB,l134_0,put,eset,eget,D.cells,V.cells,allD,hget,hset,fz,zC,zN,setParts,chunk1,allCellsD,eqKs,eqCell,g8,g12,hc,hk,hb,hz]
theorem four_p6Cf {H:Hp}{i j:Nat}{k z:Int}{l0 l1 u0 u1 x y:List UInt8} (g8:hget H i=some (.box 29 [.d (.s l0),.d (.s l1),.d (.s u0),.d (.s u1)])) (g12:hget H j=some (.box 26 [.d (.s x),.d (.s y)])) (hk:k≠0) (hc:callV cS false (fnV 94) [.d (.agg [.s x,.s y]),.d (.agg [.s u0,.s u1])] H=some (.val (.d (.i .i64 z)),H)) (hz:¬ 0<z) (v2 v3 v4 v6:V):evI cS (tlC 6 (unB (nthC 1 l134_0))) none [(2,v2),(3,v3),(4,v4),(6,v6),(8,.p i 0),(9,.d (.i .i64 k)),(12,.p j 0),(61,.d (.b false))] H=some (.nor,[(2,v2),(3,v3),(4,v4),(6,v6),(8,.p i 0),(9,.d (.i .i64 k)),(12,.p j 0),(72,.d (.b false))],H):=by
 have hb:(k==0)=false:=by rw[beq_eq_false_iff_ne];exact hk
 simp[nthC,tlC,unB,l134_0,put,eset,eget,D.cells,V.cells,allD,hget,hset,fz,zC,zN,setParts,chunk1,allCellsD,eqKs,eqCell,g8,g12,hc,hk,hb,hz]
theorem four_inc {H:Hp}{k:Int} (h0:0≤k) (h4:k<4) (v2 v3 v4 v6 v8:V):evI cS (tlC 2 l134_0) none [(2,v2),(3,v3),(4,v4),(6,v6),(8,v8),(9,.d (.i .i64 k))] H=some (.nor,[(2,v2),(3,v3),(4,v4),(6,v6),(8,v8),(9,.d (.i .i64 (k+1)))],H):=by
 have w1:IntKind.i64.wrap (k+1)=k+1:=wr64 (by omega) (by omega)
 simp[nthC,tlC,unB,l134_0,put,eset,eget,D.cells,V.cells,allD,hget,hset,fz,zC,zN,setParts,chunk1,allCellsD,eqKs,eqCell,w1]
theorem four_incf {H:Hp}{k:Int} (h0:0≤k) (h4:k<4) (v2 v3 v4 v6 v8 v12 v72:V):evI cS (tlC 2 l134_0) none [(2,v2),(3,v3),(4,v4),(6,v6),(8,v8),(9,.d (.i .i64 k)),(12,v12),(72,v72)] H=some (.nor,[(2,v2),(3,v3),(4,v4),(6,v6),(8,v8),(9,.d (.i .i64 (k+1)))],H):=by
 have w1:IntKind.i64.wrap (k+1)=k+1:=wr64 (by omega) (by omega)
 simp[nthC,tlC,unB,l134_0,put,eset,eget,D.cells,V.cells,allD,hget,hset,fz,zC,zN,setParts,chunk1,allCellsD,eqKs,eqCell,w1]
def FSt (H h:Hp) (a b c d a' b' c' d' l0 l1 u0 u1:List UInt8):Prop:=(∃ L,h=L++H)∧(hget h H.length=some (.box 29 [.d (.s a),.d (.s b),.d (.s c),.d (.s d)])∧hget h (H.length+1)=some (.box 29 [.d (.s a'),.d (.s b'),.d (.s c'),.d (.s d')]))∧hget h (H.length+2)=some (.box 29 [.d (.s []),.d (.s []),.d (.s []),.d (.s [])])∧hget h (H.length+3)=some (.box 29 [.d (.s l0),.d (.s l1),.d (.s u0),.d (.s u1)])
variable {H h:Hp}{a b c d a' b' c' d' l0 l1 u0 u1:List UInt8}
theorem FSt.cons (f:FSt H h a b c d a' b' c' d' l0 l1 u0 u1) (x:Ob):FSt H (x::h) a b c d a' b' c' d' l0 l1 u0 u1:=by
 obtain⟨⟨L,rfl⟩,⟨h1,h2⟩,h3,h4⟩:=f
 exact⟨⟨x::L,rfl⟩,⟨hget_up rfl h1,hget_up rfl h2⟩,hget_up rfl h3,hget_up rfl h4⟩
theorem FSt.put (f:FSt H h a b c d a' b' c' d' l0 l1 u0 u1) (n0 n1 m0 m1:List UInt8):FSt H (hset h (H.length+3) (.box 29 [.d (.s n0),.d (.s n1),.d (.s m0),.d (.s m1)])) a b c d a' b' c' d' n0 n1 m0 m1:=by
 obtain⟨⟨L,rfl⟩,⟨h1,h2⟩,h3,h4⟩:=f
 obtain⟨L',hL⟩:=hset_app L H (H.length+3) (.box 29 [.d (.s n0),.d (.s n1),.d (.s m0),.d (.s m1)]) (by omega)
 exact⟨⟨L',hL⟩,⟨by rw[hget_hset_ne (by omega)];exact h1,by rw[hget_hset_ne (by omega)];exact h2⟩,by rw[hget_hset_ne (by omega)];exact h3,hget_hset (hget_lt' h4)⟩
theorem four_tail {k:Int}{r lo hi:Rat}{j:Nat} (f:FSt H h a b c d a' b' c' d' (txt lo.num) (txt lo.den) (txt hi.num) (txt hi.den)) (hr:RFits r) (hl:RFits lo) (hh:RFits hi) (hk:k≠0) (gj:hget h j=some (.box 26 [.d (.s (txt r.num)),.d (.s (txt r.den))])) (h0:0≤k) (h4:k<4) (v2 v3 v4 v6 v51:V) (hj:j≠H.length+3) :
 ∃ h',FSt H h' a b c d a' b' c' d' (txt (minQ lo r).num) (txt (minQ lo r).den) (txt (maxQ hi r).num) (txt (maxQ hi r).den)∧∃ e,evI cS (.seq (nthC 5 (unB (nthC 1 l134_0))) (tlC 6 (unB (nthC 1 l134_0)))) none [(2,v2),(3,v3),(4,v4),(6,v6),(8,.p (H.length+3) 0),(9,.d (.i .i64 k)),(12,.p j 0),(51,v51)] h=some (.nor,e,h')∧evI cS (tlC 2 l134_0) none e h'=some (.nor,[(2,v2),(3,v3),(4,v4),(6,v6),(8,.p (H.length+3) 0),(9,.d (.i .i64 (k+1)))],h'):=by
 unfold minQ maxQ
 by_cases z1:cmpQ r lo<0
 ·have f':=f.put (txt r.num) (txt r.den) (txt hi.num) (txt hi.den)
  have gj':hget (hset h (H.length+3) (.box 29 [.d (.s (txt r.num)),.d (.s (txt r.den)),.d (.s (txt hi.num)),.d (.s (txt hi.den))])) j=some (.box 26 [.d (.s (txt r.num)),.d (.s (txt r.den))]):=by rw[hget_hset_ne (Ne.symm hj)];exact gj
  have q5:=four_p5B f.2.2.2 gj hk (cmp4_val hr hl h) z1 v2 v3 v4 v6 v51
  rw[if_pos z1]
  by_cases z2:0<cmpQ r hi
  ·rw[if_pos z2]
   have q6:=four_p6B f'.2.2.2 gj' hk (cmp4_val hr hh _) z2 v2 v3 v4 v6
   exact⟨_,f'.put _ _ _ _,_,by rw[evI_seq,q5];simp only[thenR];exact q6,four_inc h0 h4 _ _ _ _ _⟩
  ·rw[if_neg z2]
   have q6:=four_p6C f'.2.2.2 gj' hk (cmp4_val hr hh _) z2 v2 v3 v4 v6
   exact⟨_,f',_,by rw[evI_seq,q5];simp only[thenR];exact q6,four_incf h0 h4 _ _ _ _ _ _ _⟩
 ·have q5:=four_p5C f.2.2.2 gj hk (cmp4_val hr hl h) z1 v2 v3 v4 v6 v51
  rw[if_neg z1]
  by_cases z2:0<cmpQ r hi
  ·rw[if_pos z2]
   have q6:=four_p6Bf f.2.2.2 gj hk (cmp4_val hr hh _) z2 v2 v3 v4 v6
   exact⟨_,f.put _ _ _ _,_,by rw[evI_seq,q5];simp only[thenR];exact q6,four_inc h0 h4 _ _ _ _ _⟩
  ·rw[if_neg z2]
   have q6:=four_p6Cf f.2.2.2 gj hk (cmp4_val hr hh _) z2 v2 v3 v4 v6
   exact⟨_,f,_,by rw[evI_seq,q5];simp only[thenR];exact q6,four_incf h0 h4 _ _ _ _ _ _ _⟩
theorem four_tail0 {r:Rat}{j:Nat} (f:FSt H h a b c d a' b' c' d' l0 l1 u0 u1) (gj:hget h j=some (.box 26 [.d (.s (txt r.num)),.d (.s (txt r.den))])) (v2 v3 v4 v6 v51:V) (hj:j≠H.length+3) :
 ∃ h',FSt H h' a b c d a' b' c' d' (txt r.num) (txt r.den) (txt r.num) (txt r.den)∧∃ e,evI cS (.seq (nthC 5 (unB (nthC 1 l134_0))) (tlC 6 (unB (nthC 1 l134_0)))) none [(2,v2),(3,v3),(4,v4),(6,v6),(8,.p (H.length+3) 0),(9,.d (.i .i64 0)),(12,.p j 0),(51,v51)] h=some (.nor,e,h')∧evI cS (tlC 2 l134_0) none e h'=some (.nor,[(2,v2),(3,v3),(4,v4),(6,v6),(8,.p (H.length+3) 0),(9,.d (.i .i64 1))],h'):=by
 have f':=f.put (txt r.num) (txt r.den) u0 u1
 have gj':hget (hset h (H.length+3) (.box 29 [.d (.s (txt r.num)),.d (.s (txt r.den)),.d (.s u0),.d (.s u1)])) j=some (.box 26 [.d (.s (txt r.num)),.d (.s (txt r.den))]):=by rw[hget_hset_ne (Ne.symm hj)];exact gj
 have q5:=four_p5A f.2.2.2 gj v2 v3 v4 v6 v51
 have q6:=four_p6A f'.2.2.2 gj' v2 v3 v4 v6
 exact⟨_,f'.put _ _ _ _,_,by rw[evI_seq,q5];simp only[thenR];exact q6,four_inc (k:=0) (by omega) (by omega) _ _ _ _ _⟩
def OpA (dv:Bool) (p q:Rat) (R:D):Prop:=(∀ G,callV cS false (fnV 63) [.d (dR p),.d (dR q)] G=some (.val (.d R),G)∧dv=false)∨((∀ G,callV cS false (fnV 172) [.d (dR p),.d (dR q)] G=some (.val (.d R),G))∧dv=true∧∃ s t e,∀ G,callV cS false (fnV 63) [.d (dR p),.d (dR q)] G=some (.val (.d (.tup [(.agg [.s s,.s t]),.i .i64 e])),G))
theorem four_rd (e:En) (h:Hp):evI cS l134_0 none e h=evI cS (.seq (nthC 0 l134_0) (.seq (.block 1 (unB (nthC 1 l134_0))) (tlC 2 l134_0))) none e h:=rfl
theorem four_B:(unB (nthC 1 l134_0))=.seq (nthC 0 (unB (nthC 1 l134_0))) (.seq (nthC 1 (unB (nthC 1 l134_0))) (.seq (nthC 2 (unB (nthC 1 l134_0))) (.seq (nthC 3 (unB (nthC 1 l134_0))) (.seq (nthC 4 (unB (nthC 1 l134_0))) (.seq (nthC 5 (unB (nthC 1 l134_0))) (tlC 6 (unB (nthC 1 l134_0)))))))):=rfl
theorem four_op {k:Int}{dv:Bool}{p1 q1 p2 q2 x y:Rat}{s t:List UInt8}{e:Int} (f:FSt H h (txt p1.num) (txt p1.den) (txt q1.num) (txt q1.den) (txt p2.num) (txt p2.den) (txt q2.num) (txt q2.den) l0 l1 u0 u1)
 (hx:((k=0∨k=1)∧x=p1)∨((k=2∨k=3)∧x=q1)) (hy:((k=0∨k=2)∧y=p2)∨((k=1∨k=3)∧y=q2)) (hop:OpA dv x y (.tup [(.agg [.s s,.s t]),.i .i64 e])) :
 ∃ h' j,(FSt H h' (txt p1.num) (txt p1.den) (txt q1.num) (txt q1.den) (txt p2.num) (txt p2.den) (txt q2.num) (txt q2.den) l0 l1 u0 u1∧hget h' j=some (.box 26 [.d (.s s),.d (.s t)])∧j≠H.length+3)∧(∀ rest,e=0→evI cS (.seq (nthC 0 (unB (nthC 1 l134_0))) (.seq (nthC 1 (unB (nthC 1 l134_0))) (.seq (nthC 2 (unB (nthC 1 l134_0))) (.seq (nthC 3 (unB (nthC 1 l134_0))) (.seq (nthC 4 (unB (nthC 1 l134_0))) rest))))) none [(2,.d (.b dv)),(3,.p H.length 0),(4,.p (H.length+1) 0),(6,.p (H.length+2) 0),(8,.p (H.length+3) 0),(9,.d (.i .i64 k)),(16,.d (.b true))] h=evI cS rest none [(2,.d (.b dv)),(3,.p H.length 0),(4,.p (H.length+1) 0),(6,.p (H.length+2) 0),(8,.p (H.length+3) 0),(9,.d (.i .i64 k)),(12,.p j 0),(51,.d (.b false))] h') ∧
  (∀ rest,e≠0→evI cS (.seq (nthC 0 (unB (nthC 1 l134_0))) (.seq (nthC 1 (unB (nthC 1 l134_0))) (.seq (nthC 2 (unB (nthC 1 l134_0))) (.seq (nthC 3 (unB (nthC 1 l134_0))) (.seq (nthC 4 (unB (nthC 1 l134_0))) rest))))) none [(2,.d (.b dv)),(3,.p H.length 0),(4,.p (H.length+1) 0),(6,.p (H.length+2) 0),(8,.p (H.length+3) 0),(9,.d (.i .i64 k)),(16,.d (.b true))] h=some (.rt,[(6,.p (H.length+2) 0),(7,.d (.i .i64 50))],h')):=by
 obtain⟨hA,eA⟩:∃ g:Hp,g=.box 26 [.d (.s (txt x.num)),.d (.s (txt x.den))]::h:=⟨_,rfl⟩
 obtain⟨hB,eB⟩:∃ g:Hp,g=.box 26 [.d (.s (txt y.num)),.d (.s (txt y.den))]::hA:=⟨_,rfl⟩
 obtain⟨hC,eC⟩:∃ g:Hp,g=.box 26 [.d (.s s),.d (.s t)]::hB:=⟨_,rfl⟩
 have f0:=f.cons (.box 26 [.d (.s (txt x.num)),.d (.s (txt x.den))])
 rw[← eA] at f0
 have f1:=f0.cons (.box 26 [.d (.s (txt y.num)),.d (.s (txt y.den))])
 rw[← eB] at f1
 have f2:=f1.cons (.box 26 [.d (.s s),.d (.s t)])
 rw[← eC] at f2
 have hlen:H.length+3<h.length:=hget_lt' f.2.2.2
 have hj:hB.length≠H.length+3:=by rw[eB,eA];simp;omega
 have q0:=four_p0 (k:=k) (x:=txt x.num) (y:=txt x.den) f.2.1.1 (hx.imp (fun z=>⟨z.1,by rw[z.2],by rw[z.2]⟩) (fun z=>⟨z.1,by rw[z.2],by rw[z.2]⟩)) (.d (.b dv)) (.p (H.length+1) 0) (.p (H.length+2) 0) (.p (H.length+3) 0) (.d (.b true))
 rw[← eA] at q0
 have q1:=four_p1 (k:=k) (x:=txt y.num) (y:=txt y.den) f0.2.1.2 (hy.imp (fun z=>⟨z.1,by rw[z.2],by rw[z.2]⟩) (fun z=>⟨z.1,by rw[z.2],by rw[z.2]⟩)) (.d (.b dv)) (.p H.length 0) (.p (H.length+2) 0) (.p (H.length+3) 0) (.p h.length 0)
 rw[← eB] at q1
 have gx:=hget_up eB (hget_top eA)
 have gy:=hget_top eB
 have gC:=hget_top eC
 rcases hop with hm | ⟨hd,rfl,s0,t0,e0,hm⟩
 ·obtain rfl:=(hm h).2
  have q2:=four_p2 gx gy (hm _).1 (.d (.b false)) (.p H.length 0) (.p (H.length+1) 0) (.p (H.length+2) 0) (.p (H.length+3) 0) (.d (.i .i64 k))
  rw[← eC] at q2
  have q3:=four_p3m (H:=hC) (.p H.length 0) (.p (H.length+1) 0) (.p (H.length+2) 0) (.p (H.length+3) 0) (.d (.i .i64 k)) (.p h.length 0) (.p hA.length 0) (.p hB.length 0) (.d (.i .i64 e))
  refine⟨hC,hB.length,⟨f2,gC,hj⟩,fun rest he=>?_,fun rest he=>?_⟩
  ·subst he
   rw[evI_seq,q0];simp only[thenR];rw[evI_seq,q1];simp only[thenR];rw[evI_seq,q2];simp only[thenR];rw[evI_seq,q3];simp only[thenR]
   rw[evI_seq]
   have q4:=four_p4m (H:=hC) (.d (.b false)) (.p H.length 0) (.p (H.length+1) 0) (.p (H.length+2) 0) (.p (H.length+3) 0) (.d (.i .i64 k)) (.p h.length 0) (.p hA.length 0) (.p hB.length 0) (.d (.b false))
   rw[q4];rfl
  ·have q4:=four_e4m he f2.2.2.1 (.d (.b false)) (.p H.length 0) (.p (H.length+1) 0) (.p (H.length+3) 0) (.d (.i .i64 k)) (.p h.length 0) (.p hA.length 0) (.p hB.length 0) (.d (.b false))
   rw[evI_seq,q0];simp only[thenR];rw[evI_seq,q1];simp only[thenR];rw[evI_seq,q2];simp only[thenR];rw[evI_seq,q3];simp only[thenR]
   rw[evI_seq,q4];rfl
 ·have q2:=four_p2 gx gy (hm _) (.d (.b true)) (.p H.length 0) (.p (H.length+1) 0) (.p (H.length+2) 0) (.p (H.length+3) 0) (.d (.i .i64 k))
  have q3:=four_p3d gx gy (hd (.box 26 [.d (.s s0),.d (.s t0)]::hB)) (.p H.length 0) (.p (H.length+1) 0) (.p (H.length+2) 0) (.p (H.length+3) 0) (.d (.i .i64 k)) (.d (.i .i64 e0))
  rw[← eC] at q3
  refine⟨hC,hB.length,⟨f2,gC,hj⟩,fun rest he=>?_,fun rest he=>?_⟩
  ·subst he
   rw[evI_seq,q0];simp only[thenR];rw[evI_seq,q1];simp only[thenR];rw[evI_seq,q2];simp only[thenR]
   rw[evI_seq,q3];simp only[thenR]
   rw[evI_seq]
   have q4:=four_p4d (H:=hC) (.d (.b true)) (.p H.length 0) (.p (H.length+1) 0) (.p (H.length+2) 0) (.p (H.length+3) 0) (.d (.i .i64 k)) (.p hB.length 0)
   rw[q4];rfl
  ·have q4:=four_e4d he f2.2.2.1 (.d (.b true)) (.p H.length 0) (.p (H.length+1) 0) (.p (H.length+3) 0) (.d (.i .i64 k)) (.p hB.length 0)
   rw[evI_seq,q0];simp only[thenR];rw[evI_seq,q1];simp only[thenR];rw[evI_seq,q2];simp only[thenR]
   rw[evI_seq,q3];simp only[thenR]
   rw[evI_seq,q4];rfl
def FGo (H:Hp) (dv:Bool) (k:Int) (h:Hp) (z:Option (Hp)):Prop:=match z with
 | some h'=>evI cS (.loop l134_0) none [(2,.d (.b dv)),(3,.p H.length 0),(4,.p (H.length+1) 0),(6,.p (H.length+2) 0),(8,.p (H.length+3) 0),(9,.d (.i .i64 k))] h=evI cS (.loop l134_0) none [(2,.d (.b dv)),(3,.p H.length 0),(4,.p (H.length+1) 0),(6,.p (H.length+2) 0),(8,.p (H.length+3) 0),(9,.d (.i .i64 (k+1)))] h'
 | none=>∃ L,evI cS (.loop l134_0) none [(2,.d (.b dv)),(3,.p H.length 0),(4,.p (H.length+1) 0),(6,.p (H.length+2) 0),(8,.p (H.length+3) 0),(9,.d (.i .i64 k))] h=some (.rt,[(6,.p (H.length+2) 0),(7,.d (.i .i64 50))],L++H)∧hget (L++H) (H.length+2)=some (.box 29 [.d (.s []),.d (.s []),.d (.s []),.d (.s [])])
theorem four_k {k:Int}{dv:Bool}{p1 q1 p2 q2 x y lo hi:Rat}{R:D}{o:Option Rat} (f:FSt H h (txt p1.num) (txt p1.den) (txt q1.num) (txt q1.den) (txt p2.num) (txt p2.den) (txt q2.num) (txt q2.den) (txt lo.num) (txt lo.den) (txt hi.num) (txt hi.den)) (hl:RFits lo) (hh:RFits hi) (hk:k≠0) (h0:0≤k) (h4:k<4)
 (hx:((k=0∨k=1)∧x=p1)∨((k=2∨k=3)∧x=q1)) (hy:((k=0∨k=2)∧y=p2)∨((k=1∨k=3)∧y=q2)) (hop:OpA dv x y R) (hf:∃ s t e,R=.tup [(.agg [.s s,.s t]),.i .i64 e]) (ho:oneD R=o.map dR) (hr:∀ r,o=some r→RFits r) :
 (∀ r,o=some r→∃ h',FSt H h' (txt p1.num) (txt p1.den) (txt q1.num) (txt q1.den) (txt p2.num) (txt p2.den) (txt q2.num) (txt q2.den) (txt (minQ lo r).num) (txt (minQ lo r).den) (txt (maxQ hi r).num) (txt (maxQ hi r).den)∧FGo H dv k h (some h'))∧(o=none→FGo H dv k h none):=by
 obtain⟨s,t,e,rfl⟩:=hf
 obtain⟨h',j,⟨g1,g2,g3⟩,g4,g5⟩:=four_op f hx hy hop
 have hd:=four_hd (H:=h) h4 (.d (.b dv)) (.p H.length 0) (.p (H.length+1) 0) (.p (H.length+2) 0) (.p (H.length+3) 0)
 refine⟨fun r hr0=>?_,fun hr0=>?_⟩
 ·subst hr0
  have ho':=okR_of ho
  have he:e=0∧s=txt r.num∧t=txt r.den:=by
   simp only[okR] at ho'
   split at ho'
   ·rename_i h;simp at ho'; exact⟨h,ho'⟩
   ·cases ho'
  obtain⟨rfl,rfl,rfl⟩:=he
  obtain⟨h2,f2,e2,t1,t2⟩:=four_tail g1 (hr r rfl) hl hh hk g2 h0 h4 (.d (.b dv)) (.p H.length 0) (.p (H.length+1) 0) (.p (H.length+2) 0) (.d (.b false)) g3
  refine⟨h2,f2,?_⟩
  unfold FGo
  rw[evI_loop,four_rd,evI_seq,hd];simp only[thenR]
  rw[evI_seq,evI_block]
  have:=g4 (.seq (nthC 5 (unB (nthC 1 l134_0))) (tlC 6 (unB (nthC 1 l134_0)))) rfl
  rw[← four_B] at this
  rw[this,t1];simp only[blockR,thenR]
  rw[t2]
 ·subst hr0
  have ho':=okR_of ho
  have he:e≠0:=by
   intro h
   simp only[okR,if_pos h] at ho'
   cases ho'
  obtain⟨⟨L,hL⟩,_,g6,_⟩:=g1
  refine⟨L,?_,by rw[← hL];exact g6⟩
  rw[evI_loop,four_rd,evI_seq,hd];simp only[thenR]
  rw[evI_seq,evI_block]
  have:=g5 (.seq (nthC 5 (unB (nthC 1 l134_0))) (tlC 6 (unB (nthC 1 l134_0)))) he
  rw[← four_B] at this
  rw[this,hL]
  rfl
end
section
open Go Num
theorem four_0 {H h:Hp}{dv:Bool}{p1 q1 p2 q2:Rat}{l0 l1 u0 u1:List UInt8}{R:D}{o:Option Rat} (f:FSt H h (txt p1.num) (txt p1.den) (txt q1.num) (txt q1.den) (txt p2.num) (txt p2.den) (txt q2.num) (txt q2.den) l0 l1 u0 u1) (hop:OpA dv p1 p2 R) (hf:∃ s t e,R=.tup [(.agg [.s s,.s t]),.i .i64 e]) (ho:oneD R=o.map dR) :
 (∀ r,o=some r→∃ h',FSt H h' (txt p1.num) (txt p1.den) (txt q1.num) (txt q1.den) (txt p2.num) (txt p2.den) (txt q2.num) (txt q2.den) (txt r.num) (txt r.den) (txt r.num) (txt r.den)∧FGo H dv 0 h (some h'))∧(o=none→FGo H dv 0 h none):=by
 obtain⟨s,t,e,rfl⟩:=hf
 obtain⟨h',j,⟨g1,g2,g3⟩,g4,g5⟩:=four_op (k:=0) f (.inl ⟨.inl rfl,rfl⟩) (.inl ⟨.inl rfl,rfl⟩) hop
 have hd:=four_hd (H:=h) (k:=0) (by omega) (.d (.b dv)) (.p H.length 0) (.p (H.length+1) 0) (.p (H.length+2) 0) (.p (H.length+3) 0)
 refine⟨fun r hr0=>?_,fun hr0=>?_⟩
 ·subst hr0
  have ho':=okR_of ho
  have he:e=0∧s=txt r.num∧t=txt r.den:=by
   simp only[okR] at ho'
   split at ho'
   ·rename_i h;simp at ho'; exact⟨h,ho'⟩
   ·cases ho'
  obtain⟨rfl,rfl,rfl⟩:=he
  obtain⟨h2,f2,e2,t1,t2⟩:=four_tail0 g1 g2 (.d (.b dv)) (.p H.length 0) (.p (H.length+1) 0) (.p (H.length+2) 0) (.d (.b false)) g3
  refine⟨h2,f2,?_⟩
  unfold FGo
  rw[evI_loop,four_rd,evI_seq,hd];simp only[thenR]
  rw[evI_seq,evI_block]
  have:=g4 (.seq (nthC 5 (unB (nthC 1 l134_0))) (tlC 6 (unB (nthC 1 l134_0)))) rfl
  rw[← four_B] at this
  rw[this,t1];simp only[blockR,thenR]
  rw[t2];rfl
 ·subst hr0
  have ho':=okR_of ho
  have he:e≠0:=by
   intro h
   simp only[okR,if_pos h] at ho'
   cases ho'
  obtain⟨⟨L,hL⟩,_,g6,_⟩:=g1
  refine⟨L,?_,by rw[← hL];exact g6⟩
  rw[evI_loop,four_rd,evI_seq,hd];simp only[thenR]
  rw[evI_seq,evI_block]
  have:=g5 (.seq (nthC 5 (unB (nthC 1 l134_0))) (tlC 6 (unB (nthC 1 l134_0)))) he
  rw[← four_B] at this
  rw[this,hL]
  rfl
def OpG (dv:Bool) (g:Rat→Rat→Option Rat):Prop:=∀ p q,RFits p→RFits q→∃ R,OpA dv p q R∧(∃ s t e,R=.tup [(.agg [.s s,.s t]),.i .i64 e])∧oneD R=(g p q).map dR∧∀ r,g p q=some r→RFits r
theorem mm_fits {a b:Rat} (h:RFits a) (k:RFits b):RFits (minQ a b)∧RFits (maxQ a b):=by
 unfold minQ maxQ
 constructor<;>split<;>assumption
theorem four_loop {H h:Hp}{dv:Bool}{g:Rat→Rat→Option Rat} (G:OpG dv g) {p1 q1 p2 q2:Rat} (f1:RFits p1) (f2:RFits q1) (f3:RFits p2) (f4:RFits q2) {l0 l1 u0 u1:List UInt8} (f:FSt H h (txt p1.num) (txt p1.den) (txt q1.num) (txt q1.den) (txt p2.num) (txt p2.den) (txt q2.num) (txt q2.den) l0 l1 u0 u1) :
 (∃ lo hi,endsO g p1 q1 p2 q2=some (dI4 lo hi)∧∃ L,evI cS (.loop l134_0) none [(2,.d (.b dv)),(3,.p H.length 0),(4,.p (H.length+1) 0),(6,.p (H.length+2) 0),(8,.p (H.length+3) 0),(9,.d (.i .i64 0))] h=some (.ex 0,[(2,.d (.b dv)),(3,.p H.length 0),(4,.p (H.length+1) 0),(6,.p (H.length+2) 0),(8,.p (H.length+3) 0),(9,.d (.i .i64 4)),(16,.d (.b false))],L++H)∧FSt H (L++H) (txt p1.num) (txt p1.den) (txt q1.num) (txt q1.den) (txt p2.num) (txt p2.den) (txt q2.num) (txt q2.den) (txt lo.num) (txt lo.den) (txt hi.num) (txt hi.den)) ∨
 (endsO g p1 q1 p2 q2=none∧∃ L,evI cS (.loop l134_0) none [(2,.d (.b dv)),(3,.p H.length 0),(4,.p (H.length+1) 0),(6,.p (H.length+2) 0),(8,.p (H.length+3) 0),(9,.d (.i .i64 0))] h=some (.rt,[(6,.p (H.length+2) 0),(7,.d (.i .i64 50))],L++H)∧hget (L++H) (H.length+2)=some (.box 29 [.d (.s []),.d (.s []),.d (.s []),.d (.s [])])):=by
 obtain⟨R0,a0,b0,c0,d0⟩:=G p1 p2 f1 f3
 obtain⟨R1,a1,b1,c1,d1⟩:=G p1 q2 f1 f4
 obtain⟨R2,a2,b2,c2,d2⟩:=G q1 p2 f2 f3
 obtain⟨R3,a3,b3,c3,d3⟩:=G q1 q2 f2 f4
 have s0:=four_0 f a0 b0 c0
 unfold endsO
 cases g0:g p1 p2 with
 | none=>exact .inr ⟨rfl,s0.2 g0⟩
 | some r0 =>
   obtain⟨h0,F0,z0⟩:=s0.1 _ g0
   have y0:=d0 r0 g0
   have s1:=four_k (k:=1) F0 y0 y0 (by omega) (by omega) (by omega) (.inl ⟨.inr rfl,rfl⟩) (.inr ⟨.inl rfl,rfl⟩) a1 b1 c1 d1
   unfold FGo at z0
   rw[show (0:Int)+1=1 from rfl] at z0
   cases g1:g p1 q2 with
   | none =>
     obtain⟨L,e1,e2⟩:=s1.2 g1
     exact .inr ⟨rfl,L,by rw[z0,e1],e2⟩
   | some r1 =>
     obtain⟨h1,F1,z1⟩:=s1.1 _ g1
     have y1:=mm_fits y0 (d1 r1 g1)
     have s2:=four_k (k:=2) F1 y1.1 y1.2 (by omega) (by omega) (by omega) (.inr ⟨.inl rfl,rfl⟩) (.inl ⟨.inr rfl,rfl⟩) a2 b2 c2 d2
     unfold FGo at z1
     rw[show (1:Int)+1=2 from rfl] at z1
     cases g2:g q1 p2 with
     | none =>
       obtain⟨L,e1,e2⟩:=s2.2 g2
       exact .inr ⟨rfl,L,by rw[z0,z1,e1],e2⟩
     | some r2 =>
       obtain⟨h2,F2,z2⟩:=s2.1 _ g2
       have y2:=(mm_fits y1.1 (d2 r2 g2)).1
       have y3:=(mm_fits y1.2 (d2 r2 g2)).2
       have s3:=four_k (k:=3) F2 y2 y3 (by omega) (by omega) (by omega) (.inr ⟨.inr rfl,rfl⟩) (.inr ⟨.inr rfl,rfl⟩) a3 b3 c3 d3
       unfold FGo at z2
       rw[show (2:Int)+1=3 from rfl] at z2
       cases g3:g q1 q2 with
       | none =>
         obtain⟨L,e1,e2⟩:=s3.2 g3
         exact .inr ⟨rfl,L,by rw[z0,z1,z2,e1],e2⟩
       | some r3 =>
         obtain⟨h3,F3,z3⟩:=s3.1 _ g3
         unfold FGo at z3
         rw[show (3:Int)+1=4 from rfl] at z3
         obtain⟨L,rfl⟩:=F3.1
         refine .inl ⟨_,_,rfl,L,?_,F3⟩
         have hf:=four_hf (H:=L++H) (.d (.b dv)) (.p H.length 0) (.p (H.length+1) 0) (.p (H.length+2) 0) (.p (H.length+3) 0)
         rw[z0,z1,z2,z3,evI_loop,four_rd,evI_seq,hf]
         rfl
theorem four5_ok {dv:Bool}{g:Rat→Rat→Option Rat} (G:OpG dv g) {p1 q1 p2 q2:Rat} (f1:RFits p1) (f2:RFits q1) (f3:RFits p2) (f4:RFits q2) (H:Hp) :
 callV cS false (fnV 134) [.d (dI4 p1 q1),.d (dI4 p2 q2),.d (.b dv)] H=some (.val (.d (resD (endsO g p1 q1 p2 q2))),H):=by
 rw[callV_fn (sf:=c134) rfl rfl rfl rfl]
 obtain⟨h0,eh⟩:∃ h:Hp,h=.box 29 [.d (.s []),.d (.s []),.d (.s []),.d (.s [])]::.box 29 [.d (.s []),.d (.s []),.d (.s []),.d (.s [])]::.box 29 [.d (.s (txt p2.num)),.d (.s (txt p2.den)),.d (.s (txt q2.num)),.d (.s (txt q2.den))]::.box 29 [.d (.s (txt p1.num)),.d (.s (txt p1.den)),.d (.s (txt q1.num)),.d (.s (txt q1.den))]::H:=⟨_,rfl⟩
 have F:FSt H h0 (txt p1.num) (txt p1.den) (txt q1.num) (txt q1.den) (txt p2.num) (txt p2.den) (txt q2.num) (txt q2.den) [] [] [] []:=by
  rw[eh]
  exact⟨⟨[_,_,_,_],rfl⟩,⟨hget_up rfl (hget_up rfl (hget_up rfl (hget_top rfl))),hget_up rfl (hget_up rfl (hget_top rfl))⟩,hget_up rfl (hget_top rfl),hget_top rfl⟩
 have w0:evI cS (.seq (nthC 0 b134) (nthC 1 b134)) none (enter [.d (dI4 p1 q1),.d (dI4 p2 q2),.d (.b dv)]) H=some (.nor,[(2,.d (.b dv)),(3,.p H.length 0),(4,.p (H.length+1) 0),(6,.p (H.length+2) 0),(8,.p (H.length+3) 0)],h0):=by
  rw[eh]
  simp only[dI4]
  generalize txt p1.num=a1
  generalize txt p1.den=a2
  generalize txt q1.num=a3
  generalize txt q1.den=a4
  generalize txt p2.num=c1
  generalize txt p2.den=c2
  generalize txt q2.num=c3
  generalize txt q2.den=c4
  simp[nthC,b134,put,eset,eget,D.cells,V.cells,allD,hget,hset,fz,zC,zN,setParts,chunk1,allCellsD,eqKs,eqCell]
 rw[evI_seq] at w0
 have w2:∀ {e:En}{h:Hp},evI cS (nthC 2 b134) none [(2,.d (.b dv)),(3,.p H.length 0),(4,.p (H.length+1) 0),(6,.p (H.length+2) 0),(8,.p (H.length+3) 0)] h=blockR 0 (evI cS (.loop l134_0) none [(2,.d (.b dv)),(3,.p H.length 0),(4,.p (H.length+1) 0),(6,.p (H.length+2) 0),(8,.p (H.length+3) 0),(9,.d (.i .i64 0))] h):=by
  intro e h
  have a:nthC 2 b134=.seq (nthC 0 (nthC 2 b134)) (.block 0 (.loop l134_0)):=rfl
  have b:evI cS (nthC 0 (nthC 2 b134)) none [(2,.d (.b dv)),(3,.p H.length 0),(4,.p (H.length+1) 0),(6,.p (H.length+2) 0),(8,.p (H.length+3) 0)] h=some (.nor,[(2,.d (.b dv)),(3,.p H.length 0),(4,.p (H.length+1) 0),(6,.p (H.length+2) 0),(8,.p (H.length+3) 0),(9,.d (.i .i64 0))],h):=by
   simp[nthC,b134,put,eset,eget,D.cells,V.cells,allD,hget,hset,fz,zC,zN,setParts,chunk1,allCellsD,eqKs,eqCell]
  rw[a,evI_seq,b];simp only[thenR]
  rw[evI_block]
 have hb:∀ (E:En) (h:Hp),evI cS b134 none E h=evI cS (.seq (nthC 0 b134) (.seq (nthC 1 b134) (.seq (nthC 2 b134) (tlC 3 b134)))) none E h:=fun _ _=>rfl
 have hbd:c134.body=b134:=rfl
 have hev:∀ (E:En),E=enter [.d (dI4 p1 q1),.d (dI4 p2 q2),.d (.b dv)]→evI cS b134 none E H=thenR (blockR 0 (evI cS (.loop l134_0) none [(2,.d (.b dv)),(3,.p H.length 0),(4,.p (H.length+1) 0),(6,.p (H.length+2) 0),(8,.p (H.length+3) 0),(9,.d (.i .i64 0))] h0)) (fun e h=>evI cS (tlC 3 b134) none e h):=by
  intro E hE
  rw[hE,hb,evI_seq]
  cases k:evI cS (nthC 0 b134) none (enter [.d (dI4 p1 q1),.d (dI4 p2 q2),.d (.b dv)]) H with
  | none=>rw[k] at w0;cases w0
  | some z =>
    obtain⟨x,e,h⟩:=z
    rw[k] at w0
    cases x with
    | nor =>
      simp only[thenR] at w0
      show evI cS (.seq (nthC 1 b134) (.seq (nthC 2 b134) (tlC 3 b134))) none e h=_
      rw[evI_seq,w0]
      show evI cS (.seq (nthC 2 b134) (tlC 3 b134)) none _ h0=_
      rw[evI_seq,w2 (e:=[]) (h:=h0)]
    | _=>simp[thenR] at w0
 rcases four_loop G f1 f2 f3 f4 F with ⟨lo,hi,e1,L,e2,e3⟩ | ⟨e1,L,e2,e3⟩
 ·have w3:evI cS (tlC 3 b134) none [(2,.d (.b dv)),(3,.p H.length 0),(4,.p (H.length+1) 0),(6,.p (H.length+2) 0),(8,.p (H.length+3) 0),(9,.d (.i .i64 4)),(16,.d (.b false))] (L++H)=some (.rt,[(6,.p (H.length+2) 0),(7,.d (.i .i64 0))],hset (L++H) (H.length+2) (.box 29 [.d (.s (txt lo.num)),.d (.s (txt lo.den)),.d (.s (txt hi.num)),.d (.s (txt hi.den))])):=by
   have g6:=e3.2.2.1
   have g8:=e3.2.2.2
   generalize txt lo.num=a1 at *
   generalize txt lo.den=a2 at *
   generalize txt hi.num=a3 at *
   generalize txt hi.den=a4 at *
   generalize L++H=h at *
   simp[tlC,b134,put,eset,eget,D.cells,V.cells,allD,hget,hset,fz,zC,zN,setParts,chunk1,allCellsD,eqKs,eqCell,g6,g8]
  obtain⟨L',hL⟩:=hset_app L H (H.length+2) (.box 29 [.d (.s (txt lo.num)),.d (.s (txt lo.den)),.d (.s (txt hi.num)),.d (.s (txt hi.den))]) (by omega)
  have hg:hget (L'++H) (H.length+2)=some (.box 29 [.d (.s (txt lo.num)),.d (.s (txt lo.den)),.d (.s (txt hi.num)),.d (.s (txt hi.den))]):=by rw[← hL];exact hget_hset (hget_lt' e3.2.2.1)
  rw[hL] at w3
  have hE:=hev _ rfl
  rw[e2] at hE
  simp only[blockR,if_true,thenR] at hE
  rw[w3] at hE
  simp only[List.map_nil,List.nil_append,List.append_nil,hbd,hE]
  have:=fin_app L' H (.tup [dI4 lo hi,.i .i64 0])
  rw[e1]
  simp only[c134,outOf,resAll,resOf,resV,resD,dI4] at this ⊢
  generalize txt lo.num=a1 at *
  generalize txt lo.den=a2 at *
  generalize txt hi.num=a3 at *
  generalize txt hi.den=a4 at *
  simp[put,eset,eget,D.cells,V.cells,allD,hget,hset,fz,zC,zN,setParts,chunk1,allCellsD,eqKs,eqCell,hg,mkTup,this]
 ·have hE:=hev _ rfl
  rw[e2] at hE
  simp only[blockR,thenR] at hE
  simp only[List.map_nil,List.nil_append,List.append_nil,hbd,hE]
  have:=fin_app L H errV
  rw[e1]
  simp only[c134,outOf,resAll,resOf,resV,resD,errV,zI] at this ⊢
  simp[put,eset,eget,D.cells,V.cells,allD,hget,hset,fz,zC,zN,setParts,chunk1,allCellsD,eqKs,eqCell,e3,mkTup,this]
end
section
open Go Num
theorem twoQ_fits {x y:Int}{r:Rat} (h:twoQ x y=some r):RFits r:=by
 simp only[twoQ] at h
 split at h
 ·rename_i k;cases h;exact divInt_fits k.1 k.2.1 k.2.2
 ·cases h
theorem mulG:OpG false fun p q=>twoQ (p.num*q.num) ((p.den:Int)*q.den):=by
 intro p q fp fq
 refine⟨two (p.num*q.num) ((p.den:Int)*q.den),.inl fun G=>⟨?_,rfl⟩,two_form _ _,oneD_two _ _,fun r hr=>twoQ_fits hr⟩
 have:=Mul4_ok (txt p.num) (txt p.den) (txt q.num) (txt q.den) (txt_short fp.1) (txt_short fp.2) (txt_short fq.1) (txt_short fq.2) G
 simp only[opQ,RQ_txt fp,RQ_txt fq] at this
 exact this
theorem divG:OpG true fun p q=>twoQ (p.num*q.den) ((p.den:Int)*q.num):=by
 intro p q fp fq
 obtain⟨s,t,e,h⟩:=two_form (p.num*q.num) ((p.den:Int)*q.den)
 refine⟨two (p.num*q.den) ((p.den:Int)*q.num),.inr ⟨fun G=>?_,rfl,s,t,e,fun G=>?_⟩,two_form _ _,oneD_two _ _,fun r hr=>twoQ_fits hr⟩
 ·have:=Div4_ok (txt p.num) (txt p.den) (txt q.num) (txt q.den) (txt_short fp.1) (txt_short fp.2) (txt_short fq.1) (txt_short fq.2) G
  simp only[opQ,RQ_txt fp,RQ_txt fq] at this
  exact this
 ·have:=Mul4_ok (txt p.num) (txt p.den) (txt q.num) (txt q.den) (txt_short fp.1) (txt_short fp.2) (txt_short fq.1) (txt_short fq.2) G
  simp only[opQ,RQ_txt fp,RQ_txt fq] at this
  rw[← h]
  exact this
theorem Mul5_ok (x y:IV) (s:IVS x) (t:IVS y) (H:Hp):callV cS false (fnV 86) [.d x.D,.d y.D] H=some (.val (.d (workD [x,y] (mulX x y))),H):=by
 rw[callV_fn (sf:=c86) rfl rfl rfl rfl]
 have v1:=both5_ok x y s t
 obtain⟨a,b,c,d⟩:=x
 obtain⟨a',b',c',d'⟩:=y
 have hall:[IV.mk a b c d,IV.mk a' b' c' d'].all IV.ok=((IV.mk a b c d).ok&&(IV.mk a' b' c' d').ok):=by simp
 rw[workD_eq,hall]
 simp only[IV.D] at v1 ⊢
 by_cases hok:(IV.mk a b c d).ok=true∧(IV.mk a' b' c' d').ok=true
 ·rw[hok.1,hok.2] at v1 ⊢
  obtain⟨p1,q1,hx,⟨h1,h2⟩,_⟩:=ok_VQ hok.1
  obtain⟨p2,q2,hy,⟨k1,k2⟩,_⟩:=ok_VQ hok.2
  have hX:mulX ⟨a,b,c,d⟩ ⟨a',b',c',d'⟩=endsO (fun p q=>twoQ (p.num*q.num) ((p.den:Int)*q.den)) p1 q1 p2 q2:=by simp only[mulX,hx,hy]
  rw[hX]
  obtain⟨f1,rfl,rfl⟩:=RQ_some h1
  obtain⟨f2,rfl,rfl⟩:=RQ_some h2
  obtain⟨f3,rfl,rfl⟩:=RQ_some k1
  obtain⟨f4,rfl,rfl⟩:=RQ_some k2
  have A:=four5_ok mulG f1 f2 f3 f4
  obtain⟨z1,z2,z3,z4,z5,hz⟩:=resD_form (endsO_form (fun p q=>twoQ (p.num*q.num) ((p.den:Int)*q.den)) p1 q1 p2 q2)
  rw[hz] at A ⊢
  simp only[dI4] at A
  simp[c86,b86,put,eset,eget,D.cells,V.cells,allD,hget,hset,fz,zC,zN,v1,A,setParts,chunk1,allCellsD]
 ·have hb:((IV.mk a b c d).ok&&(IV.mk a' b' c' d').ok)=false:=by rw[Bool.and_eq_false_iff];by_cases h:(IV.mk a b c d).ok=true;right;exact Bool.eq_false_iff.2 fun k=>hok ⟨h,k⟩;left;exact Bool.eq_false_iff.2 h
  rw[hb] at v1 ⊢
  simp[c86,b86,put,eset,eget,D.cells,V.cells,allD,hget,hset,fz,zC,zN,v1,errV,zI,setParts,chunk1,allCellsD]
theorem short_48:Short [48]∧Short [49]:=by unfold Short;simp
theorem Div5_ok (x y:IV) (s:IVS x) (t:IVS y) (H:Hp):callV cS false (fnV 87) [.d x.D,.d y.D] H=some (.val (.d (workD [x,y] (divX x y))),H):=by
 rw[callV_fn (sf:=c87) rfl rfl rfl rfl]
 have v1:=both5_ok x y s t
 have v2:=Contains5_ok y [48] [49] t short_48.1 short_48.2
 obtain⟨a,b,c,d⟩:=x
 obtain⟨a',b',c',d'⟩:=y
 have hall:[IV.mk a b c d,IV.mk a' b' c' d'].all IV.ok=((IV.mk a b c d).ok&&(IV.mk a' b' c' d').ok):=by simp
 rw[workD_eq,hall]
 simp only[IV.D] at v1 v2 ⊢
 by_cases hok:(IV.mk a b c d).ok=true∧(IV.mk a' b' c' d').ok=true
 ·rw[hok.1,hok.2] at v1 ⊢
  obtain⟨p1,q1,hx,⟨h1,h2⟩,_⟩:=ok_VQ hok.1
  obtain⟨p2,q2,hy,⟨k1,k2⟩,_⟩:=ok_VQ hok.2
  have hin:inB ⟨a',b',c',d'⟩ [48] [49]=(decide (cmpQ p2 0≤0)&&decide (cmpQ 0 q2≤0)):=by simp only[inB,hy,RQ_zero]
  have hX:divX ⟨a,b,c,d⟩ ⟨a',b',c',d'⟩=if cmpQ p2 0≤0∧cmpQ 0 q2≤0 then none else endsO (fun p q=>twoQ (p.num*q.den) ((p.den:Int)*q.num)) p1 q1 p2 q2:=by simp only[divX,hx,hy]
  rw[hX]
  rw[hin] at v2
  obtain⟨f1,rfl,rfl⟩:=RQ_some h1
  obtain⟨f2,rfl,rfl⟩:=RQ_some h2
  obtain⟨f3,rfl,rfl⟩:=RQ_some k1
  obtain⟨f4,rfl,rfl⟩:=RQ_some k2
  by_cases h0:cmpQ p2 0≤0∧cmpQ 0 q2≤0
  ·rw[if_pos h0]
   rw[decide_eq_true h0.1,decide_eq_true h0.2] at v2
   simp[c87,b87,put,eset,eget,D.cells,V.cells,allD,hget,hset,fz,zC,zN,zero5_ok,v1,v2,resD,errV,zI,setParts,chunk1,allCellsD]
  ·rw[if_neg h0]
   have hd:(decide (cmpQ p2 0≤0)&&decide (cmpQ 0 q2≤0))=false:=by rw[← Bool.decide_and];exact decide_eq_false h0
   rw[hd] at v2
   have A:=four5_ok divG f1 f2 f3 f4
   obtain⟨z1,z2,z3,z4,z5,hz⟩:=resD_form (endsO_form (fun p q=>twoQ (p.num*q.den) ((p.den:Int)*q.num)) p1 q1 p2 q2)
   rw[hz] at A ⊢
   simp only[dI4] at A
   simp[c87,b87,put,eset,eget,D.cells,V.cells,allD,hget,hset,fz,zC,zN,zero5_ok,v1,v2,A,setParts,chunk1,allCellsD]
 ·have hb:((IV.mk a b c d).ok&&(IV.mk a' b' c' d').ok)=false:=by rw[Bool.and_eq_false_iff];by_cases h:(IV.mk a b c d).ok=true;right;exact Bool.eq_false_iff.2 fun k=>hok ⟨h,k⟩;left;exact Bool.eq_false_iff.2 h
  rw[hb] at v1 ⊢
  generalize inB _ _ _=z at *
  simp[c87,b87,put,eset,eget,D.cells,V.cells,allD,hget,hset,fz,zC,zN,zero5_ok,v1,v2,errV,zI,setParts,chunk1,allCellsD]
theorem fits_pow {k:Nat} (h:k≤199):Fits ((10 ^ k:Nat):Int):=by
 unfold Fits
 rw[Int.natAbs_natCast]
 exact Nat.pow_lt_pow_right (by omega) (by omega)
theorem isqrt_up (n:Nat):(isqrt (n+1)*isqrt (n+1)=n+1∧isqrt (n+1)=isqrt n+1)∨(isqrt (n+1)*isqrt (n+1)≠n+1∧isqrt (n+1)=isqrt n):=by
 obtain⟨a1,a2⟩:=isqrt_spec n
 by_cases h:(isqrt n+1)*(isqrt n+1)=n+1
 ·have k:=IsRoot.unique (isqrt_spec (n+1)) (show IsRoot (n+1) (isqrt n+1) from ⟨by omega,by
   have:=Nat.mul_lt_mul_of_lt_of_le (show isqrt n+1<isqrt n+1+1 by omega) (show isqrt n+1≤isqrt n+1+1 by omega) (by omega)
   omega⟩)
  exact .inl ⟨by rw[k];exact h,k⟩
 ·have k:=IsRoot.unique (isqrt_spec (n+1)) (show IsRoot (n+1) (isqrt n) from ⟨by omega,by omega⟩)
  exact .inr ⟨by rw[k];omega,k⟩
open Classical in
noncomputable def rootD5 (up:Bool) (T:Int) (q:Rat):D:=if Fits (q.num*T*T) then .tup [.s (txt (if up=true then rootHi T q else rootM T q)),.b true] else .tup [.s [],.b false]
theorem root_calls {z:Int} (h0:0≤z) (fz:Fits z):(Fits (isqrt z.natAbs:Nat)∧Fits ((isqrt z.natAbs:Nat)*(isqrt z.natAbs:Nat):Int)) ∧
 (∀ H,callV cS false (fnV 173) [.d (.s (txt z))] H=some (.val (.d (.tup [.s (txt (isqrt z.natAbs:Nat)),.i .i64 0])),H)) ∧
 ∀ H,callV cS false (fnV 118) [.d (.s (txt (isqrt z.natAbs:Nat))),.d (.s (txt (isqrt z.natAbs:Nat)))] H=some (.val (.d (.tup [.s (txt ((isqrt z.natAbs:Nat)*(isqrt z.natAbs:Nat):Int)),.i .i64 0])),H):=by
 have a1:=(isqrt_spec z.natAbs).1
 have a2:=isqrt_le z.natAbs
 have f1:Fits (isqrt z.natAbs:Nat):=by unfold Fits at *; simp;omega
 have f2:Fits ((isqrt z.natAbs:Nat)*(isqrt z.natAbs:Nat):Int):=by
  rw[← Int.natCast_mul]
  unfold Fits at *; rw[Int.natAbs_natCast];omega
 refine⟨⟨f1,f2⟩,fun H=>?_,fun H=>?_⟩
 ·rw[Root3_ok _ (txt_short fz),opI1,ival_txt fz]
  simp only[rootD]
  rw[if_neg (by omega)]
 ·rw[Mul3_ok _ _ (txt_short f1) (txt_short f1),opI_txt f1 f1,fitD_of f2]
theorem add_one3 {z:Int} (fz:Fits z) (f1:Fits (z+1)) (H:Hp):callV cS false (fnV 119) [.d (.s (txt z)),.d (.s [49])] H=some (.val (.d (.tup [.s (txt (z+1)),.i .i64 0])),H):=by
 have:=Add3_ok (txt z) [49] (txt_short fz) short_48.2 H
 rw[← txt_one,opI_txt fz fits_one,fitD_of f1,txt_one] at this
 exact this
set_option maxHeartbeats 4000000 in
theorem root5_ok {q:Rat} (f:RFits q) (h0:0≤q.num) {m:Nat} (hm:m≤30) (up:Bool) (H:Hp):callV cS false (fnV 136) [.d (dR q),.d (.i .i64 m),.d (.b up)] H=some (.val (.d (rootD5 up ((10 ^ m:Nat):Int) q)),H):=by
 rw[callV_fn (sf:=c136) rfl rfl rfl rfl]
 have tn:=tens_ok (m:=2*m) (by omega)
 have fT:Fits ((10 ^ (2*m):Nat):Int):=fits_pow (by omega)
 have m1:=Mul3_ok (txt q.num) (txt ((10 ^ (2*m):Nat):Int)) (txt_short f.1) (txt_short fT)
 rw[opI_txt f.1 fT] at m1
 have eT:q.num*((10 ^ (2*m):Nat):Int)=q.num*((10 ^ m:Nat):Int)*((10 ^ m:Nat):Int):=by
  rw[Int.mul_assoc,← Int.natCast_mul,← Nat.pow_add,Nat.two_mul]
 rw[eT] at m1
 have wm:IntKind.i64.wrap (2*(m:Int))=2*(m:Int):=wr64 (by omega) (by omega)
 rw[show ((2*m:Nat):Int)=2*(m:Int) by omega] at tn
 have hT:0≤((10 ^ m:Nat):Int):=Int.natCast_nonneg _
 have hx0:0≤q.num*((10 ^ m:Nat):Int)*((10 ^ m:Nat):Int):=Int.mul_nonneg (Int.mul_nonneg h0 hT) hT
 unfold rootD5 rootHi rootE rootM
 simp only[dR]
 generalize ((10 ^ (2*m):Nat):Int)=TT at *
 generalize q.num*((10 ^ m:Nat):Int)*((10 ^ m:Nat):Int)=x at *
 by_cases fx:Fits x
 ·have hd:¬ (q.den:Int)=0:=by have:=den_pos q;omega
  have d1:=call_div3 fx f.2 hd
  obtain⟨g1,g2⟩:=ediv_fits fx f.2 hd
  have z0:0≤x/(q.den:Int):=Int.ediv_nonneg hx0 (by omega)
  have ru:=rdI_fits (up:=true) fx (den_pos q) f.2
  unfold rdI at ru
  rw[if_pos fx]
  rw[fitD_of fx] at m1
  obtain⟨⟨r1,r2⟩,r3,r4⟩:=root_calls z0 g1
  have hup:=isqrt_up (x/(q.den:Int)).natAbs
  generalize hz:x/(q.den:Int)=z at *
  generalize hr:x%(q.den:Int)=r at *
  cases up with
  | false =>
    rw[if_neg (by simp)]
    clear ru hup
    generalize ((isqrt z.natAbs:Nat):Int)=M at *
    generalize txt (M*M)=t1 at *
    generalize txt M=t2 at *
    generalize txt z=t3 at *
    generalize txt r=t4 at *
    simp[c136,b136,put,eset,eget,D.cells,V.cells,allD,hget,hset,fz,zC,zN,wm,tn,m1,d1,r3,r4]
  | true =>
    rw[if_pos rfl]
    by_cases hr0:r=0
    ·subst hr0
     rw[txt_zero] at d1
     by_cases hs:((isqrt z.natAbs:Nat):Int)*(isqrt z.natAbs:Nat)=z
     ·rw[if_pos (by simp[hs])]
      rw[hs] at r4
      clear ru hup
      generalize ((isqrt z.natAbs:Nat):Int)=M at *
      generalize txt M=t2 at *
      generalize txt z=t3 at *
      simp[c136,b136,put,eset,eget,D.cells,V.cells,allD,hget,hset,fz,zC,zN,wm,tn,m1,d1,r3,r4]
     ·rw[if_neg (by simp[hs])]
      have fM:Fits (((isqrt z.natAbs:Nat):Int)+1):=by
       have a1:=(isqrt_spec z.natAbs).1
       have a2:=isqrt_le z.natAbs
       by_cases h2:isqrt z.natAbs≤1
       ·unfold Fits
        have:(((isqrt z.natAbs:Nat):Int)+1).natAbs≤2:=by omega
        exact Nat.lt_of_le_of_lt this (Nat.lt_of_lt_of_le (show 2<10 ^ 1 by omega) (Nat.pow_le_pow_right (by omega) (by omega)))
       ·have a3:2*isqrt z.natAbs≤isqrt z.natAbs*isqrt z.natAbs:=Nat.mul_le_mul_right _ (by omega)
        unfold Fits at g1 ⊢
        omega
      have ad:=add_one3 r1 fM
      have hb:(txt ((isqrt z.natAbs:Nat)*(isqrt z.natAbs:Nat):Int)==txt z)=false:=by rw[beq_eq_false_iff_ne];exact fun k=>hs (txt_inj k)
      clear ru hup
      generalize ((isqrt z.natAbs:Nat):Int)=M at *
      generalize txt (M+1)=t1 at *
      generalize txt (M*M)=t5 at *
      generalize txt M=t2 at *
      generalize txt z=t3 at *
      simp[c136,b136,put,eset,eget,D.cells,V.cells,allD,hget,hset,fz,zC,zN,wm,tn,m1,d1,r3,r4,ad,bne,hb]
    ·have hne:(txt r==[48])=false:=by rw[beq_eq_false_iff_ne];exact fun k=>hr0 (txt_eq_zero.1 k)
     rw[if_neg (by simp[hr0])]
     rw[if_pos ⟨rfl,hr0⟩] at ru
     have ad:=add_one3 g1 ru
     obtain⟨⟨u1,u2⟩,u3,u4⟩:=root_calls (show 0≤z+1 by omega) ru
     rw[show (z+1).natAbs=z.natAbs+1 by omega] at u1 u2 u3 u4
     rcases hup with ⟨e1,e2⟩ | ⟨e1,e2⟩
     ·have e3:((isqrt (z.natAbs+1):Nat):Int)*(isqrt (z.natAbs+1):Nat)=z+1:=by rw[← Int.natCast_mul,e1];omega
      rw[e3] at u4
      have e4:((isqrt z.natAbs:Nat):Int)+1=(isqrt (z.natAbs+1):Nat):=by omega
      rw[e4]
      clear e1 e2 e3 e4 r1 r2 r3 r4 u1 u2
      generalize ((isqrt (z.natAbs+1):Nat):Int)=M at *
      generalize txt M=t2 at *
      generalize txt (z+1)=t1 at *
      generalize txt z=t3 at *
      generalize txt r=t4 at *
      simp[c136,b136,put,eset,eget,D.cells,V.cells,allD,hget,hset,fz,zC,zN,wm,tn,m1,d1,ad,u3,u4,bne,hne]
     ·rw[e2] at e1 u1 u2 u3 u4
      have hs:¬ ((isqrt z.natAbs:Nat):Int)*(isqrt z.natAbs:Nat)=z+1:=by rw[← Int.natCast_mul];omega
      have hb:(txt ((isqrt z.natAbs:Nat)*(isqrt z.natAbs:Nat):Int)==txt (z+1))=false:=by rw[beq_eq_false_iff_ne];exact fun k=>hs (txt_inj k)
      have fM:Fits (((isqrt z.natAbs:Nat):Int)+1):=by
       have a2:=isqrt_le z.natAbs
       unfold Fits at ru ⊢
       omega
      have ad2:=add_one3 u1 fM
      clear e1 e2 r1 r2 r3 r4 u1 u2 hs
      generalize ((isqrt z.natAbs:Nat):Int)=M at *
      generalize txt (M+1)=t6 at *
      generalize txt (M*M)=t5 at *
      generalize txt M=t2 at *
      generalize txt (z+1)=t1 at *
      generalize txt z=t3 at *
      generalize txt r=t4 at *
      simp[c136,b136,put,eset,eget,D.cells,V.cells,allD,hget,hset,fz,zC,zN,wm,tn,m1,d1,ad,ad2,u3,u4,bne,hne,hb]
 ·rw[if_neg fx]
  have h3:fitD x=errI:=by unfold fitD;rw[if_neg fx]
  rw[h3,errI] at m1
  simp[c136,b136,put,eset,eget,D.cells,V.cells,allD,hget,hset,fz,zC,zN,wm,tn,m1]
end
section
open Go Num
theorem rootD5_form (up:Bool) (T:Int) (q:Rat):∃ s b,rootD5 up T q=.tup [.s s,.b b]:=by
 unfold rootD5
 split<;>exact⟨_,_,rfl⟩
theorem fits_of_mul {x T:Int} (hT:0<T) (h:Fits (x*T)):Fits x:=by
 unfold Fits at *
 rw[Int.natAbs_mul] at h
 exact Nat.lt_of_le_of_lt (Nat.le_mul_of_pos_right _ (by omega)) h
set_option maxHeartbeats 4000000 in
theorem Sqrt5_ok (x:IV) (n:Int) (s:IVS x) (H:Hp):callV cS false (fnV 90) [.d x.D,.d (.i .i64 n)] H=some (.val (.d (workD [x] (sqrtX n x))),H):=by
 rw[callV_fn (sf:=c90) rfl rfl rfl rfl]
 have v1:=Valid5_ok x s
 obtain⟨a,b,c,d⟩:=x
 rw[workD_eq,show [IV.mk a b c d].all IV.ok=(IV.mk a b c d).ok by simp]
 simp only[IV.D] at v1 ⊢
 by_cases hok:(IV.mk a b c d).ok=true
 ·rw[hok] at v1 ⊢
  obtain⟨p,q,hx,⟨h1,h2⟩,hpq⟩:=ok_VQ hok
  have hX:sqrtX n ⟨a,b,c,d⟩=sqrtO n p q:=by simp only[sqrtX,hx]
  rw[hX,if_pos rfl]
  have cm:=cmp4_T a b [48] [49] s.1.1 s.1.2 short_48.1 short_48.2
  rw[show cmpT a b [48] [49]=cmpQ p 0 by simp only[cmpT,h1,RQ_zero]] at cm
  obtain⟨f1,rfl,rfl⟩:=RQ_some h1
  obtain⟨f2,rfl,rfl⟩:=RQ_some h2
  unfold sqrtO
  by_cases hc:cmpQ p 0<0
  ·rw[if_neg (fun k=>by omega)]
   simp[c90,b90,put,eset,eget,D.cells,V.cells,allD,hget,hset,fz,zC,zN,zero5_ok,v1,cm,hc,resD,errV,zI,setParts,chunk1,allCellsD]
  ·by_cases n0:n<0
   ·rw[if_neg (fun k=>by omega)]
    simp[c90,b90,put,eset,eget,D.cells,V.cells,allD,hget,hset,fz,zC,zN,zero5_ok,v1,cm,hc,n0,resD,errV,zI,setParts,chunk1,allCellsD]
   ·by_cases n1:30<n
    ·rw[if_neg (fun k=>by omega)]
     simp[c90,b90,put,eset,eget,D.cells,V.cells,allD,hget,hset,fz,zC,zN,zero5_ok,v1,cm,hc,n0,n1,resD,errV,zI,setParts,chunk1,allCellsD]
    ·obtain⟨m,rfl⟩:=Int.eq_ofNat_of_zero_le (show 0≤n by omega)
     have p0:0≤p:=cmpQ_ge.1 (by omega)
     have q0:0≤q:=Rat.le_trans p0 hpq
     have hm:m≤30:=by omega
     have A:=root5_ok f1 (Rat.num_nonneg.2 p0) hm false
     have B:=root5_ok f2 (Rat.num_nonneg.2 q0) hm true
     have eT:tenP (m:Int)=((10 ^ m:Nat):Int):=rfl
     rw[eT]
     have tn:=tens_ok (m:=m) (by omega)
     have fT:=fits_pow10 hm
     have hT:0<((10 ^ m:Nat):Int):=tenP_pos (m:Int)
     generalize ((10 ^ m:Nat):Int)=T at *
     simp only[dR] at A B
     by_cases g1:Fits (p.num*T*T)
     ·by_cases g2:Fits (q.num*T*T)
      ·rw[if_pos ⟨by omega,by omega,⟨fits_of_mul hT g1,g1⟩,fits_of_mul hT g2,g2⟩]
       rw[rootD5,if_pos g1] at A
       rw[rootD5,if_pos g2] at B
       rw[if_neg (by simp)] at A
       rw[if_pos rfl] at B
       have r1:=(rootM_fits (Rat.num_nonneg.2 p0) f1 g1).1
       have r2:Fits (rootHi T q):=by
        have:=rootM_fits (Rat.num_nonneg.2 q0) f2 g2
        unfold rootHi
        split
        ·exact this.1
        ·exact this.2
       have M1:=Make3_ok (txt (rootM T p)) (txt T) (txt_short r1) (txt_short fT)
       have M2:=Make3_ok (txt (rootHi T q)) (txt T) (txt_short r2) (txt_short fT)
       rw[opI_txt r1 fT,makeD,if_neg (by omega)] at M1
       rw[opI_txt r2 fT,makeD,if_neg (by omega)] at M2
       have R:=result5_ok (txt (Rat.divInt (rootM T p) T).num) (txt (Rat.divInt (rootM T p) T).den) (txt (Rat.divInt (rootHi T q) T).num) (txt (Rat.divInt (rootHi T q) T).den) 0 0
       simp only[pairD,okR,if_true,resD,dI4,dR] at R M1 M2 ⊢
       generalize Rat.divInt (rootM T p) T=w1 at *
       generalize Rat.divInt (rootHi T q) T=w2 at *
       generalize (m:Int)=n at *
       simp[c90,b90,put,eset,eget,D.cells,V.cells,allD,hget,hset,fz,zC,zN,zero5_ok,v1,cm,hc,n0,n1,A,B,tn,M1,M2,R,setParts,chunk1,allCellsD]
      ·rw[if_neg (fun k=>g2 k.2.2.2.2)]
       rw[rootD5,if_neg g2] at B
       obtain⟨z1,z2,hz⟩:=rootD5_form false T p
       rw[hz] at A
       generalize (m:Int)=n at *
       cases z2<;>simp[c90,b90,put,eset,eget,D.cells,V.cells,allD,hget,hset,fz,zC,zN,zero5_ok,v1,cm,hc,n0,n1,A,B,resD,errV,zI,setParts,chunk1,allCellsD]
     ·rw[if_neg (fun k=>g1 k.2.2.1.2)]
      rw[rootD5,if_neg g1] at A
      obtain⟨z1,z2,hz⟩:=rootD5_form true T q
      rw[hz] at B
      generalize (m:Int)=n at *
      simp[c90,b90,put,eset,eget,D.cells,V.cells,allD,hget,hset,fz,zC,zN,zero5_ok,v1,cm,hc,n0,n1,A,B,resD,errV,zI,setParts,chunk1,allCellsD]
 ·have hb:(IV.mk a b c d).ok=false:=Bool.eq_false_iff.2 hok
  rw[hb] at v1 ⊢
  simp[c90,b90,put,eset,eget,D.cells,V.cells,allD,hget,hset,fz,zC,zN,zero5_ok,v1,errV,zI,setParts,chunk1,allCellsD]
theorem wnt_r0 {A B r:IV}{pA pB o8 o9:Nat}{xs es:List V}{H G:Hp}{n e:Int} (c:CS A B pA pB o8 o9 xs es H G) (hx:xs.length=0) (he:es.length=0)
 (hf:callV cS false (fnV 84) [.d (.agg [.s A.a,.s A.b,.s A.c,.s A.d]),.d (.agg [.s B.a,.s B.b,.s B.c,.s B.d])] (.box 29 [.d (.s []),.d (.s []),.d (.s []),.d (.s [])]::G)=some (.val (.d (.tup [(.agg [.s r.a,.s r.b,.s r.c,.s r.d]),.i .i64 e])),.box 29 [.d (.s []),.d (.s []),.d (.s []),.d (.s [])]::G)) :
 evI cS l32_0 none (clE n pA pB o8 o9 0) G=some (.nor,clE n pA pB o8 o9 1,hset (hset (.box 29 [.d (.s r.a),.d (.s r.b),.d (.s r.c),.d (.s r.d)]::G) o8 (.gr 29 4 (xs++[.d (.agg [.s r.a,.s r.b,.s r.c,.s r.d])]))) o9 (.gr 31 1 (es++[.d (.i .i64 e)]))):=by
 have w:IntKind.i64.wrap 1=1:=wr64 (by omega) (by omega)
 simp[l32_0,clE,put,eset,eget,D.cells,V.cells,allD,hget,hset,fz,zC,zN,c.f,hf,hx,he,w,hset_len,evApp,elemsOf,allCells,allCellsD,setParts,chunk1,notGr]
theorem wnt_r1 {A B r:IV}{pA pB o8 o9:Nat}{xs es:List V}{H G:Hp}{n e:Int} (c:CS A B pA pB o8 o9 xs es H G) (hx:xs.length=1) (he:es.length=1)
 (hf:callV cS false (fnV 85) [.d (.agg [.s A.a,.s A.b,.s A.c,.s A.d]),.d (.agg [.s B.a,.s B.b,.s B.c,.s B.d])] (.box 29 [.d (.s []),.d (.s []),.d (.s []),.d (.s [])]::G)=some (.val (.d (.tup [(.agg [.s r.a,.s r.b,.s r.c,.s r.d]),.i .i64 e])),.box 29 [.d (.s []),.d (.s []),.d (.s []),.d (.s [])]::G)) :
 evI cS l32_0 none (clE n pA pB o8 o9 1) G=some (.nor,clE n pA pB o8 o9 2,hset (hset (.box 29 [.d (.s r.a),.d (.s r.b),.d (.s r.c),.d (.s r.d)]::G) o8 (.gr 29 4 (xs++[.d (.agg [.s r.a,.s r.b,.s r.c,.s r.d])]))) o9 (.gr 31 1 (es++[.d (.i .i64 e)]))):=by
 have w:IntKind.i64.wrap 2=2:=wr64 (by omega) (by omega)
 simp[l32_0,clE,put,eset,eget,D.cells,V.cells,allD,hget,hset,fz,zC,zN,c.f,hf,hx,he,w,hset_len,evApp,elemsOf,allCells,allCellsD,setParts,chunk1,notGr]
theorem wnt_r2 {A B r:IV}{pA pB o8 o9:Nat}{xs es:List V}{H G:Hp}{n e:Int} (c:CS A B pA pB o8 o9 xs es H G) (hx:xs.length=2) (he:es.length=2)
 (hf:callV cS false (fnV 86) [.d (.agg [.s A.a,.s A.b,.s A.c,.s A.d]),.d (.agg [.s B.a,.s B.b,.s B.c,.s B.d])] (.box 29 [.d (.s []),.d (.s []),.d (.s []),.d (.s [])]::G)=some (.val (.d (.tup [(.agg [.s r.a,.s r.b,.s r.c,.s r.d]),.i .i64 e])),.box 29 [.d (.s []),.d (.s []),.d (.s []),.d (.s [])]::G)) :
 evI cS l32_0 none (clE n pA pB o8 o9 2) G=some (.nor,clE n pA pB o8 o9 3,hset (hset (.box 29 [.d (.s r.a),.d (.s r.b),.d (.s r.c),.d (.s r.d)]::G) o8 (.gr 29 4 (xs++[.d (.agg [.s r.a,.s r.b,.s r.c,.s r.d])]))) o9 (.gr 31 1 (es++[.d (.i .i64 e)]))):=by
 have w:IntKind.i64.wrap 3=3:=wr64 (by omega) (by omega)
 simp[l32_0,clE,put,eset,eget,D.cells,V.cells,allD,hget,hset,fz,zC,zN,c.f,hf,hx,he,w,hset_len,evApp,elemsOf,allCells,allCellsD,setParts,chunk1,notGr]
theorem wnt_r3 {A B r:IV}{pA pB o8 o9:Nat}{xs es:List V}{H G:Hp}{n e:Int} (c:CS A B pA pB o8 o9 xs es H G) (hx:xs.length=3) (he:es.length=3)
 (hf:callV cS false (fnV 87) [.d (.agg [.s A.a,.s A.b,.s A.c,.s A.d]),.d (.agg [.s B.a,.s B.b,.s B.c,.s B.d])] (.box 29 [.d (.s []),.d (.s []),.d (.s []),.d (.s [])]::G)=some (.val (.d (.tup [(.agg [.s r.a,.s r.b,.s r.c,.s r.d]),.i .i64 e])),.box 29 [.d (.s []),.d (.s []),.d (.s []),.d (.s [])]::G)) :
 evI cS l32_0 none (clE n pA pB o8 o9 3) G=some (.nor,clE n pA pB o8 o9 4,hset (hset (.box 29 [.d (.s r.a),.d (.s r.b),.d (.s r.c),.d (.s r.d)]::G) o8 (.gr 29 4 (xs++[.d (.agg [.s r.a,.s r.b,.s r.c,.s r.d])]))) o9 (.gr 31 1 (es++[.d (.i .i64 e)]))):=by
 have w:IntKind.i64.wrap 4=4:=wr64 (by omega) (by omega)
 simp[l32_0,clE,put,eset,eget,D.cells,V.cells,allD,hget,hset,fz,zC,zN,c.f,hf,hx,he,w,hset_len,evApp,elemsOf,allCells,allCellsD,setParts,chunk1,notGr]
theorem wnt_r4 {A B r:IV}{pA pB o8 o9:Nat}{xs es:List V}{H G:Hp}{n e:Int} (c:CS A B pA pB o8 o9 xs es H G) (hx:xs.length=4) (he:es.length=4)
 (hf:callV cS false (fnV 88) [.d (.agg [.s A.a,.s A.b,.s A.c,.s A.d]),.d (.agg [.s B.a,.s B.b,.s B.c,.s B.d])] (.box 29 [.d (.s []),.d (.s []),.d (.s []),.d (.s [])]::G)=some (.val (.d (.tup [(.agg [.s r.a,.s r.b,.s r.c,.s r.d]),.i .i64 e])),.box 29 [.d (.s []),.d (.s []),.d (.s []),.d (.s [])]::G)) :
 evI cS l32_0 none (clE n pA pB o8 o9 4) G=some (.nor,clE n pA pB o8 o9 5,hset (hset (.box 29 [.d (.s r.a),.d (.s r.b),.d (.s r.c),.d (.s r.d)]::G) o8 (.gr 29 4 (xs++[.d (.agg [.s r.a,.s r.b,.s r.c,.s r.d])]))) o9 (.gr 31 1 (es++[.d (.i .i64 e)]))):=by
 have w:IntKind.i64.wrap 5=5:=wr64 (by omega) (by omega)
 simp[l32_0,clE,put,eset,eget,D.cells,V.cells,allD,hget,hset,fz,zC,zN,c.f,hf,hx,he,w,hset_len,evApp,elemsOf,allCells,allCellsD,setParts,chunk1,notGr]
theorem wnt_r5 {A B r:IV}{pA pB o8 o9:Nat}{xs es:List V}{H G:Hp}{n e:Int} (c:CS A B pA pB o8 o9 xs es H G) (hx:xs.length=5) (he:es.length=5)
 (hf:callV cS false (fnV 89) [.d (.agg [.s A.a,.s A.b,.s A.c,.s A.d]),.d (.agg [.s B.a,.s B.b,.s B.c,.s B.d])] (.box 29 [.d (.s []),.d (.s []),.d (.s []),.d (.s [])]::G)=some (.val (.d (.tup [(.agg [.s r.a,.s r.b,.s r.c,.s r.d]),.i .i64 e])),.box 29 [.d (.s []),.d (.s []),.d (.s []),.d (.s [])]::G)) :
 evI cS l32_0 none (clE n pA pB o8 o9 5) G=some (.nor,clE n pA pB o8 o9 6,hset (hset (.box 29 [.d (.s r.a),.d (.s r.b),.d (.s r.c),.d (.s r.d)]::G) o8 (.gr 29 4 (xs++[.d (.agg [.s r.a,.s r.b,.s r.c,.s r.d])]))) o9 (.gr 31 1 (es++[.d (.i .i64 e)]))):=by
 have w:IntKind.i64.wrap 6=6:=wr64 (by omega) (by omega)
 simp[l32_0,clE,put,eset,eget,D.cells,V.cells,allD,hget,hset,fz,zC,zN,c.f,hf,hx,he,w,hset_len,evApp,elemsOf,allCells,allCellsD,setParts,chunk1,notGr]
theorem wnt_r6 {A B r:IV}{pA pB o8 o9:Nat}{xs es:List V}{H G:Hp}{n e:Int} (c:CS A B pA pB o8 o9 xs es H G) (hx:xs.length=6) (he:es.length=6)
 (hf:callV cS false (fnV 90) [.d (.agg [.s A.a,.s A.b,.s A.c,.s A.d]),.d (.i .i64 n)] (.box 29 [.d (.s []),.d (.s []),.d (.s []),.d (.s [])]::G)=some (.val (.d (.tup [(.agg [.s r.a,.s r.b,.s r.c,.s r.d]),.i .i64 e])),.box 29 [.d (.s []),.d (.s []),.d (.s []),.d (.s [])]::G)) :
 evI cS l32_0 none (clE n pA pB o8 o9 6) G=some (.nor,clE n pA pB o8 o9 7,hset (hset (.box 29 [.d (.s r.a),.d (.s r.b),.d (.s r.c),.d (.s r.d)]::G) o8 (.gr 29 4 (xs++[.d (.agg [.s r.a,.s r.b,.s r.c,.s r.d])]))) o9 (.gr 31 1 (es++[.d (.i .i64 e)]))):=by
 have w:IntKind.i64.wrap 7=7:=wr64 (by omega) (by omega)
 simp[l32_0,clE,put,eset,eget,D.cells,V.cells,allD,hget,hset,fz,zC,zN,c.f,hf,hx,he,w,hset_len,evApp,elemsOf,allCells,allCellsD,setParts,chunk1,notGr]
theorem wnt_r7 {A B r:IV}{pA pB o8 o9:Nat}{xs es:List V}{H G:Hp}{n e:Int} (c:CS A B pA pB o8 o9 xs es H G) (hx:xs.length=7) (he:es.length=7)
 (hf:callV cS false (fnV 91) [.d (.agg [.s A.a,.s A.b,.s A.c,.s A.d]),.d (.i .i64 n)] (.box 29 [.d (.s []),.d (.s []),.d (.s []),.d (.s [])]::G)=some (.val (.d (.tup [(.agg [.s r.a,.s r.b,.s r.c,.s r.d]),.i .i64 e])),.box 29 [.d (.s []),.d (.s []),.d (.s []),.d (.s [])]::G)) :
 evI cS l32_0 none (clE n pA pB o8 o9 7) G=some (.nor,clE n pA pB o8 o9 8,hset (hset (.box 29 [.d (.s r.a),.d (.s r.b),.d (.s r.c),.d (.s r.d)]::G) o8 (.gr 29 4 (xs++[.d (.agg [.s r.a,.s r.b,.s r.c,.s r.d])]))) o9 (.gr 31 1 (es++[.d (.i .i64 e)]))):=by
 have w:IntKind.i64.wrap 8=8:=wr64 (by omega) (by omega)
 simp[l32_0,clE,put,eset,eget,D.cells,V.cells,allD,hget,hset,fz,zC,zN,c.f,hf,hx,he,w,hset_len,evApp,elemsOf,allCells,allCellsD,setParts,chunk1,notGr]
theorem wnt_end {pA pB o8 o9:Nat}{G:Hp}{n:Int}:evI cS l32_0 none (clE n pA pB o8 o9 8) G=some (.ex 0,clE n pA pB o8 o9 8++[(14,.d (.b false))],G):=by
 simp[l32_0,clE,put,eset,eget,D.cells,V.cells,allD,hget,hset,fz,zC,zN]
theorem wnt_ok {A B r0 r1 r2 r3 r4 r5 r6 r7:IV}{n e0 e1 e2 e3 e4 e5 e6 e7:Int}{H:Hp}{o:EO} (hG:Glb H) (hE:ErrAt H o)
 (f0:∀ h,Glb h→ErrAt h o→callV cS false (fnV 84) [.d (.agg [.s A.a,.s A.b,.s A.c,.s A.d]),.d (.agg [.s B.a,.s B.b,.s B.c,.s B.d])] h=some (.val (.d (.tup [(.agg [.s r0.a,.s r0.b,.s r0.c,.s r0.d]),.i .i64 e0])),h))
 (f1:∀ h,Glb h→ErrAt h o→callV cS false (fnV 85) [.d (.agg [.s A.a,.s A.b,.s A.c,.s A.d]),.d (.agg [.s B.a,.s B.b,.s B.c,.s B.d])] h=some (.val (.d (.tup [(.agg [.s r1.a,.s r1.b,.s r1.c,.s r1.d]),.i .i64 e1])),h))
 (f2:∀ h,Glb h→ErrAt h o→callV cS false (fnV 86) [.d (.agg [.s A.a,.s A.b,.s A.c,.s A.d]),.d (.agg [.s B.a,.s B.b,.s B.c,.s B.d])] h=some (.val (.d (.tup [(.agg [.s r2.a,.s r2.b,.s r2.c,.s r2.d]),.i .i64 e2])),h))
 (f3:∀ h,Glb h→ErrAt h o→callV cS false (fnV 87) [.d (.agg [.s A.a,.s A.b,.s A.c,.s A.d]),.d (.agg [.s B.a,.s B.b,.s B.c,.s B.d])] h=some (.val (.d (.tup [(.agg [.s r3.a,.s r3.b,.s r3.c,.s r3.d]),.i .i64 e3])),h))
 (f4:∀ h,Glb h→ErrAt h o→callV cS false (fnV 88) [.d (.agg [.s A.a,.s A.b,.s A.c,.s A.d]),.d (.agg [.s B.a,.s B.b,.s B.c,.s B.d])] h=some (.val (.d (.tup [(.agg [.s r4.a,.s r4.b,.s r4.c,.s r4.d]),.i .i64 e4])),h))
 (f5:∀ h,Glb h→ErrAt h o→callV cS false (fnV 89) [.d (.agg [.s A.a,.s A.b,.s A.c,.s A.d]),.d (.agg [.s B.a,.s B.b,.s B.c,.s B.d])] h=some (.val (.d (.tup [(.agg [.s r5.a,.s r5.b,.s r5.c,.s r5.d]),.i .i64 e5])),h))
 (f6:∀ h,Glb h→ErrAt h o→callV cS false (fnV 90) [.d (.agg [.s A.a,.s A.b,.s A.c,.s A.d]),.d (.i .i64 n)] h=some (.val (.d (.tup [(.agg [.s r6.a,.s r6.b,.s r6.c,.s r6.d]),.i .i64 e6])),h))
 (f7:∀ h,Glb h→ErrAt h o→callV cS false (fnV 91) [.d (.agg [.s A.a,.s A.b,.s A.c,.s A.d]),.d (.i .i64 n)] h=some (.val (.d (.tup [(.agg [.s r7.a,.s r7.b,.s r7.c,.s r7.d]),.i .i64 e7])),h)) :
 callV cS false (fnV 32) [.d (.agg [.s A.a,.s A.b,.s A.c,.s A.d]),.d (.agg [.s B.a,.s B.b,.s B.c,.s B.d]),.d (.i .i64 n)] H=some (.val (.d (.tup [.ls [(.agg [.s r0.a,.s r0.b,.s r0.c,.s r0.d]),(.agg [.s r1.a,.s r1.b,.s r1.c,.s r1.d]),(.agg [.s r2.a,.s r2.b,.s r2.c,.s r2.d]),(.agg [.s r3.a,.s r3.b,.s r3.c,.s r3.d]),(.agg [.s r4.a,.s r4.b,.s r4.c,.s r4.d]),(.agg [.s r5.a,.s r5.b,.s r5.c,.s r5.d]),(.agg [.s r6.a,.s r6.b,.s r6.c,.s r6.d]),(.agg [.s r7.a,.s r7.b,.s r7.c,.s r7.d])],.ls [.i .i64 e0,.i .i64 e1,.i .i64 e2,.i .i64 e3,.i .i64 e4,.i .i64 e5,.i .i64 e6,.i .i64 e7]])),H):=by
 rw[callV_fn (sf:=c32) rfl rfl rfl rfl]
 obtain⟨G,eG⟩:∃ G:Hp,G=.gr 31 1 []::.gr 29 4 []::.gr 31 1 []::.gr 29 4 []::.box 29 [.d (.s B.a),.d (.s B.b),.d (.s B.c),.d (.s B.d)]::.box 29 [.d (.s A.a),.d (.s A.b),.d (.s A.c),.d (.s A.d)]::H:=⟨_,rfl⟩
 have c0:CS A B H.length (H.length+1) (H.length+1+1+1+1) (H.length+1+1+1+1+1) [] [] H G:=by
  subst eG
  refine⟨by simp[put,eset,eget,D.cells,V.cells,allD,hget,hset,fz,zC,zN],by simp[put,eset,eget,D.cells,V.cells,allD,hget,hset,fz,zC,zN],by simp[put,eset,eget,D.cells,V.cells,allD,hget,hset,fz,zC,zN],by simp[put,eset,eget,D.cells,V.cells,allD,hget,hset,fz,zC,zN],⟨[_,_,_,_,_,_],rfl⟩,by omega,by omega,by omega,by omega,by omega,by omega,by omega⟩
 have q0:=wnt_r0 (n:=n) c0 (by simp) (by simp) (f0 _ ((c0.over.cons).glb hG) ((c0.over.cons).err hE))
 have c1:=c0.next (.box 29 [.d (.s r0.a),.d (.s r0.b),.d (.s r0.c),.d (.s r0.d)]) (.d (.agg [.s r0.a,.s r0.b,.s r0.c,.s r0.d])) (.d (.i .i64 e0))
 simp only[List.nil_append,List.cons_append] at q0 c1
 generalize hset (hset (.box 29 [.d (.s r0.a),.d (.s r0.b),.d (.s r0.c),.d (.s r0.d)]::G) _ _) _ _=G1 at q0 c1
 have q1:=wnt_r1 (n:=n) c1 (by simp) (by simp) (f1 _ ((c1.over.cons).glb hG) ((c1.over.cons).err hE))
 have c2:=c1.next (.box 29 [.d (.s r1.a),.d (.s r1.b),.d (.s r1.c),.d (.s r1.d)]) (.d (.agg [.s r1.a,.s r1.b,.s r1.c,.s r1.d])) (.d (.i .i64 e1))
 simp only[List.nil_append,List.cons_append] at q1 c2
 generalize hset (hset (.box 29 [.d (.s r1.a),.d (.s r1.b),.d (.s r1.c),.d (.s r1.d)]::G1) _ _) _ _=G2 at q1 c2
 have q2:=wnt_r2 (n:=n) c2 (by simp) (by simp) (f2 _ ((c2.over.cons).glb hG) ((c2.over.cons).err hE))
 have c3:=c2.next (.box 29 [.d (.s r2.a),.d (.s r2.b),.d (.s r2.c),.d (.s r2.d)]) (.d (.agg [.s r2.a,.s r2.b,.s r2.c,.s r2.d])) (.d (.i .i64 e2))
 simp only[List.nil_append,List.cons_append] at q2 c3
 generalize hset (hset (.box 29 [.d (.s r2.a),.d (.s r2.b),.d (.s r2.c),.d (.s r2.d)]::G2) _ _) _ _=G3 at q2 c3
 have q3:=wnt_r3 (n:=n) c3 (by simp) (by simp) (f3 _ ((c3.over.cons).glb hG) ((c3.over.cons).err hE))
 have c4:=c3.next (.box 29 [.d (.s r3.a),.d (.s r3.b),.d (.s r3.c),.d (.s r3.d)]) (.d (.agg [.s r3.a,.s r3.b,.s r3.c,.s r3.d])) (.d (.i .i64 e3))
 simp only[List.nil_append,List.cons_append] at q3 c4
 generalize hset (hset (.box 29 [.d (.s r3.a),.d (.s r3.b),.d (.s r3.c),.d (.s r3.d)]::G3) _ _) _ _=G4 at q3 c4
 have q4:=wnt_r4 (n:=n) c4 (by simp) (by simp) (f4 _ ((c4.over.cons).glb hG) ((c4.over.cons).err hE))
 have c5:=c4.next (.box 29 [.d (.s r4.a),.d (.s r4.b),.d (.s r4.c),.d (.s r4.d)]) (.d (.agg [.s r4.a,.s r4.b,.s r4.c,.s r4.d])) (.d (.i .i64 e4))
 simp only[List.nil_append,List.cons_append] at q4 c5
 generalize hset (hset (.box 29 [.d (.s r4.a),.d (.s r4.b),.d (.s r4.c),.d (.s r4.d)]::G4) _ _) _ _=G5 at q4 c5
 have q5:=wnt_r5 (n:=n) c5 (by simp) (by simp) (f5 _ ((c5.over.cons).glb hG) ((c5.over.cons).err hE))
 have c6:=c5.next (.box 29 [.d (.s r5.a),.d (.s r5.b),.d (.s r5.c),.d (.s r5.d)]) (.d (.agg [.s r5.a,.s r5.b,.s r5.c,.s r5.d])) (.d (.i .i64 e5))
 simp only[List.nil_append,List.cons_append] at q5 c6
 generalize hset (hset (.box 29 [.d (.s r5.a),.d (.s r5.b),.d (.s r5.c),.d (.s r5.d)]::G5) _ _) _ _=G6 at q5 c6
 have q6:=wnt_r6 (n:=n) c6 (by simp) (by simp) (f6 _ ((c6.over.cons).glb hG) ((c6.over.cons).err hE))
 have c7:=c6.next (.box 29 [.d (.s r6.a),.d (.s r6.b),.d (.s r6.c),.d (.s r6.d)]) (.d (.agg [.s r6.a,.s r6.b,.s r6.c,.s r6.d])) (.d (.i .i64 e6))
 simp only[List.nil_append,List.cons_append] at q6 c7
 generalize hset (hset (.box 29 [.d (.s r6.a),.d (.s r6.b),.d (.s r6.c),.d (.s r6.d)]::G6) _ _) _ _=G7 at q6 c7
 have q7:=wnt_r7 (n:=n) c7 (by simp) (by simp) (f7 _ ((c7.over.cons).glb hG) ((c7.over.cons).err hE))
 have c8:=c7.next (.box 29 [.d (.s r7.a),.d (.s r7.b),.d (.s r7.c),.d (.s r7.d)]) (.d (.agg [.s r7.a,.s r7.b,.s r7.c,.s r7.d])) (.d (.i .i64 e7))
 simp only[List.nil_append,List.cons_append] at q7 c8
 generalize hset (hset (.box 29 [.d (.s r7.a),.d (.s r7.b),.d (.s r7.c),.d (.s r7.d)]::G7) _ _) _ _=G8 at q7 c8
 have q8:=wnt_end (G:=G8) (n:=n) (pA:=H.length) (pB:=H.length+1) (o8:=H.length+1+1+1+1) (o9:=H.length+1+1+1+1+1)
 have lp:evI cS (.loop l32_0) none (clE n H.length (H.length+1) (H.length+1+1+1+1) (H.length+1+1+1+1+1) 0) G=some (.ex 0,clE n H.length (H.length+1) (H.length+1+1+1+1) (H.length+1+1+1+1+1) 8++[(14,.d (.b false))],G8):=by
  rw[evI_loop,q0]
  simp only[thenR]
  rw[evI_loop,q1]
  simp only[thenR]
  rw[evI_loop,q2]
  simp only[thenR]
  rw[evI_loop,q3]
  simp only[thenR]
  rw[evI_loop,q4]
  simp only[thenR]
  rw[evI_loop,q5]
  simp only[thenR]
  rw[evI_loop,q6]
  simp only[thenR]
  rw[evI_loop,q7]
  simp only[thenR]
  rw[evI_loop,q8]
  rfl
 have hf:=fin_two (H:=H) (G:=G8) (ds:=[(.agg [.s r0.a,.s r0.b,.s r0.c,.s r0.d]),(.agg [.s r1.a,.s r1.b,.s r1.c,.s r1.d]),(.agg [.s r2.a,.s r2.b,.s r2.c,.s r2.d]),(.agg [.s r3.a,.s r3.b,.s r3.c,.s r3.d]),(.agg [.s r4.a,.s r4.b,.s r4.c,.s r4.d]),(.agg [.s r5.a,.s r5.b,.s r5.c,.s r5.d]),(.agg [.s r6.a,.s r6.b,.s r6.c,.s r6.d]),(.agg [.s r7.a,.s r7.b,.s r7.c,.s r7.d])]) (es:=[.i .i64 e0,.i .i64 e1,.i .i64 e2,.i .i64 e3,.i .i64 e4,.i .i64 e5,.i .i64 e6,.i .i64 e7]) c8.x c8.e c8.l8 c8.l9 c8.app
 rw[eG] at lp
 simp only[clE,Int.natCast_zero,show ((0:Nat):Int)=0 from rfl,show ((8:Nat):Int)=8 from rfl,List.cons_append,List.nil_append] at lp
 simp only[List.length_cons,List.length_nil] at hf
 simp[c32,b32,put,eset,eget,D.cells,V.cells,allD,hget,hset,fz,zC,zN,lp]
 exact hf
theorem cut_ok (l:List UInt8) (hl:l.length<9223372036854775808) (H:Hp):callV cS false (fnV 76) [.d (.s l)] H=some (.val (.d (.s (l.take 210))),H):=by
 rw[callV_fn (sf:=c76) rfl rfl rfl rfl]
 by_cases h:l.length≤210
 ·have e:l.take 210=l:=List.take_of_length_le h
  have h':(l.length:Int)≤210:=by omega
  have h2:¬ (210:Int)<(l.length:Int):=by omega
  rw[e]
  simp[c76,b76,put,eset,eget,D.cells,V.cells,allD,hget,hset,fz,zC,zN,bounds,boundOf,h,h',h2]
 ·have h':¬ (l.length:Int)≤210:=by omega
  have h2:(210:Int)<(l.length:Int):=by omega
  have h3:(210:Int)≤(l.length:Int):=by omega
  have h4:210≤l.length:=by omega
  simp[c76,b76,put,eset,eget,D.cells,V.cells,allD,hget,hset,fz,zC,zN,bounds,boundOf,h,h',h2,h3,h4]
def IV.cut (x:IV):IV:=⟨x.a.take 210,x.b.take 210,x.c.take 210,x.d.take 210⟩
theorem cut_short (x:IV):IVS x.cut:=by
 have:∀ l:List UInt8,Short (l.take 210):=fun l=>by unfold Short;rw[List.length_take];omega
 exact⟨⟨this _,this _⟩,this _,this _⟩
theorem short_ok (x:IV) (ha:x.a.length<9223372036854775808) (hb:x.b.length<9223372036854775808) (hc:x.c.length<9223372036854775808) (hd:x.d.length<9223372036854775808) (H:Hp):callV cS false (fnV 28) [.d x.D] H=some (.val (.d x.cut.D),H):=by
 rw[callV_fn (sf:=c28) rfl rfl rfl rfl]
 obtain⟨a,b,c,d⟩:=x
 have c1:=cut_ok a ha
 have c2:=cut_ok b hb
 have c3:=cut_ok c hc
 have c4:=cut_ok d hd
 simp only[IV.D,IV.cut]
 generalize a.take 210=a' at *
 generalize b.take 210=b' at *
 generalize c.take 210=c' at *
 generalize d.take 210=d' at *
 simp[c28,b28,put,eset,eget,D.cells,V.cells,allD,hget,hset,fz,zC,zN,c1,c2,c3,c4,setParts,chunk1,allCellsD]
end
section
open Go Num
theorem pick5_ok (x n:Int) (hx:I64 x) (hn:I64 n) (h0:0<n) (H:Hp):callV cS false (fnV 11) [.d (.i .i64 x),.d (.i .i64 n)] H=some (.val (.d (.i .i64 (pickI x n))),H):=by
 rw[callV_fn (sf:=c11) rfl rfl rfl rfl]
 obtain⟨a1,a2⟩:=hx
 obtain⟨b1,b2⟩:=hn
 have hn0:¬ n=0:=by omega
 have r0:=pickI_range x h0
 have r2:IntKind.i64.wrap (pickI x n)=pickI x n:=wr64 (by omega) (by omega)
 by_cases hneg:x<0
 ·have w1:IntKind.i64.wrap (x+1)=x+1:=wr64 (by omega) (by omega)
  have w2:IntKind.i64.wrap (-(x+1))=-(x+1):=wr64 (by omega) (by omega)
  have r1:(-(x+1)).tmod n=pickI x n:=by rw[Int.tmod_eq_emod_of_nonneg (by omega),pickI,if_pos hneg]
  obtain⟨y,hy⟩:∃ y,y=-(x+1):=⟨_,rfl⟩
  rw[← hy] at w2 r1
  have hy':y=-x+-1:=by omega
  simp[c11,b11,put,eset,eget,D.cells,V.cells,allD,hget,hset,fz,zC,zN,hneg,w1,hn0]
  rw[← hy,w2]
  simp[r1,r2]
 ·have r1:x.tmod n=pickI x n:=by rw[Int.tmod_eq_emod_of_nonneg (by omega),pickI,if_neg hneg]
  simp[c11,b11,put,eset,eget,D.cells,V.cells,allD,hget,hset,fz,zC,zN,hneg,hn0,r1,r2]
end
end Go.Proofs.YtmiioebapckcoaaGreatDoor
