/- Part 16 of a proof: the small semantics, its soundness, the functions of the program in it, and the law. -/
import Derived.Test.YtmiioebapckcoaaGreatDoorJo
set_option linter.unusedVariables false
set_option linter.unusedSimpArgs false
set_option maxRecDepth 4000
namespace Go.Proofs.YtmiioebapckcoaaGreatDoor
section
open Go Num
theorem sane_r0 (H:Hp):evI cS (nthC 0 b10) none [] H=some (.nor,[],H):=by
 simp[nthC,b10,put,eset,eget,D.cells,V.cells,allD,hget,hset,fz,zC,zN]
theorem sane_r1 {H:Hp}{o:EO} (g:Glb H) (e:ErrAt H o):evI cS (nthC 1 b10) none [] H=some (.nor,[(1,.p H.length 0),(2,.d (.i .i64 0))],.box 29 [.d (.s ivC.a),.d (.s ivC.b),.d (.s ivC.c),.d (.s ivC.d)]::H):=by
 have f0:=sp_A H
 have f1:=sp_B H
 have f2:=sa1 g e
 simp[nthC,b10,put,eset,eget,D.cells,V.cells,allD,hget,hset,fz,zC,zN,setParts,chunk1,allCellsD,eqKs,eqCell,f0,f1,f2]
theorem sane_r2 {H:Hp}{o:EO} (g:Glb H) (e:ErrAt H o) (v1:V):evI cS (nthC 2 b10) none [(1,v1),(2,.d (.i .i64 0))] H=some (.nor,[(1,v1),(2,.d (.i .i64 0)),(4,.d (.i .i64 50))],.box 29 [.d (.s []),.d (.s []),.d (.s []),.d (.s [])]::H):=by
 have f0:=sp_D H
 have f1:=sp_E H
 have f2:=sa2 g e
 simp[nthC,b10,put,eset,eget,D.cells,V.cells,allD,hget,hset,fz,zC,zN,setParts,chunk1,allCellsD,eqKs,eqCell,f0,f1,f2]
theorem sane_r3 {H:Hp}{o:EO} (g:Glb H) (e:ErrAt H o) (v1:V):evI cS (nthC 3 b10) none [(1,v1),(2,.d (.i .i64 0)),(4,.d (.i .i64 50))] H=some (.nor,[(1,v1),(2,.d (.i .i64 0)),(4,.d (.i .i64 50)),(5,.p H.length 0),(6,.d (.i .i64 0))],.box 29 [.d (.s ivQ.a),.d (.s ivQ.b),.d (.s ivQ.c),.d (.s ivQ.d)]::H):=by
 have f0:=sp_D H
 have f1:=sp_F H
 have f2:=sa3 g e
 simp[nthC,b10,put,eset,eget,D.cells,V.cells,allD,hget,hset,fz,zC,zN,setParts,chunk1,allCellsD,eqKs,eqCell,f0,f1,f2]
theorem sane_r4 {H:Hp}{o:EO} (g:Glb H) (e:ErrAt H o) (v1 v5:V):evI cS (nthC 4 b10) none [(1,v1),(2,.d (.i .i64 0)),(4,.d (.i .i64 50)),(5,v5),(6,.d (.i .i64 0))] H=some (.nor,[(1,v1),(2,.d (.i .i64 0)),(4,.d (.i .i64 50)),(5,v5),(6,.d (.i .i64 0)),(7,.p H.length 0),(8,.d (.i .i64 0))],.box 29 [.d (.s ivR.a),.d (.s ivR.b),.d (.s ivR.c),.d (.s ivR.d)]::H):=by
 have f0:=sp_S H
 have f1:=sa4 g e
 simp[nthC,b10,put,eset,eget,D.cells,V.cells,allD,hget,hset,fz,zC,zN,setParts,chunk1,allCellsD,eqKs,eqCell,f0,f1]
theorem sane_r5 {H:Hp}{o:EO} (g:Glb H) (e:ErrAt H o) (v1 v5 v7:V):evI cS (nthC 5 b10) none [(1,v1),(2,.d (.i .i64 0)),(4,.d (.i .i64 50)),(5,v5),(6,.d (.i .i64 0)),(7,v7),(8,.d (.i .i64 0))] H=some (.nor,[(1,v1),(2,.d (.i .i64 0)),(4,.d (.i .i64 50)),(5,v5),(6,.d (.i .i64 0)),(7,v7),(8,.d (.i .i64 0)),(9,.p H.length 0),(10,.d (.i .i64 0))],.box 29 [.d (.s ivN.a),.d (.s ivN.b),.d (.s ivN.c),.d (.s ivN.d)]::H):=by
 have f0:=sp_D H
 have f1:=sp_M H
 have f2:=sa5 g e
 simp[nthC,b10,put,eset,eget,D.cells,V.cells,allD,hget,hset,fz,zC,zN,setParts,chunk1,allCellsD,eqKs,eqCell,f0,f1,f2]
theorem sane_r6 {H:Hp}{o:EO} (g:Glb H) (e:ErrAt H o) (v1 v5 v7 v9:V):evI cS (nthC 6 b10) none [(1,v1),(2,.d (.i .i64 0)),(4,.d (.i .i64 50)),(5,v5),(6,.d (.i .i64 0)),(7,v7),(8,.d (.i .i64 0)),(9,v9),(10,.d (.i .i64 0))] H=some (.nor,[(1,v1),(2,.d (.i .i64 0)),(4,.d (.i .i64 50)),(5,v5),(6,.d (.i .i64 0)),(7,v7),(8,.d (.i .i64 0)),(9,v9),(10,.d (.i .i64 0)),(12,.d (.i .i64 50))],.box 29 [.d (.s []),.d (.s []),.d (.s []),.d (.s [])]::H):=by
 have f0:=sp_D H
 have f1:=sp_O H
 have f2:=sa6 g e
 simp[nthC,b10,put,eset,eget,D.cells,V.cells,allD,hget,hset,fz,zC,zN,setParts,chunk1,allCellsD,eqKs,eqCell,f0,f1,f2]
theorem sane_r7 {H:Hp}{o:EO} (g:Glb H) (e:ErrAt H o) (v1 v5 v7 v9:V):evI cS (nthC 7 b10) none [(1,v1),(2,.d (.i .i64 0)),(4,.d (.i .i64 50)),(5,v5),(6,.d (.i .i64 0)),(7,v7),(8,.d (.i .i64 0)),(9,v9),(10,.d (.i .i64 0)),(12,.d (.i .i64 50))] H=some (.nor,[(1,v1),(2,.d (.i .i64 0)),(4,.d (.i .i64 50)),(5,v5),(6,.d (.i .i64 0)),(7,v7),(8,.d (.i .i64 0)),(9,v9),(10,.d (.i .i64 0)),(12,.d (.i .i64 50)),(13,.p H.length 0),(14,.d (.i .i64 0))],.box 29 [.d (.s ivU.a),.d (.s ivU.b),.d (.s ivU.c),.d (.s ivU.d)]::H):=by
 have f0:=rt_1_3 H
 have f1:=rt_2_3 H
 have f2:=sa7 g e
 simp[nthC,b10,put,eset,eget,D.cells,V.cells,allD,hget,hset,fz,zC,zN,setParts,chunk1,allCellsD,eqKs,eqCell,f0,f1,f2]
theorem sane_r8 {H:Hp}{o:EO} (g:Glb H) (e:ErrAt H o) (v1 v5 v7 v9 v13:V):evI cS (nthC 8 b10) none [(1,v1),(2,.d (.i .i64 0)),(4,.d (.i .i64 50)),(5,v5),(6,.d (.i .i64 0)),(7,v7),(8,.d (.i .i64 0)),(9,v9),(10,.d (.i .i64 0)),(12,.d (.i .i64 50)),(13,v13),(14,.d (.i .i64 0))] H=some (.nor,[(1,v1),(2,.d (.i .i64 0)),(4,.d (.i .i64 50)),(5,v5),(6,.d (.i .i64 0)),(7,v7),(8,.d (.i .i64 0)),(9,v9),(10,.d (.i .i64 0)),(12,.d (.i .i64 50)),(13,v13),(14,.d (.i .i64 0)),(15,.p H.length 0),(16,.d (.i .i64 0))],.box 26 [.d (.s ivW.1),.d (.s ivW.2)]::H):=by
 have f0:=sp_E H
 have f1:=sa8 g e
 simp[nthC,b10,put,eset,eget,D.cells,V.cells,allD,hget,hset,fz,zC,zN,setParts,chunk1,allCellsD,eqKs,eqCell,f0,f1]
set_option maxHeartbeats 1000000 in
theorem sane_r9 {H:Hp}{i1 i5 i7:Nat} (g1:hget H i1=some (.box 29 [.d (.s ivC.a),.d (.s ivC.b),.d (.s ivC.c),.d (.s ivC.d)])) (g5:hget H i5=some (.box 29 [.d (.s ivQ.a),.d (.s ivQ.b),.d (.s ivQ.c),.d (.s ivQ.d)])) (g7:hget H i7=some (.box 29 [.d (.s ivR.a),.d (.s ivR.b),.d (.s ivR.c),.d (.s ivR.d)])) (v9 v13 v15:V):evI cS (nthC 9 b10) none [(1,.p i1 0),(2,.d (.i .i64 0)),(4,.d (.i .i64 50)),(5,.p i5 0),(6,.d (.i .i64 0)),(7,.p i7 0),(8,.d (.i .i64 0)),(9,v9),(10,.d (.i .i64 0)),(12,.d (.i .i64 50)),(13,v13),(14,.d (.i .i64 0)),(15,v15),(16,.d (.i .i64 0))] H=some (.nor,[(1,.p i1 0),(5,.p i5 0),(7,.p i7 0),(9,v9),(10,.d (.i .i64 0)),(12,.d (.i .i64 50)),(13,v13),(14,.d (.i .i64 0)),(15,v15),(16,.d (.i .i64 0)),(17,.d (.b true))],H):=by
 have f0:=sp_C H
 have f1:=rt_1_4 H
 have f2:=rt_1_1 H
 have f3:=rt_7_5 H
 have f4:=rt_9_5 H
 simp only[nthC,b10]
 apply evI_drawP
 simp[evP,put,eset,eget,D.cells,V.cells,allD,hget,hset,fz,zC,zN,setParts,chunk1,allCellsD,eqKs,eqCell,g1,g5,g7,f0,f1,f2,f3,f4]
set_option maxHeartbeats 1000000 in
theorem sane_r10 {H:Hp}{i9 i13 i15:Nat} (g1:hget H i9=some (.box 29 [.d (.s ivN.a),.d (.s ivN.b),.d (.s ivN.c),.d (.s ivN.d)])) (g5:hget H i13=some (.box 29 [.d (.s ivU.a),.d (.s ivU.b),.d (.s ivU.c),.d (.s ivU.d)])) (g7:hget H i15=some (.box 26 [.d (.s ivW.1),.d (.s ivW.2)])) (v1 v5 v7:V):evI cS (nthC 10 b10) none [(1,v1),(5,v5),(7,v7),(9,.p i9 0),(10,.d (.i .i64 0)),(12,.d (.i .i64 50)),(13,.p i13 0),(14,.d (.i .i64 0)),(15,.p i15 0),(16,.d (.i .i64 0)),(17,.d (.b true))] H=some (.nor,[(1,v1),(5,v5),(7,v7),(17,.d (.b true)),(18,.d (.b true))],H):=by
 have f0:=sp_N H
 have f1:=rt_3_10 H
 have f2:=rt_7_10 H
 have f3:=rt_5_1 H
 simp only[nthC,b10]
 apply evI_drawP
 simp[evP,put,eset,eget,D.cells,V.cells,allD,hget,hset,fz,zC,zN,setParts,chunk1,allCellsD,eqKs,eqCell,g1,g5,g7,f0,f1,f2,f3]
set_option maxHeartbeats 1000000 in
theorem sane_r11 {H:Hp} (g:Glb H) {i1 i5 i7:Nat} (g1:hget H i1=some (.box 29 [.d (.s ivC.a),.d (.s ivC.b),.d (.s ivC.c),.d (.s ivC.d)])) (g5:hget H i5=some (.box 29 [.d (.s ivQ.a),.d (.s ivQ.b),.d (.s ivQ.c),.d (.s ivQ.d)])) (g7:hget H i7=some (.box 29 [.d (.s ivR.a),.d (.s ivR.b),.d (.s ivR.c),.d (.s ivR.d)])):evI cS (nthC 11 b10) none [(1,.p i1 0),(5,.p i5 0),(7,.p i7 0),(17,.d (.b true)),(18,.d (.b true))] H=some (.nor,[(0,.d (.b true))],H):=by
 have f0:=sp_V H
 have f1:=rt_0_1 H
 have f2:=rt_3_1 H
 have f3:=sp_P H
 have f4:=sv1 g
 have f5:=sv2 g
 have f6:=sv3 g
 have f7:=sv4 g
 have f8:=sv5 g
 rw[ivP_c,ivP_d] at f3 f8
 simp only[nthC,b10]
 apply evI_drawP
 simp[evP,put,eset,eget,D.cells,V.cells,allD,hget,hset,fz,zC,zN,setParts,chunk1,allCellsD,eqKs,eqCell,g1,g5,g7,f0,f1,f2,f3,f4,f5,f6,f7,f8]
theorem sane_ok {H:Hp}{o:EO} (hG:Glb H) (hE:ErrAt H o):callV cS false (fnV 10) [] H=some (.val (.d (.b true)),H):=by
 rw[callV_fn (sf:=c10) rfl rfl rfl rfl]
 have hb:b10=.seq (nthC 0 b10) (.seq (nthC 1 b10) (.seq (nthC 2 b10) (.seq (nthC 3 b10) (.seq (nthC 4 b10) (.seq (nthC 5 b10) (.seq (nthC 6 b10) (.seq (nthC 7 b10) (.seq (nthC 8 b10) (.seq (nthC 9 b10) (.seq (nthC 10 b10) (.seq (nthC 11 b10) (.ret)))))))))))):=rfl
 obtain⟨h1,eh1⟩:∃ h1:Hp,h1=.box 29 [.d (.s ivC.a),.d (.s ivC.b),.d (.s ivC.c),.d (.s ivC.d)]::H:=⟨_,rfl⟩
 have g1:Glb h1:=by rw[eh1];exact hG.cons _
 have e1:ErrAt h1 o:=by rw[eh1];exact hE.cons _
 obtain⟨h2,eh2⟩:∃ h2:Hp,h2=.box 29 [.d (.s []),.d (.s []),.d (.s []),.d (.s [])]::h1:=⟨_,rfl⟩
 have g2:Glb h2:=by rw[eh2];exact g1.cons _
 have e2:ErrAt h2 o:=by rw[eh2];exact e1.cons _
 obtain⟨h3,eh3⟩:∃ h3:Hp,h3=.box 29 [.d (.s ivQ.a),.d (.s ivQ.b),.d (.s ivQ.c),.d (.s ivQ.d)]::h2:=⟨_,rfl⟩
 have g3:Glb h3:=by rw[eh3];exact g2.cons _
 have e3:ErrAt h3 o:=by rw[eh3];exact e2.cons _
 obtain⟨h4,eh4⟩:∃ h4:Hp,h4=.box 29 [.d (.s ivR.a),.d (.s ivR.b),.d (.s ivR.c),.d (.s ivR.d)]::h3:=⟨_,rfl⟩
 have g4:Glb h4:=by rw[eh4];exact g3.cons _
 have e4:ErrAt h4 o:=by rw[eh4];exact e3.cons _
 obtain⟨h5,eh5⟩:∃ h5:Hp,h5=.box 29 [.d (.s ivN.a),.d (.s ivN.b),.d (.s ivN.c),.d (.s ivN.d)]::h4:=⟨_,rfl⟩
 have g5:Glb h5:=by rw[eh5];exact g4.cons _
 have e5:ErrAt h5 o:=by rw[eh5];exact e4.cons _
 obtain⟨h6,eh6⟩:∃ h6:Hp,h6=.box 29 [.d (.s []),.d (.s []),.d (.s []),.d (.s [])]::h5:=⟨_,rfl⟩
 have g6:Glb h6:=by rw[eh6];exact g5.cons _
 have e6:ErrAt h6 o:=by rw[eh6];exact e5.cons _
 obtain⟨h7,eh7⟩:∃ h7:Hp,h7=.box 29 [.d (.s ivU.a),.d (.s ivU.b),.d (.s ivU.c),.d (.s ivU.d)]::h6:=⟨_,rfl⟩
 have g7:Glb h7:=by rw[eh7];exact g6.cons _
 have e7:ErrAt h7 o:=by rw[eh7];exact e6.cons _
 obtain⟨h8,eh8⟩:∃ h8:Hp,h8=.box 26 [.d (.s ivW.1),.d (.s ivW.2)]::h7:=⟨_,rfl⟩
 have g8:Glb h8:=by rw[eh8];exact g7.cons _
 have e8:ErrAt h8 o:=by rw[eh8];exact e7.cons _
 have q1:=sane_r1 hG hE
 rw[← eh1] at q1
 have q2:=sane_r2 g1 e1 (.p H.length 0)
 rw[← eh2] at q2
 have q3:=sane_r3 g2 e2 (.p H.length 0)
 rw[← eh3] at q3
 have q4:=sane_r4 g3 e3 (.p H.length 0) (.p h2.length 0)
 rw[← eh4] at q4
 have q5:=sane_r5 g4 e4 (.p H.length 0) (.p h2.length 0) (.p h3.length 0)
 rw[← eh5] at q5
 have q6:=sane_r6 g5 e5 (.p H.length 0) (.p h2.length 0) (.p h3.length 0) (.p h4.length 0)
 rw[← eh6] at q6
 have q7:=sane_r7 g6 e6 (.p H.length 0) (.p h2.length 0) (.p h3.length 0) (.p h4.length 0)
 rw[← eh7] at q7
 have q8:=sane_r8 g7 e7 (.p H.length 0) (.p h2.length 0) (.p h3.length 0) (.p h4.length 0) (.p h6.length 0)
 rw[← eh8] at q8
 have l1:hget h8 H.length=some (.box 29 [.d (.s ivC.a),.d (.s ivC.b),.d (.s ivC.c),.d (.s ivC.d)]):=by rw[eh8,eh7,eh6,eh5,eh4,eh3,eh2,eh1];simp[put,eset,eget,D.cells,V.cells,allD,hget,hset,fz,zC,zN]
 have l5:hget h8 h2.length=some (.box 29 [.d (.s ivQ.a),.d (.s ivQ.b),.d (.s ivQ.c),.d (.s ivQ.d)]):=by rw[eh8,eh7,eh6,eh5,eh4,eh3,eh2,eh1];simp[put,eset,eget,D.cells,V.cells,allD,hget,hset,fz,zC,zN]
 have l7:hget h8 h3.length=some (.box 29 [.d (.s ivR.a),.d (.s ivR.b),.d (.s ivR.c),.d (.s ivR.d)]):=by rw[eh8,eh7,eh6,eh5,eh4,eh3,eh2,eh1];simp[put,eset,eget,D.cells,V.cells,allD,hget,hset,fz,zC,zN]
 have l9:hget h8 h4.length=some (.box 29 [.d (.s ivN.a),.d (.s ivN.b),.d (.s ivN.c),.d (.s ivN.d)]):=by rw[eh8,eh7,eh6,eh5,eh4,eh3,eh2,eh1];simp[put,eset,eget,D.cells,V.cells,allD,hget,hset,fz,zC,zN]
 have l13:hget h8 h6.length=some (.box 29 [.d (.s ivU.a),.d (.s ivU.b),.d (.s ivU.c),.d (.s ivU.d)]):=by rw[eh8,eh7,eh6,eh5,eh4,eh3,eh2,eh1];simp[put,eset,eget,D.cells,V.cells,allD,hget,hset,fz,zC,zN]
 have l15:hget h8 h7.length=some (.box 26 [.d (.s ivW.1),.d (.s ivW.2)]):=by rw[eh8,eh7,eh6,eh5,eh4,eh3,eh2,eh1];simp[put,eset,eget,D.cells,V.cells,allD,hget,hset,fz,zC,zN]
 have q9:=sane_r9 l1 l5 l7 (.p h4.length 0) (.p h6.length 0) (.p h7.length 0)
 have q10:=sane_r10 l9 l13 l15 (.p H.length 0) (.p h2.length 0) (.p h3.length 0)
 have q11:=sane_r11 g8 l1 l5 l7
 show (match outOf c10.res (evI cS b10 none [] H) with | some r=>fin false H r | none=>none)=_
 rw[hb]
 rw[evI_seq,sane_r0]
 simp only[thenR]
 rw[evI_seq,q1]
 simp only[thenR]
 rw[evI_seq,q2]
 simp only[thenR]
 rw[evI_seq,q3]
 simp only[thenR]
 rw[evI_seq,q4]
 simp only[thenR]
 rw[evI_seq,q5]
 simp only[thenR]
 rw[evI_seq,q6]
 simp only[thenR]
 rw[evI_seq,q7]
 simp only[thenR]
 rw[evI_seq,q8]
 simp only[thenR]
 rw[evI_seq,q9]
 simp only[thenR]
 rw[evI_seq,q10]
 simp only[thenR]
 rw[evI_seq,q11]
 simp only[thenR]
 rw[eh8,eh7,eh6,eh5,eh4,eh3,eh2,eh1]
 simp[c10,put,eset,eget,D.cells,V.cells,allD,hget,hset,fz,zC,zN]
end
end Go.Proofs.YtmiioebapckcoaaGreatDoor
