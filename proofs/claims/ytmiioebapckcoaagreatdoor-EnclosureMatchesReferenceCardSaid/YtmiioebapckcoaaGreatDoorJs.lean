/- Part 19 of a proof: the small semantics, its soundness, the functions of the program in it, and the law. -/
import Derived.Test.YtmiioebapckcoaaGreatDoorJr
set_option linter.unusedVariables false
set_option linter.unusedSimpArgs false
set_option maxRecDepth 4000
namespace Go.Proofs.YtmiioebapckcoaaGreatDoor
section
open Go Num
theorem add1_ok {h:Hp}{k i j:Nat}{o:EO}{p1 q1 p2 q2:Rat} (f1:RFits p1) (f2:RFits q1) (f3:RFits p2) (f4:RFits q2) (hG:Glb h) (hE:ErrAt h o) (hk:hget h k=some (.box 99 [.d (.fn 24 [] [])])) (hi:hget h i=some (.box 29 [.d (.s (txt p1.num)),.d (.s (txt p1.den)),.d (.s (txt q1.num)),.d (.s (txt q1.den))])) (hj:hget h j=some (.box 29 [.d (.s (txt p2.num)),.d (.s (txt p2.den)),.d (.s (txt q2.num)),.d (.s (txt q2.den))])) :
 callV cS false (.fn 129 [] [.p k 0,.p i 0,.p j 0]) [] h=endW o h (pairO (sumO (fun x y=>x+y) p1 p2) (sumO (fun x y=>x+y) q1 q2)):=by
 rw[callV_fnV (sf:=c129) rfl rfl rfl rfl]
 have hil:=hget_lt' hi
 have hjl:=hget_lt' hj
 have hkl:=hget_lt' hk
 have ni:¬ i=h.length:=by omega
 have nj:¬ j=h.length:=by omega
 have nk:¬ k=h.length:=by omega
 have hG1:=hG.cons (.box 29 [.d (.s []),.d (.s []),.d (.s []),.d (.s [])])
 have hE1:=hE.cons (.box 29 [.d (.s []),.d (.s []),.d (.s []),.d (.s [])])
 have c1:=of_call add_OpF f1 f3 hG1 hE1
 have c2:=of_call add_OpF f2 f4 hG1 hE1
 have hf:=fin_pan (h:=h) (h':=.box 29 [.d (.s []),.d (.s []),.d (.s []),.d (.s [])]::h) (v:=eV o) (by simp[eV,vlt,hE.2]) (by simp) (by rw[HOk_cons' (Nat.le_refl _)];exact HOk.refl h)
 rw[trunc_cons' (Nat.le_refl _),trunc_self] at hf
 cases h1:sumO (fun x y=>x+y) p1 p2 with
 | none =>
   rw[h1] at c1
   simp only[eV] at c1 hf
   simp[c129,b129,put,eset,eget,D.cells,V.cells,allD,hget,hset,fz,zC,zN,hk,hi,hj,ni,nj,nk,c1,hf,pairO,endW,eV]
 | some a =>
   rw[h1] at c1
   cases h2:sumO (fun x y=>x+y) q1 q2 with
   | none =>
     rw[h2] at c2
     simp only[eV] at c2 hf
     simp[c129,b129,put,eset,eget,D.cells,V.cells,allD,hget,hset,fz,zC,zN,hk,hi,hj,ni,nj,nk,c1,c2,hf,pairO,endW,eV]
   | some b =>
     rw[h2] at c2
     simp[c129,b129,put,eset,eget,D.cells,V.cells,allD,hget,hset,fz,zC,zN,hk,hi,hj,ni,nj,nk,c1,c2,pairO,endW,dI4,setParts,chunk1,allCellsD]
noncomputable def addX (x y:IV):Option D:=match VQ x.a x.b x.c x.d,VQ y.a y.b y.c y.d with
 | some (p1,q1),some (p2,q2)=>pairO (sumO (fun x y=>x+y) p1 p2) (sumO (fun x y=>x+y) q1 q2)
 | _,_=>none
theorem addX_form (x y:IV):∀ z,addX x y=some z→∃ s t u v,z=.agg [.s s,.s t,.s u,.s v]:=by
 intro z hz
 unfold addX at hz
 split at hz
 ·exact pairO_form _ _ z hz
 ·cases hz
theorem EAdd_ok (x y:IV) {H:Hp}{o:EO} (hG:Glb H) (hE:ErrAt H o):callV cS false (fnV 82) [.d x.D,.d y.D] H=some (.val (.d (workD [x,y] (addX x y))),H):=by
 rw[callV_fn (sf:=c82) rfl rfl rfl rfl]
 obtain⟨H1,hH1⟩:∃ H1:Hp,H1=.box 99 [.d (.fn 24 [] [])]::.box 29 [.d (.s []),.d (.s []),.d (.s []),.d (.s [])]::.box 29 [.d (.s y.a),.d (.s y.b),.d (.s y.c),.d (.s y.d)]::.box 29 [.d (.s x.a),.d (.s x.b),.d (.s x.c),.d (.s x.d)]::H:=⟨_,rfl⟩
 have hG1:Glb H1:=by rw[hH1];exact(((hG.cons _).cons _).cons _).cons _
 have hE1:ErrAt H1 o:=by rw[hH1];exact(((hE.cons _).cons _).cons _).cons _
 have hcomp:=compute_work (F:=.fn 129 [] [.p (H.length+1+1+1) 0,.p H.length 0,.p (H.length+1) 0]) (l:=[x,y]) (by simp) hG1 hE1 (by simp) (addX_form x y) (by
  intro ha
  simp only[List.all_cons,List.all_nil,Bool.and_true,Bool.and_eq_true] at ha
  obtain⟨p1,q1,f1,f2,_,hv1,a1,a2,a3,a4⟩:=IV.ends ha.1
  obtain⟨p2,q2,f3,f4,_,hv2,b1,b2,b3,b4⟩:=IV.ends ha.2
  have hm:addX x y=pairO (sumO (fun x y=>x+y) p1 p2) (sumO (fun x y=>x+y) q1 q2):=by simp only[addX,hv1,hv2]
  rw[hm]
  exact add1_ok (h:=cbH H1 zI 0) (k:=H.length+1+1+1) (i:=H.length) (j:=H.length+1) f1 f2 f3 f4 ((hG1.cons _).cons _) ((hE1.cons _).cons _) (by rw[hH1];simp[cbH,hget,put,eset,eget,D.cells,V.cells,allD,hget,hset,fz,zC,zN]) (by rw[hH1,← a1,← a2,← a3,← a4];simp[cbH,hget,put,eset,eget,D.cells,V.cells,allD,hget,hset,fz,zC,zN]) (by rw[hH1,← b1,← b2,← b3,← b4];simp[cbH,hget,put,eset,eget,D.cells,V.cells,allD,hget,hset,fz,zC,zN]))
 obtain⟨s,t,u,v,e,he⟩:=workD_form (l:=[x,y]) (addX_form x y)
 rw[he] at hcomp ⊢
 rw[hH1] at hcomp
 simp only[List.map_cons,List.map_nil,IV.D] at hcomp
 simp[c82,b82,put,eset,eget,D.cells,V.cells,allD,hget,hset,fz,zC,zN,IV.D,hcomp,setParts,chunk1,allCellsD]
theorem sub1_ok {h:Hp}{k i j:Nat}{o:EO}{p1 q1 p2 q2:Rat} (f1:RFits p1) (f2:RFits q1) (f3:RFits p2) (f4:RFits q2) (hG:Glb h) (hE:ErrAt h o) (hk:hget h k=some (.box 99 [.d (.fn 18 [] [])])) (hi:hget h i=some (.box 29 [.d (.s (txt p1.num)),.d (.s (txt p1.den)),.d (.s (txt q1.num)),.d (.s (txt q1.den))])) (hj:hget h j=some (.box 29 [.d (.s (txt p2.num)),.d (.s (txt p2.den)),.d (.s (txt q2.num)),.d (.s (txt q2.den))])) :
 callV cS false (.fn 131 [] [.p k 0,.p i 0,.p j 0]) [] h=endW o h (pairO (sumO (fun x y=>x-y) p1 q2) (sumO (fun x y=>x-y) q1 p2)):=by
 rw[callV_fnV (sf:=c131) rfl rfl rfl rfl]
 have hil:=hget_lt' hi
 have hjl:=hget_lt' hj
 have hkl:=hget_lt' hk
 have ni:¬ i=h.length:=by omega
 have nj:¬ j=h.length:=by omega
 have nk:¬ k=h.length:=by omega
 have hG1:=hG.cons (.box 29 [.d (.s []),.d (.s []),.d (.s []),.d (.s [])])
 have hE1:=hE.cons (.box 29 [.d (.s []),.d (.s []),.d (.s []),.d (.s [])])
 have c1:=of_call sub_OpF f1 f4 hG1 hE1
 have c2:=of_call sub_OpF f2 f3 hG1 hE1
 have hf:=fin_pan (h:=h) (h':=.box 29 [.d (.s []),.d (.s []),.d (.s []),.d (.s [])]::h) (v:=eV o) (by simp[eV,vlt,hE.2]) (by simp) (by rw[HOk_cons' (Nat.le_refl _)];exact HOk.refl h)
 rw[trunc_cons' (Nat.le_refl _),trunc_self] at hf
 cases h1:sumO (fun x y=>x-y) p1 q2 with
 | none =>
   rw[h1] at c1
   simp only[eV] at c1 hf
   simp[c131,b131,put,eset,eget,D.cells,V.cells,allD,hget,hset,fz,zC,zN,hk,hi,hj,ni,nj,nk,c1,hf,pairO,endW,eV]
 | some a =>
   rw[h1] at c1
   cases h2:sumO (fun x y=>x-y) q1 p2 with
   | none =>
     rw[h2] at c2
     simp only[eV] at c2 hf
     simp[c131,b131,put,eset,eget,D.cells,V.cells,allD,hget,hset,fz,zC,zN,hk,hi,hj,ni,nj,nk,c1,c2,hf,pairO,endW,eV]
   | some b =>
     rw[h2] at c2
     simp[c131,b131,put,eset,eget,D.cells,V.cells,allD,hget,hset,fz,zC,zN,hk,hi,hj,ni,nj,nk,c1,c2,pairO,endW,dI4,setParts,chunk1,allCellsD]
noncomputable def subX (x y:IV):Option D:=match VQ x.a x.b x.c x.d,VQ y.a y.b y.c y.d with
 | some (p1,q1),some (p2,q2)=>pairO (sumO (fun x y=>x-y) p1 q2) (sumO (fun x y=>x-y) q1 p2)
 | _,_=>none
theorem subX_form (x y:IV):∀ z,subX x y=some z→∃ s t u v,z=.agg [.s s,.s t,.s u,.s v]:=by
 intro z hz
 unfold subX at hz
 split at hz
 ·exact pairO_form _ _ z hz
 ·cases hz
theorem ESub_ok (x y:IV) {H:Hp}{o:EO} (hG:Glb H) (hE:ErrAt H o):callV cS false (fnV 83) [.d x.D,.d y.D] H=some (.val (.d (workD [x,y] (subX x y))),H):=by
 rw[callV_fn (sf:=c83) rfl rfl rfl rfl]
 obtain⟨H1,hH1⟩:∃ H1:Hp,H1=.box 99 [.d (.fn 18 [] [])]::.box 29 [.d (.s []),.d (.s []),.d (.s []),.d (.s [])]::.box 29 [.d (.s y.a),.d (.s y.b),.d (.s y.c),.d (.s y.d)]::.box 29 [.d (.s x.a),.d (.s x.b),.d (.s x.c),.d (.s x.d)]::H:=⟨_,rfl⟩
 have hG1:Glb H1:=by rw[hH1];exact(((hG.cons _).cons _).cons _).cons _
 have hE1:ErrAt H1 o:=by rw[hH1];exact(((hE.cons _).cons _).cons _).cons _
 have hcomp:=compute_work (F:=.fn 131 [] [.p (H.length+1+1+1) 0,.p H.length 0,.p (H.length+1) 0]) (l:=[x,y]) (by simp) hG1 hE1 (by simp) (subX_form x y) (by
  intro ha
  simp only[List.all_cons,List.all_nil,Bool.and_true,Bool.and_eq_true] at ha
  obtain⟨p1,q1,f1,f2,_,hv1,a1,a2,a3,a4⟩:=IV.ends ha.1
  obtain⟨p2,q2,f3,f4,_,hv2,b1,b2,b3,b4⟩:=IV.ends ha.2
  have hm:subX x y=pairO (sumO (fun x y=>x-y) p1 q2) (sumO (fun x y=>x-y) q1 p2):=by simp only[subX,hv1,hv2]
  rw[hm]
  exact sub1_ok (h:=cbH H1 zI 0) (k:=H.length+1+1+1) (i:=H.length) (j:=H.length+1) f1 f2 f3 f4 ((hG1.cons _).cons _) ((hE1.cons _).cons _) (by rw[hH1];simp[cbH,hget,put,eset,eget,D.cells,V.cells,allD,hget,hset,fz,zC,zN]) (by rw[hH1,← a1,← a2,← a3,← a4];simp[cbH,hget,put,eset,eget,D.cells,V.cells,allD,hget,hset,fz,zC,zN]) (by rw[hH1,← b1,← b2,← b3,← b4];simp[cbH,hget,put,eset,eget,D.cells,V.cells,allD,hget,hset,fz,zC,zN]))
 obtain⟨s,t,u,v,e,he⟩:=workD_form (l:=[x,y]) (subX_form x y)
 rw[he] at hcomp ⊢
 rw[hH1] at hcomp
 simp only[List.map_cons,List.map_nil,IV.D] at hcomp
 simp[c83,b83,put,eset,eget,D.cells,V.cells,allD,hget,hset,fz,zC,zN,IV.D,hcomp,setParts,chunk1,allCellsD]
end
section
open Go Num
theorem hset_out:∀ (H:Hp) (o:Nat) (x:Ob),H.length≤o→hset H o x=H
 | [],_,_,_=>rfl
 | y::H,o,x,h=>by
   have h1:¬ o=H.length:=by simp at h;omega
   unfold hset
   rw[if_neg h1,hset_out H o x (by simp at h;omega)]
theorem hset_app:∀ (L H:Hp) (o:Nat) (x:Ob),H.length≤o→∃ L',hset (L++H) o x=L'++H
 | [],H,o,x,h=>⟨[],by rw[List.nil_append,hset_out H o x h]⟩
 | y::L,H,o,x,h=>by
   rw[List.cons_append]
   unfold hset
   split
   ·exact⟨x::L,rfl⟩
   ·obtain⟨L',e⟩:=hset_app L H o x h
    exact⟨y::L',by rw[e];rfl⟩
theorem over_app:∀ (L H:Hp),Over H (L++H)
 | [],H=>Over.refl H
 | x::L,H=>(over_app L H).cons
structure CS (A B:IV) (pA pB o8 o9:Nat) (xs es:List V) (H G:Hp):Prop where
 a:hget G pA=some (.box 29 [.d (.s A.a),.d (.s A.b),.d (.s A.c),.d (.s A.d)])
 b:hget G pB=some (.box 29 [.d (.s B.a),.d (.s B.b),.d (.s B.c),.d (.s B.d)])
 x:hget G o8=some (.gr 29 4 xs)
 e:hget G o9=some (.gr 31 1 es)
 app:∃ L,G=L++H
 l8:H.length≤o8
 l9:H.length≤o9
 ne:o8≠o9
 a8:o8≠pA
 a9:o9≠pA
 b8:o8≠pB
 b9:o9≠pB
theorem CS.over {A B:IV}{pA pB o8 o9:Nat}{xs es:List V}{H G:Hp} (c:CS A B pA pB o8 o9 xs es H G):Over H G:=by
 obtain⟨L,e⟩:=c.app
 rw[e];exact over_app L H
theorem CS.next {A B:IV}{pA pB o8 o9:Nat}{xs es:List V}{H G:Hp} (c:CS A B pA pB o8 o9 xs es H G) (z:Ob) (v w:V) :
 CS A B pA pB o8 o9 (xs++[v]) (es++[w]) H (hset (hset (z::G) o8 (.gr 29 4 (xs++[v]))) o9 (.gr 31 1 (es++[w]))):=by
 have la:=hget_lt' c.a
 have lb:=hget_lt' c.b
 have lx:=hget_lt' c.x
 have le:=hget_lt' c.e
 have up:∀ {o:Nat},o<G.length→hget (z::G) o=hget G o:=fun {o} h=>by unfold hget;rw[if_neg (by omega)];cases G<;>rfl
 have l8:o8<(z::G).length:=by simp;omega
 have l9:o9<(hset (z::G) o8 (.gr 29 4 (xs++[v]))).length:=by rw[hset_len];simp;omega
 refine⟨?_,?_,?_,?_,?_,c.l8,c.l9,c.ne,c.a8,c.a9,c.b8,c.b9⟩
 ·rw[hget_hset_ne c.a9,hget_hset_ne c.a8,up la];exact c.a
 ·rw[hget_hset_ne c.b9,hget_hset_ne c.b8,up lb];exact c.b
 ·rw[hget_hset_ne c.ne.symm,hget_hset l8]
 ·rw[hget_hset l9]
 ·obtain⟨L,e⟩:=c.app
  obtain⟨L1,e1⟩:=hset_app (z::L) H o8 (.gr 29 4 (xs++[v])) c.l8
  rw[e,← List.cons_append,e1]
  exact hset_app L1 H o9 _ c.l9
theorem CS.f {A B:IV}{pA pB o8 o9:Nat}{xs es:List V}{H G:Hp} (c:CS A B pA pB o8 o9 xs es H G) :
 hget G pA=some (.box 29 [.d (.s A.a),.d (.s A.b),.d (.s A.c),.d (.s A.d)])∧hget G pB=some (.box 29 [.d (.s B.a),.d (.s B.b),.d (.s B.c),.d (.s B.d)])∧hget G o8=some (.gr 29 4 xs)∧hget G o9=some (.gr 31 1 es)∧¬ pA=G.length∧¬ pB=G.length∧¬ o8=G.length∧¬ o9=G.length∧∀ Y,hget (hset G o8 Y) o9=some (.gr 31 1 es):=by
 have ka:=hget_lt' c.a
 have kb:=hget_lt' c.b
 have kx:=hget_lt' c.x
 have ke:=hget_lt' c.e
 exact⟨c.a,c.b,c.x,c.e,by omega,by omega,by omega,by omega,fun Y=>by rw[hget_hset_ne c.ne];exact c.e⟩
def clE (n:Int) (pA pB o8 o9 k:Nat):En:=[(2,.d (.i .i64 n)),(3,.p pA 0),(4,.p pB 0),(8,.gr o8 k),(9,.gr o9 k),(10,.d (.i .i64 k))]
theorem calls_r0 {A B r:IV}{pA pB o8 o9:Nat}{xs es:List V}{H G:Hp}{n e:Int} (c:CS A B pA pB o8 o9 xs es H G) (hx:xs.length=0) (he:es.length=0)
 (hf:callV cS false (fnV 82) [.d (.agg [.s A.a,.s A.b,.s A.c,.s A.d]),.d (.agg [.s B.a,.s B.b,.s B.c,.s B.d])] (.box 29 [.d (.s []),.d (.s []),.d (.s []),.d (.s [])]::G)=some (.val (.d (.tup [(.agg [.s r.a,.s r.b,.s r.c,.s r.d]),.i .i64 e])),.box 29 [.d (.s []),.d (.s []),.d (.s []),.d (.s [])]::G)) :
 evI cS l31_0 none (clE n pA pB o8 o9 0) G=some (.nor,clE n pA pB o8 o9 1,hset (hset (.box 29 [.d (.s r.a),.d (.s r.b),.d (.s r.c),.d (.s r.d)]::G) o8 (.gr 29 4 (xs++[.d (.agg [.s r.a,.s r.b,.s r.c,.s r.d])]))) o9 (.gr 31 1 (es++[.d (.i .i64 e)]))):=by
 have w:IntKind.i64.wrap 1=1:=wr64 (by omega) (by omega)
 simp[l31_0,clE,put,eset,eget,D.cells,V.cells,allD,hget,hset,fz,zC,zN,c.f,hf,hx,he,w,hset_len,evApp,elemsOf,allCells,allCellsD,setParts,chunk1,notGr]
theorem calls_r1 {A B r:IV}{pA pB o8 o9:Nat}{xs es:List V}{H G:Hp}{n e:Int} (c:CS A B pA pB o8 o9 xs es H G) (hx:xs.length=1) (he:es.length=1)
 (hf:callV cS false (fnV 83) [.d (.agg [.s A.a,.s A.b,.s A.c,.s A.d]),.d (.agg [.s B.a,.s B.b,.s B.c,.s B.d])] (.box 29 [.d (.s []),.d (.s []),.d (.s []),.d (.s [])]::G)=some (.val (.d (.tup [(.agg [.s r.a,.s r.b,.s r.c,.s r.d]),.i .i64 e])),.box 29 [.d (.s []),.d (.s []),.d (.s []),.d (.s [])]::G)) :
 evI cS l31_0 none (clE n pA pB o8 o9 1) G=some (.nor,clE n pA pB o8 o9 2,hset (hset (.box 29 [.d (.s r.a),.d (.s r.b),.d (.s r.c),.d (.s r.d)]::G) o8 (.gr 29 4 (xs++[.d (.agg [.s r.a,.s r.b,.s r.c,.s r.d])]))) o9 (.gr 31 1 (es++[.d (.i .i64 e)]))):=by
 have w:IntKind.i64.wrap 2=2:=wr64 (by omega) (by omega)
 simp[l31_0,clE,put,eset,eget,D.cells,V.cells,allD,hget,hset,fz,zC,zN,c.f,hf,hx,he,w,hset_len,evApp,elemsOf,allCells,allCellsD,setParts,chunk1,notGr]
theorem calls_r2 {A B r:IV}{pA pB o8 o9:Nat}{xs es:List V}{H G:Hp}{n e:Int} (c:CS A B pA pB o8 o9 xs es H G) (hx:xs.length=2) (he:es.length=2)
 (hf:callV cS false (fnV 41) [.d (.agg [.s A.a,.s A.b,.s A.c,.s A.d]),.d (.agg [.s B.a,.s B.b,.s B.c,.s B.d])] (.box 29 [.d (.s []),.d (.s []),.d (.s []),.d (.s [])]::G)=some (.val (.d (.tup [(.agg [.s r.a,.s r.b,.s r.c,.s r.d]),.i .i64 e])),.box 29 [.d (.s []),.d (.s []),.d (.s []),.d (.s [])]::G)) :
 evI cS l31_0 none (clE n pA pB o8 o9 2) G=some (.nor,clE n pA pB o8 o9 3,hset (hset (.box 29 [.d (.s r.a),.d (.s r.b),.d (.s r.c),.d (.s r.d)]::G) o8 (.gr 29 4 (xs++[.d (.agg [.s r.a,.s r.b,.s r.c,.s r.d])]))) o9 (.gr 31 1 (es++[.d (.i .i64 e)]))):=by
 have w:IntKind.i64.wrap 3=3:=wr64 (by omega) (by omega)
 simp[l31_0,clE,put,eset,eget,D.cells,V.cells,allD,hget,hset,fz,zC,zN,c.f,hf,hx,he,w,hset_len,evApp,elemsOf,allCells,allCellsD,setParts,chunk1,notGr]
theorem calls_r3 {A B r:IV}{pA pB o8 o9:Nat}{xs es:List V}{H G:Hp}{n e:Int} (c:CS A B pA pB o8 o9 xs es H G) (hx:xs.length=3) (he:es.length=3)
 (hf:callV cS false (fnV 43) [.d (.agg [.s A.a,.s A.b,.s A.c,.s A.d]),.d (.agg [.s B.a,.s B.b,.s B.c,.s B.d])] (.box 29 [.d (.s []),.d (.s []),.d (.s []),.d (.s [])]::G)=some (.val (.d (.tup [(.agg [.s r.a,.s r.b,.s r.c,.s r.d]),.i .i64 e])),.box 29 [.d (.s []),.d (.s []),.d (.s []),.d (.s [])]::G)) :
 evI cS l31_0 none (clE n pA pB o8 o9 3) G=some (.nor,clE n pA pB o8 o9 4,hset (hset (.box 29 [.d (.s r.a),.d (.s r.b),.d (.s r.c),.d (.s r.d)]::G) o8 (.gr 29 4 (xs++[.d (.agg [.s r.a,.s r.b,.s r.c,.s r.d])]))) o9 (.gr 31 1 (es++[.d (.i .i64 e)]))):=by
 have w:IntKind.i64.wrap 4=4:=wr64 (by omega) (by omega)
 simp[l31_0,clE,put,eset,eget,D.cells,V.cells,allD,hget,hset,fz,zC,zN,c.f,hf,hx,he,w,hset_len,evApp,elemsOf,allCells,allCellsD,setParts,chunk1,notGr]
theorem calls_r4 {A B r:IV}{pA pB o8 o9:Nat}{xs es:List V}{H G:Hp}{n e:Int} (c:CS A B pA pB o8 o9 xs es H G) (hx:xs.length=4) (he:es.length=4)
 (hf:callV cS false (fnV 27) [.d (.agg [.s A.a,.s A.b,.s A.c,.s A.d]),.d (.agg [.s B.a,.s B.b,.s B.c,.s B.d])] (.box 29 [.d (.s []),.d (.s []),.d (.s []),.d (.s [])]::G)=some (.val (.d (.tup [(.agg [.s r.a,.s r.b,.s r.c,.s r.d]),.i .i64 e])),.box 29 [.d (.s []),.d (.s []),.d (.s []),.d (.s [])]::G)) :
 evI cS l31_0 none (clE n pA pB o8 o9 4) G=some (.nor,clE n pA pB o8 o9 5,hset (hset (.box 29 [.d (.s r.a),.d (.s r.b),.d (.s r.c),.d (.s r.d)]::G) o8 (.gr 29 4 (xs++[.d (.agg [.s r.a,.s r.b,.s r.c,.s r.d])]))) o9 (.gr 31 1 (es++[.d (.i .i64 e)]))):=by
 have w:IntKind.i64.wrap 5=5:=wr64 (by omega) (by omega)
 simp[l31_0,clE,put,eset,eget,D.cells,V.cells,allD,hget,hset,fz,zC,zN,c.f,hf,hx,he,w,hset_len,evApp,elemsOf,allCells,allCellsD,setParts,chunk1,notGr]
theorem calls_r5 {A B r:IV}{pA pB o8 o9:Nat}{xs es:List V}{H G:Hp}{n e:Int} (c:CS A B pA pB o8 o9 xs es H G) (hx:xs.length=5) (he:es.length=5)
 (hf:callV cS false (fnV 26) [.d (.agg [.s A.a,.s A.b,.s A.c,.s A.d]),.d (.agg [.s B.a,.s B.b,.s B.c,.s B.d])] (.box 29 [.d (.s []),.d (.s []),.d (.s []),.d (.s [])]::G)=some (.val (.d (.tup [(.agg [.s r.a,.s r.b,.s r.c,.s r.d]),.i .i64 e])),.box 29 [.d (.s []),.d (.s []),.d (.s []),.d (.s [])]::G)) :
 evI cS l31_0 none (clE n pA pB o8 o9 5) G=some (.nor,clE n pA pB o8 o9 6,hset (hset (.box 29 [.d (.s r.a),.d (.s r.b),.d (.s r.c),.d (.s r.d)]::G) o8 (.gr 29 4 (xs++[.d (.agg [.s r.a,.s r.b,.s r.c,.s r.d])]))) o9 (.gr 31 1 (es++[.d (.i .i64 e)]))):=by
 have w:IntKind.i64.wrap 6=6:=wr64 (by omega) (by omega)
 simp[l31_0,clE,put,eset,eget,D.cells,V.cells,allD,hget,hset,fz,zC,zN,c.f,hf,hx,he,w,hset_len,evApp,elemsOf,allCells,allCellsD,setParts,chunk1,notGr]
theorem calls_r6 {A B r:IV}{pA pB o8 o9:Nat}{xs es:List V}{H G:Hp}{n e:Int} (c:CS A B pA pB o8 o9 xs es H G) (hx:xs.length=6) (he:es.length=6)
 (hf:callV cS false (fnV 22) [.d (.agg [.s A.a,.s A.b,.s A.c,.s A.d]),.d (.i .i64 n)] (.box 29 [.d (.s []),.d (.s []),.d (.s []),.d (.s [])]::G)=some (.val (.d (.tup [(.agg [.s r.a,.s r.b,.s r.c,.s r.d]),.i .i64 e])),.box 29 [.d (.s []),.d (.s []),.d (.s []),.d (.s [])]::G)) :
 evI cS l31_0 none (clE n pA pB o8 o9 6) G=some (.nor,clE n pA pB o8 o9 7,hset (hset (.box 29 [.d (.s r.a),.d (.s r.b),.d (.s r.c),.d (.s r.d)]::G) o8 (.gr 29 4 (xs++[.d (.agg [.s r.a,.s r.b,.s r.c,.s r.d])]))) o9 (.gr 31 1 (es++[.d (.i .i64 e)]))):=by
 have w:IntKind.i64.wrap 7=7:=wr64 (by omega) (by omega)
 simp[l31_0,clE,put,eset,eget,D.cells,V.cells,allD,hget,hset,fz,zC,zN,c.f,hf,hx,he,w,hset_len,evApp,elemsOf,allCells,allCellsD,setParts,chunk1,notGr]
theorem calls_r7 {A B r:IV}{pA pB o8 o9:Nat}{xs es:List V}{H G:Hp}{n e:Int} (c:CS A B pA pB o8 o9 xs es H G) (hx:xs.length=7) (he:es.length=7)
 (hf:callV cS false (fnV 14) [.d (.agg [.s A.a,.s A.b,.s A.c,.s A.d]),.d (.i .i64 n)] (.box 29 [.d (.s []),.d (.s []),.d (.s []),.d (.s [])]::G)=some (.val (.d (.tup [(.agg [.s r.a,.s r.b,.s r.c,.s r.d]),.i .i64 e])),.box 29 [.d (.s []),.d (.s []),.d (.s []),.d (.s [])]::G)) :
 evI cS l31_0 none (clE n pA pB o8 o9 7) G=some (.nor,clE n pA pB o8 o9 8,hset (hset (.box 29 [.d (.s r.a),.d (.s r.b),.d (.s r.c),.d (.s r.d)]::G) o8 (.gr 29 4 (xs++[.d (.agg [.s r.a,.s r.b,.s r.c,.s r.d])]))) o9 (.gr 31 1 (es++[.d (.i .i64 e)]))):=by
 have w:IntKind.i64.wrap 8=8:=wr64 (by omega) (by omega)
 simp[l31_0,clE,put,eset,eget,D.cells,V.cells,allD,hget,hset,fz,zC,zN,c.f,hf,hx,he,w,hset_len,evApp,elemsOf,allCells,allCellsD,setParts,chunk1,notGr]
theorem calls_end {pA pB o8 o9:Nat}{G:Hp}{n:Int}:evI cS l31_0 none (clE n pA pB o8 o9 8) G=some (.ex 0,clE n pA pB o8 o9 8++[(14,.d (.b false))],G):=by
 simp[l31_0,clE,put,eset,eget,D.cells,V.cells,allD,hget,hset,fz,zC,zN]
theorem omap_d (h:Hp) (n k:Nat):∀ (ds:List D),omap (fz h n (k+1)) (ds.map .d)=some ds
 | []=>rfl
 | d::ds=>by
   rw[List.map_cons]
   unfold omap
   rw[omap_d h n k ds]
   simp[fz]
theorem fin_two {H G:Hp}{o8 o9:Nat}{t8 s8 t9 s9:Nat}{ds es:List D} (g8:hget G o8=some (.gr t8 s8 (ds.map .d))) (g9:hget G o9=some (.gr t9 s9 (es.map .d))) (h8:H.length≤o8) (h9:H.length≤o9) (happ:∃ L,G=L++H) :
 fin false H (.ret (.tup [.gr o8 ds.length,.gr o9 es.length]),G)=some (.val (.d (.tup [.ls ds,.ls es])),H):=by
 have k8:¬ o8<H.length:=by omega
 have k9:¬ o9<H.length:=by omega
 have hz:fz G H.length 8 (.tup [.gr o8 ds.length,.gr o9 es.length])=some (.tup [.ls ds,.ls es]):=by
  have e8:fz G H.length 7 (.gr o8 ds.length)=some (.ls ds):=by
   unfold fz
   rw[if_neg k8,g8]
   simp only[List.length_map,if_true]
   rw[omap_d]
  have e9:fz G H.length 7 (.gr o9 es.length)=some (.ls es):=by
   unfold fz
   rw[if_neg k9,g9]
   simp only[List.length_map,if_true]
   rw[omap_d]
  unfold fz
  simp only[omap,e8,e9]
 obtain⟨L,rfl⟩:=happ
 simp only[fin,Bool.false_eq_true,if_false,hz]
 rw[if_pos ⟨by simp,HOk_app L H⟩,trunc_app]
theorem calls_ok {A B r0 r1 r2 r3 r4 r5 r6 r7:IV}{n e0 e1 e2 e3 e4 e5 e6 e7:Int}{H:Hp}{o:EO} (hG:Glb H) (hE:ErrAt H o)
 (f0:∀ h,Glb h→ErrAt h o→callV cS false (fnV 82) [.d (.agg [.s A.a,.s A.b,.s A.c,.s A.d]),.d (.agg [.s B.a,.s B.b,.s B.c,.s B.d])] h=some (.val (.d (.tup [(.agg [.s r0.a,.s r0.b,.s r0.c,.s r0.d]),.i .i64 e0])),h))
 (f1:∀ h,Glb h→ErrAt h o→callV cS false (fnV 83) [.d (.agg [.s A.a,.s A.b,.s A.c,.s A.d]),.d (.agg [.s B.a,.s B.b,.s B.c,.s B.d])] h=some (.val (.d (.tup [(.agg [.s r1.a,.s r1.b,.s r1.c,.s r1.d]),.i .i64 e1])),h))
 (f2:∀ h,Glb h→ErrAt h o→callV cS false (fnV 41) [.d (.agg [.s A.a,.s A.b,.s A.c,.s A.d]),.d (.agg [.s B.a,.s B.b,.s B.c,.s B.d])] h=some (.val (.d (.tup [(.agg [.s r2.a,.s r2.b,.s r2.c,.s r2.d]),.i .i64 e2])),h))
 (f3:∀ h,Glb h→ErrAt h o→callV cS false (fnV 43) [.d (.agg [.s A.a,.s A.b,.s A.c,.s A.d]),.d (.agg [.s B.a,.s B.b,.s B.c,.s B.d])] h=some (.val (.d (.tup [(.agg [.s r3.a,.s r3.b,.s r3.c,.s r3.d]),.i .i64 e3])),h))
 (f4:∀ h,Glb h→ErrAt h o→callV cS false (fnV 27) [.d (.agg [.s A.a,.s A.b,.s A.c,.s A.d]),.d (.agg [.s B.a,.s B.b,.s B.c,.s B.d])] h=some (.val (.d (.tup [(.agg [.s r4.a,.s r4.b,.s r4.c,.s r4.d]),.i .i64 e4])),h))
 (f5:∀ h,Glb h→ErrAt h o→callV cS false (fnV 26) [.d (.agg [.s A.a,.s A.b,.s A.c,.s A.d]),.d (.agg [.s B.a,.s B.b,.s B.c,.s B.d])] h=some (.val (.d (.tup [(.agg [.s r5.a,.s r5.b,.s r5.c,.s r5.d]),.i .i64 e5])),h))
 (f6:∀ h,Glb h→ErrAt h o→callV cS false (fnV 22) [.d (.agg [.s A.a,.s A.b,.s A.c,.s A.d]),.d (.i .i64 n)] h=some (.val (.d (.tup [(.agg [.s r6.a,.s r6.b,.s r6.c,.s r6.d]),.i .i64 e6])),h))
 (f7:∀ h,Glb h→ErrAt h o→callV cS false (fnV 14) [.d (.agg [.s A.a,.s A.b,.s A.c,.s A.d]),.d (.i .i64 n)] h=some (.val (.d (.tup [(.agg [.s r7.a,.s r7.b,.s r7.c,.s r7.d]),.i .i64 e7])),h)) :
 callV cS false (fnV 31) [.d (.agg [.s A.a,.s A.b,.s A.c,.s A.d]),.d (.agg [.s B.a,.s B.b,.s B.c,.s B.d]),.d (.i .i64 n)] H=some (.val (.d (.tup [.ls [(.agg [.s r0.a,.s r0.b,.s r0.c,.s r0.d]),(.agg [.s r1.a,.s r1.b,.s r1.c,.s r1.d]),(.agg [.s r2.a,.s r2.b,.s r2.c,.s r2.d]),(.agg [.s r3.a,.s r3.b,.s r3.c,.s r3.d]),(.agg [.s r4.a,.s r4.b,.s r4.c,.s r4.d]),(.agg [.s r5.a,.s r5.b,.s r5.c,.s r5.d]),(.agg [.s r6.a,.s r6.b,.s r6.c,.s r6.d]),(.agg [.s r7.a,.s r7.b,.s r7.c,.s r7.d])],.ls [.i .i64 e0,.i .i64 e1,.i .i64 e2,.i .i64 e3,.i .i64 e4,.i .i64 e5,.i .i64 e6,.i .i64 e7]])),H):=by
 rw[callV_fn (sf:=c31) rfl rfl rfl rfl]
 obtain⟨G,eG⟩:∃ G:Hp,G=.gr 31 1 []::.gr 29 4 []::.gr 31 1 []::.gr 29 4 []::.box 29 [.d (.s B.a),.d (.s B.b),.d (.s B.c),.d (.s B.d)]::.box 29 [.d (.s A.a),.d (.s A.b),.d (.s A.c),.d (.s A.d)]::H:=⟨_,rfl⟩
 have c0:CS A B H.length (H.length+1) (H.length+1+1+1+1) (H.length+1+1+1+1+1) [] [] H G:=by
  subst eG
  refine⟨by simp[put,eset,eget,D.cells,V.cells,allD,hget,hset,fz,zC,zN],by simp[put,eset,eget,D.cells,V.cells,allD,hget,hset,fz,zC,zN],by simp[put,eset,eget,D.cells,V.cells,allD,hget,hset,fz,zC,zN],by simp[put,eset,eget,D.cells,V.cells,allD,hget,hset,fz,zC,zN],⟨[_,_,_,_,_,_],rfl⟩,by omega,by omega,by omega,by omega,by omega,by omega,by omega⟩
 have q0:=calls_r0 (n:=n) c0 (by simp) (by simp) (f0 _ ((c0.over.cons).glb hG) ((c0.over.cons).err hE))
 have c1:=c0.next (.box 29 [.d (.s r0.a),.d (.s r0.b),.d (.s r0.c),.d (.s r0.d)]) (.d (.agg [.s r0.a,.s r0.b,.s r0.c,.s r0.d])) (.d (.i .i64 e0))
 simp only[List.nil_append,List.cons_append] at q0 c1
 generalize hset (hset (.box 29 [.d (.s r0.a),.d (.s r0.b),.d (.s r0.c),.d (.s r0.d)]::G) _ _) _ _=G1 at q0 c1
 have q1:=calls_r1 (n:=n) c1 (by simp) (by simp) (f1 _ ((c1.over.cons).glb hG) ((c1.over.cons).err hE))
 have c2:=c1.next (.box 29 [.d (.s r1.a),.d (.s r1.b),.d (.s r1.c),.d (.s r1.d)]) (.d (.agg [.s r1.a,.s r1.b,.s r1.c,.s r1.d])) (.d (.i .i64 e1))
 simp only[List.nil_append,List.cons_append] at q1 c2
 generalize hset (hset (.box 29 [.d (.s r1.a),.d (.s r1.b),.d (.s r1.c),.d (.s r1.d)]::G1) _ _) _ _=G2 at q1 c2
 have q2:=calls_r2 (n:=n) c2 (by simp) (by simp) (f2 _ ((c2.over.cons).glb hG) ((c2.over.cons).err hE))
 have c3:=c2.next (.box 29 [.d (.s r2.a),.d (.s r2.b),.d (.s r2.c),.d (.s r2.d)]) (.d (.agg [.s r2.a,.s r2.b,.s r2.c,.s r2.d])) (.d (.i .i64 e2))
 simp only[List.nil_append,List.cons_append] at q2 c3
 generalize hset (hset (.box 29 [.d (.s r2.a),.d (.s r2.b),.d (.s r2.c),.d (.s r2.d)]::G2) _ _) _ _=G3 at q2 c3
 have q3:=calls_r3 (n:=n) c3 (by simp) (by simp) (f3 _ ((c3.over.cons).glb hG) ((c3.over.cons).err hE))
 have c4:=c3.next (.box 29 [.d (.s r3.a),.d (.s r3.b),.d (.s r3.c),.d (.s r3.d)]) (.d (.agg [.s r3.a,.s r3.b,.s r3.c,.s r3.d])) (.d (.i .i64 e3))
 simp only[List.nil_append,List.cons_append] at q3 c4
 generalize hset (hset (.box 29 [.d (.s r3.a),.d (.s r3.b),.d (.s r3.c),.d (.s r3.d)]::G3) _ _) _ _=G4 at q3 c4
 have q4:=calls_r4 (n:=n) c4 (by simp) (by simp) (f4 _ ((c4.over.cons).glb hG) ((c4.over.cons).err hE))
 have c5:=c4.next (.box 29 [.d (.s r4.a),.d (.s r4.b),.d (.s r4.c),.d (.s r4.d)]) (.d (.agg [.s r4.a,.s r4.b,.s r4.c,.s r4.d])) (.d (.i .i64 e4))
 simp only[List.nil_append,List.cons_append] at q4 c5
 generalize hset (hset (.box 29 [.d (.s r4.a),.d (.s r4.b),.d (.s r4.c),.d (.s r4.d)]::G4) _ _) _ _=G5 at q4 c5
 have q5:=calls_r5 (n:=n) c5 (by simp) (by simp) (f5 _ ((c5.over.cons).glb hG) ((c5.over.cons).err hE))
 have c6:=c5.next (.box 29 [.d (.s r5.a),.d (.s r5.b),.d (.s r5.c),.d (.s r5.d)]) (.d (.agg [.s r5.a,.s r5.b,.s r5.c,.s r5.d])) (.d (.i .i64 e5))
 simp only[List.nil_append,List.cons_append] at q5 c6
 generalize hset (hset (.box 29 [.d (.s r5.a),.d (.s r5.b),.d (.s r5.c),.d (.s r5.d)]::G5) _ _) _ _=G6 at q5 c6
 have q6:=calls_r6 (n:=n) c6 (by simp) (by simp) (f6 _ ((c6.over.cons).glb hG) ((c6.over.cons).err hE))
 have c7:=c6.next (.box 29 [.d (.s r6.a),.d (.s r6.b),.d (.s r6.c),.d (.s r6.d)]) (.d (.agg [.s r6.a,.s r6.b,.s r6.c,.s r6.d])) (.d (.i .i64 e6))
 simp only[List.nil_append,List.cons_append] at q6 c7
 generalize hset (hset (.box 29 [.d (.s r6.a),.d (.s r6.b),.d (.s r6.c),.d (.s r6.d)]::G6) _ _) _ _=G7 at q6 c7
 have q7:=calls_r7 (n:=n) c7 (by simp) (by simp) (f7 _ ((c7.over.cons).glb hG) ((c7.over.cons).err hE))
 have c8:=c7.next (.box 29 [.d (.s r7.a),.d (.s r7.b),.d (.s r7.c),.d (.s r7.d)]) (.d (.agg [.s r7.a,.s r7.b,.s r7.c,.s r7.d])) (.d (.i .i64 e7))
 simp only[List.nil_append,List.cons_append] at q7 c8
 generalize hset (hset (.box 29 [.d (.s r7.a),.d (.s r7.b),.d (.s r7.c),.d (.s r7.d)]::G7) _ _) _ _=G8 at q7 c8
 have q8:=calls_end (G:=G8) (n:=n) (pA:=H.length) (pB:=H.length+1) (o8:=H.length+1+1+1+1) (o9:=H.length+1+1+1+1+1)
 have lp:evI cS (.loop l31_0) none (clE n H.length (H.length+1) (H.length+1+1+1+1) (H.length+1+1+1+1+1) 0) G=some (.ex 0,clE n H.length (H.length+1) (H.length+1+1+1+1) (H.length+1+1+1+1+1) 8++[(14,.d (.b false))],G8):=by
  rw[evI_loop,q0]
  simp only[thenR]
  rw[evI_loop,q1]
  simp only[thenR]
  rw[evI_loop,q2]
  simp only[thenR]
  rw[evI_loop,q3]
  simp only[thenR]
  rw[evI_loop,q4]
  simp only[thenR]
  rw[evI_loop,q5]
  simp only[thenR]
  rw[evI_loop,q6]
  simp only[thenR]
  rw[evI_loop,q7]
  simp only[thenR]
  rw[evI_loop,q8]
  rfl
 have hf:=fin_two (H:=H) (G:=G8) (ds:=[(.agg [.s r0.a,.s r0.b,.s r0.c,.s r0.d]),(.agg [.s r1.a,.s r1.b,.s r1.c,.s r1.d]),(.agg [.s r2.a,.s r2.b,.s r2.c,.s r2.d]),(.agg [.s r3.a,.s r3.b,.s r3.c,.s r3.d]),(.agg [.s r4.a,.s r4.b,.s r4.c,.s r4.d]),(.agg [.s r5.a,.s r5.b,.s r5.c,.s r5.d]),(.agg [.s r6.a,.s r6.b,.s r6.c,.s r6.d]),(.agg [.s r7.a,.s r7.b,.s r7.c,.s r7.d])]) (es:=[.i .i64 e0,.i .i64 e1,.i .i64 e2,.i .i64 e3,.i .i64 e4,.i .i64 e5,.i .i64 e6,.i .i64 e7]) c8.x c8.e c8.l8 c8.l9 c8.app
 rw[eG] at lp
 simp only[clE,Int.natCast_zero,show ((0:Nat):Int)=0 from rfl,show ((8:Nat):Int)=8 from rfl,List.cons_append,List.nil_append] at lp
 simp only[List.length_cons,List.length_nil] at hf
 simp[c31,b31,put,eset,eget,D.cells,V.cells,allD,hget,hset,fz,zC,zN,lp]
 exact hf
end
section
open Go Num
theorem trimmed_ok3 {H:Hp}{o:Nat}{xs:List Nat} (hl:xs.length<1000000) (ho:hget H o=some (.gr 3 1 (vl xs))) :
 callV cS false (fnV 187) [.gr o xs.length] H=some (.val (.d (nl (trim xs))),H):=by
 rw[callV_fn (sf:=c187) rfl rfl rfl rfl]
 have hvl:=vl_len xs
 have hal:=allV xs
 have had:=allD_vl xs
 have htr:=trim3_ok xs (by omega)
 have hlt:=hget_lt' ho
 have hne:¬ o=H.length:=by omega
 have b1:(xs.length:Int)*8≤140737488355328:=by omega
 have b2:xs.length*8≤140737488355328:=by omega
 have b3:xs.length≤140737488355328:=by omega
 simp only[nl] at htr ⊢
 simp[c187,b187,put,eset,eget,D.cells,V.cells,allD,hget,hset,fz,zC,zN,ho,hvl,hal,had,htr,evApp,elemsOf,frzR,frzV,allCells,notGr,setParts,hne,b1,b2,b3]
def rtE (H:Hp) (n k:Nat) (z:Int):En:=[(5,.d (nl (digs 10 n))),(6,.gr H.length k),(7,.d (.i .i64 z))]
theorem root_in3 (H:Hp) (n i:Nat) (out:List Nat) (hi:i<out.length) (ho:out.length≤200) (gout:Digs out):∀ d,d≤9 →
 ∃ d',d'≤d∧(d'=0∨val 10 (out.set i d')*val 10 (out.set i d')≤n)∧(∀ e,d'<e→e≤d→n<val 10 (out.set i e)*val 10 (out.set i e)) ∧
  evI cS (.loop l173_0) none (rtE H n out.length i) (.gr 3 1 (vl (out.set i d))::H)=some (.ex 2,rtE H n out.length i++[(50,.d (.b false))],.gr 3 1 (vl (out.set i d'))::H):=by
 intro d
 induction d with
 | zero =>
   intro _
   refine⟨0,by omega,.inl rfl,fun e h1 h2=>by omega,?_⟩
   rw[evI_loop]
   have hvl:(vl (out.set i 0)).length=out.length:=by rw[vl_len,List.length_set]
   have hx:(vl (out.set i 0))[i]? = some (.d (.i .i64 0)):=by simp[vl,nI,hi]
   have hj:(i:Int)<(out.length:Int):=by omega
   generalize vl (out.set i 0)=L at *
   obtain⟨_,hx⟩:=List.getElem?_eq_some_iff.1 hx
   simp[l173_0,rtE,put,eset,eget,D.cells,V.cells,allD,hget,hset,fz,zC,zN,hvl,hx,hj,hi,chunk1]
 | succ d ih =>
   intro hd
   have hl0:(out.set i (d+1)).length=out.length:=List.length_set
   have hvl:(vl (out.set i (d+1))).length=out.length:=by rw[vl_len,hl0]
   have hx:(vl (out.set i (d+1)))[i]? = some (.d (.i .i64 ((d:Int)+1))):=by simp[vl,nI,hi]
   have hj:(i:Int)<(out.length:Int):=by omega
   have hst:(vl (out.set i (d+1))).set i (.d (.i .i64 (d:Int)))=vl (out.set i d):=by
    have:=vl_set (out.set i (d+1)) i d
    rw[List.set_set] at this
    exact this.symm
   have g0:Digs (out.set i (d+1)):=digs_set gout (by omega)
   have ht:=trimmed_ok3 (H:=.gr 3 1 (vl (out.set i (d+1)))::H) (o:=H.length) (xs:=out.set i (d+1)) (by omega) (hget_top rfl)
   rw[trim_eq_digs (b:=10) (by omega) _ g0,hl0] at ht
   have hv:=val_lt (b:=10) (by omega) _ g0
   rw[hl0] at hv
   have hv2:val 10 (out.set i (d+1))<10 ^ 200:=Nat.lt_of_lt_of_le hv (Nat.pow_le_pow_right (by omega) ho)
   obtain⟨v,ev⟩:∃ v,v=val 10 (out.set i (d+1)):=⟨_,rfl⟩
   rw[← ev] at ht hv hv2
   have lv:(digs 10 v).length≤200:=(digs_length_le (by omega)).2 hv2
   have lvv:(digs 10 (v*v)).length≤200+200:=digs_mul_len lv lv
   have hm:=times3_ok v v (by omega) (by omega)
   have hc:=order_ok (v*v) n (by omega)
   have w1:IntKind.i64.wrap (d:Int)=(d:Int):=wr64 (by omega) (by omega)
   have hp:(0:Int)<(d:Int)+1:=by omega
   by_cases hk:n<v*v
   ·obtain⟨d',e1,e2,e3,e4⟩:=ih (by omega)
    refine⟨d',by omega,e2,fun e h1 h2=>?_,?_⟩
    ·by_cases he:e=d+1
     ·rw[he,← ev];exact hk
     ·exact e3 e h1 (by omega)
    ·have hcm:(0:Int)<cmpI (v*v:Nat) n:=by rw[cmpI_gt];omega
     rw[evI_loop]
     simp only[l173_0,o1,mv,rtE,nl] at e4
     generalize cmpI (v*v:Nat) n=c at *
     generalize vl (out.set i (d+1))=L at *
     generalize vl (out.set i d)=L1 at *
     generalize vl (out.set i d')=L2 at *
     simp only[nl] at ht hm hc
     obtain⟨_,hx⟩:=List.getElem?_eq_some_iff.1 hx
     simp[l173_0,rtE,nl,put,eset,eget,D.cells,V.cells,allD,hget,hset,fz,zC,zN,hvl,hx,hj,hi,hp,chunk1,ht,hm,hc,hcm,w1,putCells,hst,e4]
   ·refine⟨d+1,by omega,.inr (by rw[← ev];omega),fun e h1 h2=>by omega,?_⟩
    have hcm:¬ (0:Int)<cmpI (v*v:Nat) n:=by rw[cmpI_gt];omega
    rw[evI_loop]
    generalize cmpI (v*v:Nat) n=c at *
    generalize vl (out.set i (d+1))=L at *
    simp only[nl] at ht hm hc
    obtain⟨_,hx⟩:=List.getElem?_eq_some_iff.1 hx
    simp[l173_0,rtE,nl,put,eset,eget,D.cells,V.cells,allD,hget,hset,fz,zC,zN,hvl,hx,hj,hi,hp,chunk1,ht,hm,hc,hcm]
theorem root_out3 (H:Hp) (n k:Nat) (hk:k≤200):∀ (i A:Nat) (out:List Nat),i≤k→out.length=k→Digs out→(∀ j,j<i→out.getD j 0=0)→val 10 out=A*10 ^ i→A*10 ^ i*(A*10 ^ i)≤n→n<(A+1)*10 ^ i*((A+1)*10 ^ i) →
 ∃ out',evI cS (.loop l173_1) none (rtE H n k ((i:Int)-1)) (.gr 3 1 (vl out)::H)=some (.ex 0,rtE H n k (-1)++[(30,.d (.b false))],.gr 3 1 (vl out')::H)∧out'.length=k∧Digs out'∧IsRoot n (val 10 out'):=by
 intro i
 induction i with
 | zero =>
   intro A out hi ho gout hz hv h1 h2
   simp only[Nat.pow_zero,Nat.mul_one] at hv h1 h2
   refine⟨out,?_,ho,gout,by rw[hv];exact⟨h1,h2⟩⟩
   rw[evI_loop]
   simp[l173_1,rtE,put,eset,eget,D.cells,V.cells,allD,hget,hset,fz,zC,zN]
 | succ i ih =>
   intro A out hi ho gout hz hv h1 h2
   have hio:i<out.length:=by omega
   obtain⟨d,e1,e2,e3,e4⟩:=root_in3 H n i out hio (by omega) gout 9 (by omega)
   have hval:∀ e,val 10 (out.set i e)=(10*A+e)*10 ^ i:=by
    intro e
    have:=val_set 10 out i e hio
    rw[hz i (by omega),Nat.zero_mul,Nat.add_zero,hv] at this
    rw[this,Nat.add_mul,Nat.pow_succ]
    congr 1
    rw[Nat.mul_comm (10 ^ i) 10,← Nat.mul_assoc,Nat.mul_comm A 10]
   have hA:A*10 ^ (i+1)=10*A*10 ^ i:=by rw[Nat.pow_succ,Nat.mul_comm (10 ^ i) 10,← Nat.mul_assoc,Nat.mul_comm A 10]
   have hA1:(A+1)*10 ^ (i+1)=(10*A+9+1)*10 ^ i:=by rw[Nat.pow_succ,Nat.mul_comm (10 ^ i) 10,← Nat.mul_assoc];congr 1;omega
   obtain⟨out',r1,r2,r3,r4⟩:=ih (10*A+d) (out.set i d) (by omega) (by rw[List.length_set];exact ho) (digs_set gout (by omega))
    (fun j hj=>by
     have:=hz j (by omega)
     rw[List.getD_eq_getElem?_getD] at this ⊢
     rw[List.getElem?_set_ne (by omega)]
     exact this) (hval d)
    (by
     rcases e2 with h | h
     ·rw[h,Nat.add_zero,← hA];exact h1
     ·rw[hval] at h;exact h)
    (by
     by_cases h:d=9
     ·rw[h,← hA1];exact h2
     ·have:=e3 (d+1) (by omega) (by omega)
      rw[hval] at this
      exact this)
   refine⟨out',?_,r2,r3,r4⟩
   rw[evI_loop]
   have hvl:(vl out).length=k:=by rw[vl_len,ho]
   have hst:(vl out).set i (.d (.i .i64 9))=vl (out.set i 9):=(vl_set out i 9).symm
   have hj:(i:Int)<(k:Int):=by omega
   have hik:i<k:=by omega
   have hx:∃ y,(vl out)[i]? = some (.d (.i .i64 y)):=⟨((out[i]:Nat):Int),by simp[vl,nI,hio]⟩
   obtain⟨y,hx⟩:=hx
   have w1:IntKind.i64.wrap ((i:Int)-1)=(i:Int)-1:=wr64 (by omega) (by omega)
   have e0:((i+1:Nat):Int)-1=i:=by omega
   rw[ho] at e4
   simp only[rtE,l173_1,o1,mv] at e4 r1
   rw[e0]
   generalize vl out'=L3 at *
   generalize vl (out.set i d)=L2 at *
   generalize vl (out.set i 9)=L1 at *
   generalize vl out=L at *
   obtain⟨_,hx⟩:=List.getElem?_eq_some_iff.1 hx
   simp[l173_1,rtE,put,eset,eget,D.cells,V.cells,allD,hget,hset,fz,zC,zN,hvl,hx,hj,hik,chunk1,putCells,hst,e4,w1,r1]
theorem val_zeros (n:Nat):val 10 (List.replicate n 0)=0:=by
 induction n with
 | zero=>rfl
 | succ n ih=>rw[List.replicate_succ,val,ih]
theorem Root3_ok (a:List UInt8) (sa:Short a) (H:Hp):callV cS false (fnV 173) [.d (.s a)] H=some (.val (.d (opI1 rootD errI a)),H):=by
 rw[callV_fn (sf:=c173) rfl rfl rfl rfl]
 have v1:=Valid3_ok a sa
 cases ha:ival a with
 | none =>
   rw[ha] at v1
   rw[show opI1 rootD errI a=errI by simp[opI1,ha]]
   simp[c173,b173,put,eset,eget,D.cells,V.cells,allD,hget,hset,fz,zC,zN,v1,errI]
 | some x =>
   rw[ha] at v1
   rw[show opI1 rootD errI a=rootD x by simp[opI1,ha]]
   have d1:=call_digits ha
   have lx:=fits_len10 (ival_fits ha)
   obtain⟨fx,rfl⟩:=ival_some ha
   by_cases hx:x<0
   ·have ht:txt x=45::txtN x.natAbs:=by unfold txt;rw[if_pos hx]
    rw[ht] at v1 ⊢
    rw[rootD,if_pos hx]
    simp[c173,b173,put,eset,eget,D.cells,V.cells,allD,hget,hset,fz,zC,zN,v1,errI]
   ·have ht:txt x=txtN x.natAbs:=by unfold txt;rw[if_neg hx]
    obtain⟨b0,l,hb,hb45⟩:=txtN_head45 x.natAbs
    have hbn:((b0.toNat:Int)==45)=false:=by
     rw[beq_eq_false_iff_ne];intro h
     exact hb45 (UInt8.toNat_inj.1 (by simp;omega))
    rw[hb] at ht
    rw[ht] at v1 d1 ⊢
    rw[rootD,if_neg hx]
    rw[decide_eq_false hx] at d1
    clear hb ht
    obtain⟨n,hn⟩:∃ n,n=x.natAbs:=⟨_,rfl⟩
    have hfn:Fits (isqrt n):=by
     have h2:=isqrt_le n
     unfold Fits at *
     rw[← hn] at fx
     simp;omega
    rw[← hn] at d1 lx ⊢
    obtain⟨k,hk⟩:∃ k,k=((digs 10 n).length+1)/2:=⟨_,rfl⟩
    have w1:IntKind.i64.wrap (((digs 10 n).length:Int)+1)=((digs 10 n).length:Int)+1:=wr64 (by omega) (by omega)
    have w2:(((digs 10 n).length:Int)+1).tdiv 2=(k:Int):=by rw[Int.tdiv_eq_ediv_of_nonneg (by omega)];omega
    have w3:IntKind.i64.wrap (k:Int)=(k:Int):=wr64 (by omega) (by omega)
    have w4:IntKind.i64.wrap ((k:Int)-1)=(k:Int)-1:=wr64 (by omega) (by omega)
    have b1:(k:Int)*8≤140737488355328:=by omega
    have b2:(k:Int)≤140737488355328:=by omega
    have hup:n<(0+1)*10 ^ k*((0+1)*10 ^ k):=by
     have h1:=(digs_length_le (b:=10) (n:=n) (k:=k+k) (by omega)).1 (by omega)
     rw[Nat.pow_add] at h1
     simpa using h1
    obtain⟨out,r1,r2,r3,r4⟩:=root_out3 H n k (by omega) k 0 (List.replicate k 0) (Nat.le_refl _) (by simp) (fun d hd=>by rw[List.eq_of_mem_replicate hd];omega) (fun j hj=>by simp[List.getD_eq_getElem?_getD,List.getElem?_replicate,hj]) (by rw[val_zeros];simp) (by simp) hup
    have hr:=IsRoot.unique r4 (isqrt_spec n)
    have htr:=trim3_ok out (by omega)
    rw[trim_eq_digs (b:=10) (by omega) _ r3,hr] at htr
    have lr:(digs 10 (isqrt n)).length≤200:=(digs_length_le (by omega)).2 (by unfold Fits at hfn;simpa using hfn)
    have ck:=checked_ok false (isqrt n) (by omega)
    rw[show sg false (isqrt n)=(isqrt n:Int) from rfl,fitD_of hfn] at ck
    have hvl:=vl_len out
    have had:=allD_vl out
    have hv0:vl (List.replicate k 0)=List.replicate k (.d (.i .i64 0)):=by simp[vl,nI]
    rw[hv0] at r1
    simp only[rtE,nl] at r1 d1 htr ck
    generalize isqrt n=rt at *
    generalize txt (rt:Int)=tr at *
    simp[c173,b173,put,eset,eget,D.cells,V.cells,allD,hget,hset,fz,zC,zN,v1,hbn,d1,w1,w2,w3,w4,b1,b2,chunk1,r1,r2,frzV,hvl,had,htr,ck]
end
section
open Go Num
theorem Div4_ok (a b c d:List UInt8) (sa:Short a) (sb:Short b) (sc:Short c) (sd:Short d) (H:Hp):callV cS false (fnV 172) [.d (.agg [.s a,.s b]),.d (.agg [.s c,.s d])] H=some (.val (.d (opQ (fun p q=>two (p.num*q.den) ((p.den:Int)*q.num)) errR a b c d)),H):=by
 rw[callV_fn (sf:=c172) rfl rfl rfl rfl]
 have v1:=Valid4_ok a b sa sb
 have v2:=Valid4_ok c d sc sd
 rcases opQ_cases a b c d with ⟨p,q,hp,hq⟩ | ⟨h1,h2⟩
 ·have he:opQ (fun p q=>two (p.num*q.den) ((p.den:Int)*q.num)) errR a b c d=two (p.num*q.den) ((p.den:Int)*q.num):=by simp only[opQ,hp,hq]
  rw[he]
  rw[hp,Option.isSome_some] at v1
  rw[hq,Option.isSome_some] at v2
  obtain⟨⟨fp1,fp2⟩,rfl,rfl⟩:=RQ_some hp
  obtain⟨⟨fq1,fq2⟩,rfl,rfl⟩:=RQ_some hq
  have m1:=Mul3_ok (txt p.num) (txt q.den) sa sd
  have m2:=Mul3_ok (txt p.den) (txt q.num) sb sc
  rw[opI_txt fp1 fq2] at m1
  rw[opI_txt fp2 fq1] at m2
  generalize p.num*q.den=x at *
  generalize (p.den:Int)*q.num=z at *
  by_cases f1:Fits x
  ·rw[fitD_of f1] at m1
   by_cases f2:Fits z
   ·rw[fitD_of f2] at m2
    have m:=Make3_ok (txt x) (txt z) (txt_short f1) (txt_short f2)
    rw[opI_txt f1 f2] at m
    have ht:two x z=makeD x z:=by unfold two;rw[if_pos ⟨f1,f2⟩]
    rw[ht]
    obtain⟨s,t,e,hf⟩:=makeD_form x z
    rw[hf] at m ⊢
    simp[c172,b172,put,eset,eget,D.cells,V.cells,allD,hget,hset,fz,zC,zN,v1,v2,m1,m2,m,setParts,chunk1,allCellsD]
   ·have h3:fitD z=errI:=by unfold fitD;rw[if_neg f2]
    have ht:two x z=errR:=by unfold two;rw[if_neg (fun h=>f2 h.2)]
    rw[ht]
    rw[h3,errI] at m2
    simp[c172,b172,put,eset,eget,D.cells,V.cells,allD,hget,hset,fz,zC,zN,v1,v2,m1,m2,errR,dR0,setParts,chunk1,allCellsD]
  ·have h3:fitD x=errI:=by unfold fitD;rw[if_neg f1]
   have ht:two x z=errR:=by unfold two;rw[if_neg (fun h=>f1 h.1)]
   rw[ht]
   rw[h3,errI] at m1
   obtain⟨s,e,hz⟩:=fitD_tup z
   rw[hz] at m2
   simp[c172,b172,put,eset,eget,D.cells,V.cells,allD,hget,hset,fz,zC,zN,v1,v2,m1,m2,errR,dR0,setParts,chunk1,allCellsD]
 ·rw[h2]
  cases ha:(RQ a b).isSome
  ·rw[ha] at v1
   simp[c172,b172,put,eset,eget,D.cells,V.cells,allD,hget,hset,fz,zC,zN,v1,v2,errR,dR0,setParts,chunk1,allCellsD]
  ·rw[ha] at v1 h1
   have hb:(RQ c d).isSome=false:=by simpa using h1
   rw[hb] at v2
   simp[c172,b172,put,eset,eget,D.cells,V.cells,allD,hget,hset,fz,zC,zN,v1,v2,errR,dR0,setParts,chunk1,allCellsD]
theorem power_loop (H:Hp) {m:Nat} (hm:m≤30):∀ (k i:Nat),i+k=m→evI cS (.loop l188_0) none [(0,.d (.i .i64 m)),(3,.d (.s (49::List.replicate i 48))),(4,.d (.i .i64 i))] H=some (.ex 0,[(0,.d (.i .i64 m)),(3,.d (.s (49::List.replicate m 48))),(4,.d (.i .i64 m)),(7,.d (.b false))],H):=by
 intro k
 induction k with
 | zero =>
   intro i hi
   obtain rfl:i=m:=by omega
   rw[evI_loop]
   generalize List.replicate i (48:UInt8)=z
   simp[l188_0,put,eset,eget,D.cells,V.cells,allD,hget,hset,fz,zC,zN]
 | succ k ih =>
   intro i hi
   have hlt:(i:Int)<m:=by omega
   have hlt2:i<m:=by omega
   have w1:IntKind.i64.wrap ((i:Int)+1)=(i:Int)+1:=wr64 (by omega) (by omega)
   have hih:=ih (i+1) (by omega)
   have hr:List.replicate i (48:UInt8)++[48]=List.replicate (i+1) 48:=List.replicate_succ'.symm
   have hlen:(List.replicate i (48:UInt8)).length≤9223372036854775805:=by simp;omega
   simp only[l188_0,o1,mv,Int.natCast_add,show ((1:Nat):Int)=1 from rfl] at hih
   rw[evI_loop]
   generalize List.replicate (i+1) (48:UInt8)=z1 at *
   generalize List.replicate i (48:UInt8)=z0 at *
   generalize List.replicate m (48:UInt8)=z2 at *
   simp[l188_0,put,eset,eget,D.cells,V.cells,allD,hget,hset,fz,zC,zN,hlt,hlt2,w1,hr,hlen,hih]
theorem power_ok {m:Nat} (hm:m≤30) (H:Hp):callV cS false (fnV 188) [.d (.i .i64 m)] H=some (.val (.d (.s (txt ((10 ^ m:Nat):Int)))),H):=by
 rw[callV_fn (sf:=c188) rfl rfl rfl rfl]
 have hl:=power_loop H hm m 0 (by omega)
 rw[txt_pow10]
 simp only[List.replicate_zero,show ((0:Nat):Int)=0 from rfl] at hl
 generalize List.replicate m (48:UInt8)=z at *
 generalize (m:Int)=n at *
 simp[c188,b188,put,eset,eget,D.cells,V.cells,allD,hget,hset,fz,zC,zN,hl]
theorem tens_loop (H:Hp) {m:Nat} (hm:m≤60):∀ (k i:Nat),i+k=m→evI cS (.loop l137_0) none [(0,.d (.i .i64 m)),(3,.d (.s (49::List.replicate i 48))),(4,.d (.i .i64 i))] H=some (.ex 0,[(0,.d (.i .i64 m)),(3,.d (.s (49::List.replicate m 48))),(4,.d (.i .i64 m)),(7,.d (.b false))],H):=by
 intro k
 induction k with
 | zero =>
   intro i hi
   obtain rfl:i=m:=by omega
   rw[evI_loop]
   generalize List.replicate i (48:UInt8)=z
   simp[l137_0,put,eset,eget,D.cells,V.cells,allD,hget,hset,fz,zC,zN]
 | succ k ih =>
   intro i hi
   have hlt:(i:Int)<m:=by omega
   have hlt2:i<m:=by omega
   have w1:IntKind.i64.wrap ((i:Int)+1)=(i:Int)+1:=wr64 (by omega) (by omega)
   have hih:=ih (i+1) (by omega)
   have hr:List.replicate i (48:UInt8)++[48]=List.replicate (i+1) 48:=List.replicate_succ'.symm
   have hlen:(List.replicate i (48:UInt8)).length≤9223372036854775805:=by simp;omega
   simp only[l137_0,o1,mv,Int.natCast_add,show ((1:Nat):Int)=1 from rfl] at hih
   rw[evI_loop]
   generalize List.replicate (i+1) (48:UInt8)=z1 at *
   generalize List.replicate i (48:UInt8)=z0 at *
   generalize List.replicate m (48:UInt8)=z2 at *
   simp[l137_0,put,eset,eget,D.cells,V.cells,allD,hget,hset,fz,zC,zN,hlt,hlt2,w1,hr,hlen,hih]
theorem tens_ok {m:Nat} (hm:m≤60) (H:Hp):callV cS false (fnV 137) [.d (.i .i64 m)] H=some (.val (.d (.s (txt ((10 ^ m:Nat):Int)))),H):=by
 rw[callV_fn (sf:=c137) rfl rfl rfl rfl]
 have hl:=tens_loop H hm m 0 (by omega)
 rw[txt_pow10]
 simp only[List.replicate_zero,show ((0:Nat):Int)=0 from rfl] at hl
 generalize List.replicate m (48:UInt8)=z at *
 generalize (m:Int)=n at *
 simp[c137,b137,put,eset,eget,D.cells,V.cells,allD,hget,hset,fz,zC,zN,hl]
def gridE:D:=.tup [.s [],.s [],.s [],.b false]
open Classical in
noncomputable def gridD (n:Int) (q:Rat):D:=if 0≤n∧n≤30 then (if Fits (q.num*(10 ^ n.toNat:Nat)) then .tup [.s (txt (q.num*(10 ^ n.toNat:Nat)/q.den)),.s (txt (q.num*(10 ^ n.toNat:Nat)%q.den)),.s (txt ((10 ^ n.toNat:Nat):Int)),.b true] else gridE) else gridE
theorem Grid4_ok (a b:List UInt8) (n:Int) (sa:Short a) (sb:Short b) (H:Hp):callV cS false (fnV 174) [.d (.agg [.s a,.s b]),.d (.i .i64 n)] H=some (.val (.d (opQ1 (gridD n) gridE a b)),H):=by
 rw[callV_fn (sf:=c174) rfl rfl rfl rfl]
 have v1:=Valid4_ok a b sa sb
 cases hp:RQ a b with
 | none =>
   rw[hp] at v1
   have he:opQ1 (gridD n) gridE a b=gridE:=by simp[opQ1,hp]
   rw[he]
   simp[c174,b174,put,eset,eget,D.cells,V.cells,allD,hget,hset,fz,zC,zN,v1,gridE]
 | some p =>
   rw[hp] at v1
   have he:opQ1 (gridD n) gridE a b=gridD n p:=by simp[opQ1,hp]
   rw[he]
   obtain⟨⟨f1,f2⟩,rfl,rfl⟩:=RQ_some hp
   by_cases h0:n<0
   ·rw[gridD,if_neg (by omega)]
    simp[c174,b174,put,eset,eget,D.cells,V.cells,allD,hget,hset,fz,zC,zN,v1,h0,gridE]
   ·by_cases h1:30<n
    ·rw[gridD,if_neg (by omega)]
     simp[c174,b174,put,eset,eget,D.cells,V.cells,allD,hget,hset,fz,zC,zN,v1,h0,h1,gridE]
    ·obtain⟨m,rfl⟩:=Int.eq_ofNat_of_zero_le (show 0≤n by omega)
     rw[gridD,if_pos ⟨by omega,by omega⟩,show ((m:Nat):Int).toNat=m from rfl]
     have hpw:=power_ok (m:=m) (by omega)
     have fT:=fits_pow10 (show m≤30 by omega)
     have m1:=Mul3_ok (txt p.num) (txt ((10 ^ m:Nat):Int)) sa (txt_short fT)
     rw[opI_txt f1 fT] at m1
     generalize ((10 ^ m:Nat):Int)=T at *
     generalize p.num*T=x at *
     by_cases fx:Fits x
     ·have hd:¬ (p.den:Int)=0:=by have:=den_pos p;omega
      have d1:=call_div3 fx f2 hd
      rw[if_pos fx]
      rw[fitD_of fx] at m1
      generalize (p.den:Int)=y at *
      generalize txt (x/y)=q at *
      generalize txt (x%y)=r at *
      generalize (m:Int)=n at *
      simp[c174,b174,put,eset,eget,D.cells,V.cells,allD,hget,hset,fz,zC,zN,v1,h0,h1,hpw,m1,d1]
     ·rw[if_neg fx]
      have h3:fitD x=errI:=by unfold fitD;rw[if_neg fx]
      rw[h3,errI] at m1
      generalize (m:Int)=n at *
      simp[c174,b174,put,eset,eget,D.cells,V.cells,allD,hget,hset,fz,zC,zN,v1,h0,h1,hpw,m1,gridE]
theorem Down4_ok (a b:List UInt8) (n:Int) (sa:Short a) (sb:Short b) (H:Hp):callV cS false (fnV 138) [.d (.agg [.s a,.s b]),.d (.i .i64 n)] H=some (.val (.d (opQ1 (rdD false n) errR a b)),H):=by
 rw[callV_fn (sf:=c138) rfl rfl rfl rfl]
 have g1:=Grid4_ok a b n sa sb
 cases hp:RQ a b with
 | none =>
   have he:opQ1 (gridD n) gridE a b=gridE:=by simp[opQ1,hp]
   have he2:opQ1 (rdD false n) errR a b=errR:=by simp[opQ1,hp]
   rw[he2]
   rw[he,gridE] at g1
   simp[c138,b138,put,eset,eget,D.cells,V.cells,allD,hget,hset,fz,zC,zN,g1,errR,dR0,setParts,chunk1,allCellsD]
 | some p =>
   have he:opQ1 (gridD n) gridE a b=gridD n p:=by simp[opQ1,hp]
   have he2:opQ1 (rdD false n) errR a b=rdD false n p:=by simp[opQ1,hp]
   rw[he2]
   rw[he] at g1
   obtain⟨⟨f1,f2⟩,rfl,rfl⟩:=RQ_some hp
   unfold gridD at g1
   unfold rdD
   by_cases h0:0≤n∧n≤30
   ·rw[if_pos h0] at g1 ⊢
    by_cases fx:Fits (p.num*(10 ^ n.toNat:Nat))
    ·rw[if_pos fx] at g1 ⊢
     have fT:=fits_pow10 (show n.toNat≤30 by omega)
     have fr:=rdI_fits (up:=false) fx (den_pos p) f2
     have fd:=rdI_fits (up:=false) fx (den_pos p) f2
     have mk:=Make3_ok (txt (rdI false (p.num*(10 ^ n.toNat:Nat)) p.den)) (txt ((10 ^ n.toNat:Nat):Int)) (txt_short fr) (txt_short fT)
     rw[opI_txt fr fT] at mk
     obtain⟨s,t,e,hm⟩:=makeD_form (rdI false (p.num*(10 ^ n.toNat:Nat)) p.den) ((10 ^ n.toNat:Nat):Int)
     rw[hm] at mk ⊢
     clear hm
     generalize ((10 ^ n.toNat:Nat):Int)=T at *
     generalize p.num*T=x at *
     generalize (p.den:Int)=y at *
     rw[show rdI false x y=x/y by simp[rdI]] at mk
     generalize txt (x/y)=q at *
     generalize txt (x%y)=r at *
     simp[c138,b138,put,eset,eget,D.cells,V.cells,allD,hget,hset,fz,zC,zN,g1,mk,setParts,chunk1,allCellsD]
    ·rw[if_neg fx,gridE] at g1
     rw[if_neg fx]
     simp[c138,b138,put,eset,eget,D.cells,V.cells,allD,hget,hset,fz,zC,zN,g1,errR,dR0,setParts,chunk1,allCellsD]
   ·rw[if_neg h0,gridE] at g1
    rw[if_neg h0]
    simp[c138,b138,put,eset,eget,D.cells,V.cells,allD,hget,hset,fz,zC,zN,g1,errR,dR0,setParts,chunk1,allCellsD]
theorem Up4_ok (a b:List UInt8) (n:Int) (sa:Short a) (sb:Short b) (H:Hp):callV cS false (fnV 139) [.d (.agg [.s a,.s b]),.d (.i .i64 n)] H=some (.val (.d (opQ1 (rdD true n) errR a b)),H):=by
 rw[callV_fn (sf:=c139) rfl rfl rfl rfl]
 have g1:=Grid4_ok a b n sa sb
 cases hp:RQ a b with
 | none =>
   have he:opQ1 (gridD n) gridE a b=gridE:=by simp[opQ1,hp]
   have he2:opQ1 (rdD true n) errR a b=errR:=by simp[opQ1,hp]
   rw[he2]
   rw[he,gridE] at g1
   simp[c139,b139,put,eset,eget,D.cells,V.cells,allD,hget,hset,fz,zC,zN,g1,errR,dR0,setParts,chunk1,allCellsD]
 | some p =>
   have he:opQ1 (gridD n) gridE a b=gridD n p:=by simp[opQ1,hp]
   have he2:opQ1 (rdD true n) errR a b=rdD true n p:=by simp[opQ1,hp]
   rw[he2]
   rw[he] at g1
   obtain⟨⟨f1,f2⟩,rfl,rfl⟩:=RQ_some hp
   unfold gridD at g1
   unfold rdD
   by_cases h0:0≤n∧n≤30
   ·rw[if_pos h0] at g1 ⊢
    by_cases fx:Fits (p.num*(10 ^ n.toNat:Nat))
    ·rw[if_pos fx] at g1 ⊢
     have fT:=fits_pow10 (show n.toNat≤30 by omega)
     have fr:=rdI_fits (up:=true) fx (den_pos p) f2
     have fd:=rdI_fits (up:=false) fx (den_pos p) f2
     have mk:=Make3_ok (txt (rdI true (p.num*(10 ^ n.toNat:Nat)) p.den)) (txt ((10 ^ n.toNat:Nat):Int)) (txt_short fr) (txt_short fT)
     rw[opI_txt fr fT] at mk
     obtain⟨s,t,e,hm⟩:=makeD_form (rdI true (p.num*(10 ^ n.toNat:Nat)) p.den) ((10 ^ n.toNat:Nat):Int)
     rw[hm] at mk ⊢
     clear hm
     generalize ((10 ^ n.toNat:Nat):Int)=T at *
     generalize p.num*T=x at *
     generalize (p.den:Int)=y at *
     rw[show rdI false x y=x/y by simp[rdI]] at fd
     by_cases hr:x%y=0
     ·rw[show rdI true x y=x/y by simp[rdI,hr]] at mk
      rw[hr,txt_zero] at g1
      generalize txt (x/y)=q at *
      simp[c139,b139,put,eset,eget,D.cells,V.cells,allD,hget,hset,fz,zC,zN,g1,mk,setParts,chunk1,allCellsD]
     ·rw[show rdI true x y=x/y+1 by simp[rdI,hr]] at mk fr
      have ad:=Add3_ok (txt (x/y)) [49] (txt_short fd) (by unfold Short;simp)
      rw[← txt_one,opI_txt fd fits_one,fitD_of fr,txt_one] at ad
      have hne:(txt (x%y)==[48])=false:=by rw[beq_eq_false_iff_ne];exact fun k=>hr (txt_eq_zero.1 k)
      generalize txt (x/y+1)=q1 at *
      generalize txt (x/y)=q at *
      generalize txt (x%y)=r at *
      simp[c139,b139,put,eset,eget,D.cells,V.cells,allD,hget,hset,fz,zC,zN,g1,mk,ad,bne,hne,setParts,chunk1,allCellsD]
    ·rw[if_neg fx,gridE] at g1
     rw[if_neg fx]
     simp[c139,b139,put,eset,eget,D.cells,V.cells,allD,hget,hset,fz,zC,zN,g1,errR,dR0,setParts,chunk1,allCellsD]
   ·rw[if_neg h0,gridE] at g1
    rw[if_neg h0]
    simp[c139,b139,put,eset,eget,D.cells,V.cells,allD,hget,hset,fz,zC,zN,g1,errR,dR0,setParts,chunk1,allCellsD]
end
section
open Go Num
def IVS (x:IV):Prop:=(Short x.a∧Short x.b)∧Short x.c∧Short x.d
noncomputable def cmpT (a b c d:List UInt8):Int:=match RQ a b,RQ c d with
 | some p,some q=>cmpQ p q
 | _,_=>0
theorem cmp4_T (a b c d:List UInt8) (sa:Short a) (sb:Short b) (sc:Short c) (sd:Short d) (H:Hp):callV cS false (fnV 94) [.d (.agg [.s a,.s b]),.d (.agg [.s c,.s d])] H=some (.val (.d (.i .i64 (cmpT a b c d))),H):=by
 rw[Compare4_ok _ _ _ _ sa sb sc sd]
 unfold opQ cmpT
 cases RQ a b<;>cases RQ c d<;>rfl
theorem ok_eq (a b c d:List UInt8):(IV.mk a b c d).ok=((RQ a b).isSome&&(RQ c d).isSome&&decide (cmpT a b c d≤0)):=by
 unfold IV.ok VQ cmpT
 cases RQ a b<;>cases RQ c d<;>simp
 split<;>simp[*]
theorem inB_eq (a b c d e f:List UInt8):inB ⟨a,b,c,d⟩ e f=((IV.mk a b c d).ok&&(RQ e f).isSome&&decide (cmpT a b e f≤0)&&decide (cmpT e f c d≤0)):=by
 unfold inB IV.ok VQ cmpT
 cases RQ a b<;>cases RQ c d<;>cases RQ e f<;>simp
 rename_i p q r
 by_cases h:cmpQ p q≤0<;>simp[h]
theorem Valid5_ok (x:IV) (s:IVS x) (H:Hp):callV cS false (fnV 36) [.d x.D] H=some (.val (.d (.b x.ok)),H):=by
 rw[callV_fn (sf:=c36) rfl rfl rfl rfl]
 obtain⟨a,b,c,d⟩:=x
 obtain⟨⟨sa,sb⟩,sc,sd⟩:=s
 have v1:=Valid4_ok a b sa sb
 have v2:=Valid4_ok c d sc sd
 have cm:=cmp4_T a b c d sa sb sc sd
 rw[ok_eq]
 simp only[IV.D]
 generalize cmpT a b c d=k at *
 generalize (RQ a b).isSome=p at *
 generalize (RQ c d).isSome=q at *
 cases p<;>cases q<;>simp[c36,b36,put,eset,eget,D.cells,V.cells,allD,hget,hset,fz,zC,zN,v1,v2,cm]
theorem Point5_ok (a b:List UInt8) (sa:Short a) (sb:Short b) (H:Hp):callV cS false (fnV 38) [.d (.agg [.s a,.s b])] H=some (.val (.d (if (RQ a b).isSome=true then dV a b a b else zI)),H):=by
 rw[callV_fn (sf:=c38) rfl rfl rfl rfl]
 have v1:=Valid4_ok a b sa sb
 generalize (RQ a b).isSome=p at *
 cases p<;>simp[c38,b38,put,eset,eget,D.cells,V.cells,allD,hget,hset,fz,zC,zN,v1,dV,zI,setParts,chunk1,allCellsD]
theorem Contains5_ok (x:IV) (e f:List UInt8) (s:IVS x) (se:Short e) (sf:Short f) (H:Hp):callV cS false (fnV 39) [.d x.D,.d (.agg [.s e,.s f])] H=some (.val (.d (.b (inB x e f))),H):=by
 rw[callV_fn (sf:=c39) rfl rfl rfl rfl]
 have v1:=Valid5_ok x s
 obtain⟨a,b,c,d⟩:=x
 obtain⟨⟨sa,sb⟩,sc,sd⟩:=s
 have v2:=Valid4_ok e f se sf
 have k1:=cmp4_T a b e f sa sb se sf
 have k2:=cmp4_T e f c d se sf sc sd
 rw[inB_eq]
 simp only[IV.D] at v1 ⊢
 generalize cmpT a b e f=m at *
 generalize cmpT e f c d=n at *
 generalize (RQ e f).isSome=p at *
 generalize (IV.mk a b c d).ok=q at *
 by_cases hm:m≤0<;>cases p<;>cases q<;>simp[c39,b39,put,eset,eget,D.cells,V.cells,allD,hget,hset,fz,zC,zN,v1,v2,k1,k2,hm]
theorem Within5_ok (x y:IV) (s:IVS x) (t:IVS y) (H:Hp):callV cS false (fnV 40) [.d x.D,.d y.D] H=some (.val (.d (.b (x.ok&&inB y x.a x.b&&inB y x.c x.d))),H):=by
 rw[callV_fn (sf:=c40) rfl rfl rfl rfl]
 have v1:=Valid5_ok x s
 have v2:=Contains5_ok y x.a x.b t s.1.1 s.1.2
 have v3:=Contains5_ok y x.c x.d t s.2.1 s.2.2
 obtain⟨a,b,c,d⟩:=x
 obtain⟨a',b',c',d'⟩:=y
 simp only[IV.D] at v1 v2 v3 ⊢
 generalize inB _ a b=p at *
 generalize inB _ c d=q at *
 generalize (IV.mk a b c d).ok=r at *
 cases p<;>cases q<;>cases r<;>simp[c40,b40,put,eset,eget,D.cells,V.cells,allD,hget,hset,fz,zC,zN,v1,v2,v3]
theorem both5_ok (x y:IV) (s:IVS x) (t:IVS y) (H:Hp):callV cS false (fnV 132) [.d x.D,.d y.D] H=some (.val (.d (.b (x.ok&&y.ok))),H):=by
 rw[callV_fn (sf:=c132) rfl rfl rfl rfl]
 have v1:=Valid5_ok x s
 have v2:=Valid5_ok y t
 obtain⟨a,b,c,d⟩:=x
 obtain⟨a',b',c',d'⟩:=y
 simp only[IV.D] at v1 v2 ⊢
 generalize (IV.mk a b c d).ok=p at *
 generalize (IV.mk a' b' c' d').ok=q at *
 cases p<;>cases q<;>simp[c132,b132,put,eset,eget,D.cells,V.cells,allD,hget,hset,fz,zC,zN,v1,v2]
theorem zero5_ok (H:Hp):callV cS false (fnV 135) [] H=some (.val (.d (.agg [.s [48],.s [49]])),H):=by
 rw[callV_fn (sf:=c135) rfl rfl rfl rfl]
 simp[c135,b135,put,eset,eget,D.cells,V.cells,allD,hget,hset,fz,zC,zN,setParts,chunk1,allCellsD]
def resD:Option D→D
 | some x=>.tup [x,.i .i64 0]
 | none=>errV
theorem workD_eq (l:List IV) (x:Option D):workD l x=if l.all IV.ok=true then resD x else errV:=by
 unfold workD resD;rfl
theorem result5_ok (s t u v:List UInt8) (e f:Int) (H:Hp):callV cS false (fnV 133) [.d (.agg [.s s,.s t]),.d (.i .i64 e),.d (.agg [.s u,.s v]),.d (.i .i64 f)] H=some (.val (.d (resD (pairD (.tup [.agg [.s s,.s t],.i .i64 e]) (.tup [.agg [.s u,.s v],.i .i64 f])))),H):=by
 rw[callV_fn (sf:=c133) rfl rfl rfl rfl]
 by_cases he:e=0
 ·subst he
  by_cases hf:f=0
  ·subst hf
   simp[c133,b133,put,eset,eget,D.cells,V.cells,allD,hget,hset,fz,zC,zN,resD,pairD,okR,setParts,chunk1,allCellsD]
  ·have hb:(f==0)=false:=by rw[beq_eq_false_iff_ne];exact hf
   simp[c133,b133,put,eset,eget,D.cells,V.cells,allD,hget,hset,fz,zC,zN,resD,pairD,okR,hf,hb,bne,errV,zI,setParts,chunk1,allCellsD]
 ·have hb:(e==0)=false:=by rw[beq_eq_false_iff_ne];exact he
  simp[c133,b133,put,eset,eget,D.cells,V.cells,allD,hget,hset,fz,zC,zN,resD,pairD,okR,he,hb,bne,errV,zI,setParts,chunk1,allCellsD]
end
section
open Go Num
theorem okR_of {x:D}{o:Option Rat} (h:oneD x=o.map dR):okR x=o.map (fun r=>(txt r.num,txt r.den)):=by
 unfold oneD at h
 cases hx:okR x with
 | none=>rw[hx] at h;cases o;rfl;cases h
 | some st =>
   obtain⟨s,t⟩:=st
   rw[hx] at h
   cases o with
   | none=>cases h
   | some r=>simp[dR] at h;simp[h]
theorem pair_one {x y:D}{o r:Option Rat} (h:oneD x=o.map dR) (k:oneD y=r.map dR):pairD x y=pairO o r:=by
 unfold pairD pairO
 rw[okR_of h,okR_of k]
 cases o<;>cases r<;>rfl
theorem resD_form {o:Option D} (h:∀ z,o=some z→∃ s t u v,z=.agg [.s s,.s t,.s u,.s v]):∃ s t u v e,resD o=.tup [.agg [.s s,.s t,.s u,.s v],.i .i64 e]:=by
 cases o with
 | none=>exact⟨_,_,_,_,_,rfl⟩
 | some z=>obtain⟨s,t,u,v,rfl⟩:=h z rfl;exact⟨_,_,_,_,_,rfl⟩
theorem ok_VQ {a b c d:List UInt8} (h:(IV.mk a b c d).ok=true):∃ p q,VQ a b c d=some (p,q)∧(RQ a b=some p∧RQ c d=some q)∧p≤q:=by
 unfold IV.ok at h
 obtain⟨⟨p,q⟩,hv⟩:=Option.isSome_iff_exists.1 h
 obtain⟨h1,h2,h3⟩:=VQ_some hv
 exact⟨p,q,hv,⟨h1,h2⟩,cmpQ_le.1 h3⟩
theorem Add5_ok (x y:IV) (s:IVS x) (t:IVS y) (H:Hp):callV cS false (fnV 84) [.d x.D,.d y.D] H=some (.val (.d (workD [x,y] (addX x y))),H):=by
 rw[callV_fn (sf:=c84) rfl rfl rfl rfl]
 have v1:=both5_ok x y s t
 obtain⟨a,b,c,d⟩:=x
 obtain⟨a',b',c',d'⟩:=y
 obtain⟨⟨sa,sb⟩,sc,sd⟩:=s
 obtain⟨⟨sa',sb'⟩,sc',sd'⟩:=t
 have hall:[IV.mk a b c d,IV.mk a' b' c' d'].all IV.ok=((IV.mk a b c d).ok&&(IV.mk a' b' c' d').ok):=by simp
 rw[workD_eq,hall]
 simp only[IV.D] at v1 ⊢
 by_cases hok:(IV.mk a b c d).ok=true∧(IV.mk a' b' c' d').ok=true
 ·rw[hok.1,hok.2] at v1 ⊢
  obtain⟨p1,q1,hx,⟨h1,h2⟩,_⟩:=ok_VQ hok.1
  obtain⟨p2,q2,hy,⟨k1,k2⟩,_⟩:=ok_VQ hok.2
  have hX:addX ⟨a,b,c,d⟩ ⟨a',b',c',d'⟩=pairO (sumO (fun x y=>x+y) p1 p2) (sumO (fun x y=>x+y) q1 q2):=by simp only[addX,hx,hy]
  have A:=Add4_ok a b a' b' sa sb sa' sb'
  have B:=Add4_ok c d c' d' sc sd sc' sd'
  rw[show opQ (sumD (fun x y=>x+y)) errR a b a' b'=sumD (fun x y=>x+y) p1 p2 by simp only[opQ,h1,k1]] at A
  rw[show opQ (sumD (fun x y=>x+y)) errR c d c' d'=sumD (fun x y=>x+y) q1 q2 by simp only[opQ,h2,k2]] at B
  obtain⟨s1,t1,e1,g1⟩:=sumD_form1 (fun x y=>x+y) p1 p2
  obtain⟨s2,t2,e2,g2⟩:=sumD_form1 (fun x y=>x+y) q1 q2
  have R:=result5_ok s1 t1 s2 t2 e1 e2
  rw[← g1,← g2,pair_one (oneD_sum _ _ _) (oneD_sum _ _ _),← hX] at R
  rw[g1] at A
  rw[g2] at B
  obtain⟨z1,z2,z3,z4,z5,hz⟩:=resD_form (addX_form ⟨a,b,c,d⟩ ⟨a',b',c',d'⟩)
  rw[hz] at R ⊢
  simp[c84,b84,put,eset,eget,D.cells,V.cells,allD,hget,hset,fz,zC,zN,v1,A,B,R,setParts,chunk1,allCellsD]
 ·have hb:((IV.mk a b c d).ok&&(IV.mk a' b' c' d').ok)=false:=by rw[Bool.and_eq_false_iff];by_cases h:(IV.mk a b c d).ok=true;right;exact Bool.eq_false_iff.2 fun k=>hok ⟨h,k⟩;left;exact Bool.eq_false_iff.2 h
  rw[hb] at v1 ⊢
  simp[c84,b84,put,eset,eget,D.cells,V.cells,allD,hget,hset,fz,zC,zN,v1,errV,zI,setParts,chunk1,allCellsD]
theorem Sub5_ok (x y:IV) (s:IVS x) (t:IVS y) (H:Hp):callV cS false (fnV 85) [.d x.D,.d y.D] H=some (.val (.d (workD [x,y] (subX x y))),H):=by
 rw[callV_fn (sf:=c85) rfl rfl rfl rfl]
 have v1:=both5_ok x y s t
 obtain⟨a,b,c,d⟩:=x
 obtain⟨a',b',c',d'⟩:=y
 obtain⟨⟨sa,sb⟩,sc,sd⟩:=s
 obtain⟨⟨sa',sb'⟩,sc',sd'⟩:=t
 have hall:[IV.mk a b c d,IV.mk a' b' c' d'].all IV.ok=((IV.mk a b c d).ok&&(IV.mk a' b' c' d').ok):=by simp
 rw[workD_eq,hall]
 simp only[IV.D] at v1 ⊢
 by_cases hok:(IV.mk a b c d).ok=true∧(IV.mk a' b' c' d').ok=true
 ·rw[hok.1,hok.2] at v1 ⊢
  obtain⟨p1,q1,hx,⟨h1,h2⟩,_⟩:=ok_VQ hok.1
  obtain⟨p2,q2,hy,⟨k1,k2⟩,_⟩:=ok_VQ hok.2
  have hX:subX ⟨a,b,c,d⟩ ⟨a',b',c',d'⟩=pairO (sumO (fun x y=>x-y) p1 q2) (sumO (fun x y=>x-y) q1 p2):=by simp only[subX,hx,hy]
  have A:=Sub4_ok a b c' d' sa sb sc' sd'
  have B:=Sub4_ok c d a' b' sc sd sa' sb'
  rw[show opQ (sumD (fun x y=>x-y)) errR a b c' d'=sumD (fun x y=>x-y) p1 q2 by simp only[opQ,h1,k2]] at A
  rw[show opQ (sumD (fun x y=>x-y)) errR c d a' b'=sumD (fun x y=>x-y) q1 p2 by simp only[opQ,h2,k1]] at B
  obtain⟨s1,t1,e1,g1⟩:=sumD_form1 (fun x y=>x-y) p1 q2
  obtain⟨s2,t2,e2,g2⟩:=sumD_form1 (fun x y=>x-y) q1 p2
  have R:=result5_ok s1 t1 s2 t2 e1 e2
  rw[← g1,← g2,pair_one (oneD_sum _ _ _) (oneD_sum _ _ _),← hX] at R
  rw[g1] at A
  rw[g2] at B
  obtain⟨z1,z2,z3,z4,z5,hz⟩:=resD_form (subX_form ⟨a,b,c,d⟩ ⟨a',b',c',d'⟩)
  rw[hz] at R ⊢
  simp[c85,b85,put,eset,eget,D.cells,V.cells,allD,hget,hset,fz,zC,zN,v1,A,B,R,setParts,chunk1,allCellsD]
 ·have hb:((IV.mk a b c d).ok&&(IV.mk a' b' c' d').ok)=false:=by rw[Bool.and_eq_false_iff];by_cases h:(IV.mk a b c d).ok=true;right;exact Bool.eq_false_iff.2 fun k=>hok ⟨h,k⟩;left;exact Bool.eq_false_iff.2 h
  rw[hb] at v1 ⊢
  simp[c85,b85,put,eset,eget,D.cells,V.cells,allD,hget,hset,fz,zC,zN,v1,errV,zI,setParts,chunk1,allCellsD]
theorem Width5_ok (x:IV) (s:IVS x) (H:Hp):callV cS false (fnV 34) [.d x.D] H=some (.val (.d (workQ [x] (oneD (opQ (sumD fun x y=>x-y) errR x.c x.d x.a x.b)))),H):=by
 rw[callV_fn (sf:=c34) rfl rfl rfl rfl]
 have v1:=Valid5_ok x s
 obtain⟨a,b,c,d⟩:=x
 obtain⟨⟨sa,sb⟩,sc,sd⟩:=s
 have A:=Sub4_ok c d a b sc sd sa sb
 obtain⟨s1,t1,e1,g1⟩:=sumD_form (fun x y=>x-y) c d a b
 have hw:workQ [IV.mk a b c d] (oneD (opQ (sumD fun x y=>x-y) errR c d a b))=if (IV.mk a b c d).ok=true then (if e1=0 then .tup [.agg [.s s1,.s t1],.i .i64 0] else errQ) else errQ:=by
  unfold workQ oneD
  rw[g1]
  by_cases h:e1=0<;>simp[okR,h]
 show _=some (Re.val (.d (workQ [IV.mk a b c d] (oneD (opQ (sumD fun x y=>x-y) errR c d a b)))),H)
 rw[hw]
 rw[g1] at A
 simp only[IV.D] at v1 ⊢
 generalize (IV.mk a b c d).ok=p at *
 cases p
 ·simp[c34,b34,put,eset,eget,D.cells,V.cells,allD,hget,hset,fz,zC,zN,v1,A,errQ,zR,setParts,chunk1,allCellsD]
 ·by_cases he:e1=0
  ·subst he
   simp[c34,b34,put,eset,eget,D.cells,V.cells,allD,hget,hset,fz,zC,zN,v1,A,setParts,chunk1,allCellsD]
  ·have hb:(e1==0)=false:=by rw[beq_eq_false_iff_ne];exact he
   simp[c34,b34,put,eset,eget,D.cells,V.cells,allD,hget,hset,fz,zC,zN,v1,A,he,hb,bne,errQ,zR,setParts,chunk1,allCellsD]
theorem rd_form (up:Bool) (n:Int) (a b:List UInt8):∃ s t e,opQ1 (rdD up n) errR a b=.tup [.agg [.s s,.s t],.i .i64 e]:=by
 unfold opQ1 rdD
 split
 ·split
  ·split
   ·exact makeD_form _ _
   ·exact⟨_,_,_,rfl⟩
  ·exact⟨_,_,_,rfl⟩
 ·exact⟨_,_,_,rfl⟩
theorem Round5_ok (x:IV) (n:Int) (s:IVS x) (H:Hp):callV cS false (fnV 91) [.d x.D,.d (.i .i64 n)] H=some (.val (.d (workD [x] (pairD (opQ1 (rdD false n) errR x.a x.b) (opQ1 (rdD true n) errR x.c x.d)))),H):=by
 rw[callV_fn (sf:=c91) rfl rfl rfl rfl]
 have v1:=Valid5_ok x s
 obtain⟨a,b,c,d⟩:=x
 obtain⟨⟨sa,sb⟩,sc,sd⟩:=s
 have A:=Down4_ok a b n sa sb
 have B:=Up4_ok c d n sc sd
 obtain⟨s1,t1,e1,g1⟩:=rd_form false n a b
 obtain⟨s2,t2,e2,g2⟩:=rd_form true n c d
 have R:=result5_ok s1 t1 s2 t2 e1 e2
 rw[← g1,← g2] at R
 show _=some (Re.val (.d (workD [IV.mk a b c d] (pairD (opQ1 (rdD false n) errR a b) (opQ1 (rdD true n) errR c d)))),H)
 rw[workD_eq,show [IV.mk a b c d].all IV.ok=(IV.mk a b c d).ok by simp]
 obtain⟨z1,z2,z3,z4,z5,hz⟩:=resD_form (fun z h=>pairD_form (x:=opQ1 (rdD false n) errR a b) (y:=opQ1 (rdD true n) errR c d) h)
 rw[hz] at R ⊢
 rw[g1] at A
 rw[g2] at B
 simp only[IV.D] at v1 ⊢
 generalize (IV.mk a b c d).ok=p at *
 cases p
 ·simp[c91,b91,put,eset,eget,D.cells,V.cells,allD,hget,hset,fz,zC,zN,v1,errV,zI,setParts,chunk1,allCellsD]
 ·simp[c91,b91,put,eset,eget,D.cells,V.cells,allD,hget,hset,fz,zC,zN,v1,A,B,R,setParts,chunk1,allCellsD]
theorem least5_T (a b c d:List UInt8) (sa:Short a) (sb:Short b) (sc:Short c) (sd:Short d):∃ s t,(Short s∧Short t)∧∀ H,callV cS false (fnV 60) [.d (.agg [.s a,.s b]),.d (.agg [.s c,.s d])] H=some (.val (.d (.agg [.s s,.s t])),H):=by
 have cm:=cmp4_T a b c d sa sb sc sd
 generalize cmpT a b c d=k at *
 by_cases h:k≤0
 ·refine⟨a,b,⟨sa,sb⟩,fun H=>?_⟩
  rw[callV_fn (sf:=c60) rfl rfl rfl rfl]
  simp[c60,b60,put,eset,eget,D.cells,V.cells,allD,hget,hset,fz,zC,zN,cm,h,setParts,chunk1,allCellsD]
 ·refine⟨c,d,⟨sc,sd⟩,fun H=>?_⟩
  rw[callV_fn (sf:=c60) rfl rfl rfl rfl]
  simp[c60,b60,put,eset,eget,D.cells,V.cells,allD,hget,hset,fz,zC,zN,cm,h,setParts,chunk1,allCellsD]
theorem most5_T (a b c d:List UInt8) (sa:Short a) (sb:Short b) (sc:Short c) (sd:Short d):∃ s t,(Short s∧Short t)∧∀ H,callV cS false (fnV 61) [.d (.agg [.s a,.s b]),.d (.agg [.s c,.s d])] H=some (.val (.d (.agg [.s s,.s t])),H):=by
 have cm:=cmp4_T a b c d sa sb sc sd
 generalize cmpT a b c d=k at *
 by_cases h:0≤k
 ·refine⟨a,b,⟨sa,sb⟩,fun H=>?_⟩
  rw[callV_fn (sf:=c61) rfl rfl rfl rfl]
  simp[c61,b61,put,eset,eget,D.cells,V.cells,allD,hget,hset,fz,zC,zN,cm,h,setParts,chunk1,allCellsD]
 ·refine⟨c,d,⟨sc,sd⟩,fun H=>?_⟩
  rw[callV_fn (sf:=c61) rfl rfl rfl rfl]
  simp[c61,b61,put,eset,eget,D.cells,V.cells,allD,hget,hset,fz,zC,zN,cm,h,setParts,chunk1,allCellsD]
theorem hull_eq {p1 q1 p2 q2:Rat} (h1:p1≤q1) (h2:p2≤q2):hullQ p1 q1 p2 q2=dI4 (leastQ p1 p2) (mostQ q1 q2):=by
 unfold hullQ
 have e1:[q1,p2,q2].foldl minQ p1=leastQ p1 p2:=by
  simp only[List.foldl_cons,List.foldl_nil,minQ_eq,leastQ]
  grind
 have e2:[q1,p2,q2].foldl maxQ p1=mostQ q1 q2:=by
  simp only[List.foldl_cons,List.foldl_nil,maxQ_eq,mostQ]
  grind
 rw[e1,e2]
theorem Hull5_ok (x y:IV) (s:IVS x) (t:IVS y) (H:Hp):callV cS false (fnV 88) [.d x.D,.d y.D] H=some (.val (.d (workD [x,y] (hullX x y))),H):=by
 rw[callV_fn (sf:=c88) rfl rfl rfl rfl]
 have v1:=both5_ok x y s t
 obtain⟨a,b,c,d⟩:=x
 obtain⟨a',b',c',d'⟩:=y
 have hall:[IV.mk a b c d,IV.mk a' b' c' d'].all IV.ok=((IV.mk a b c d).ok&&(IV.mk a' b' c' d').ok):=by simp
 rw[workD_eq,hall]
 simp only[IV.D] at v1 ⊢
 by_cases hok:(IV.mk a b c d).ok=true∧(IV.mk a' b' c' d').ok=true
 ·rw[hok.1,hok.2] at v1 ⊢
  obtain⟨p1,q1,hx,⟨h1,h2⟩,l1⟩:=ok_VQ hok.1
  obtain⟨p2,q2,hy,⟨k1,k2⟩,l2⟩:=ok_VQ hok.2
  have hX:hullX ⟨a,b,c,d⟩ ⟨a',b',c',d'⟩=some (dI4 (leastQ p1 p2) (mostQ q1 q2)):=by simp only[hullX,hx,hy,hull_eq l1 l2]
  rw[hX]
  clear hX hx hy hall s t hok
  obtain⟨f1,rfl,rfl⟩:=RQ_some h1
  obtain⟨f2,rfl,rfl⟩:=RQ_some h2
  obtain⟨f3,rfl,rfl⟩:=RQ_some k1
  obtain⟨f4,rfl,rfl⟩:=RQ_some k2
  have A:=least_ok f1 f3
  have B:=most_ok f2 f4
  simp only[dR,dI4] at A B ⊢
  generalize leastQ p1 p2=m at *
  generalize mostQ q1 q2=n at *
  simp[c88,b88,put,eset,eget,D.cells,V.cells,allD,hget,hset,fz,zC,zN,v1,A,B,resD,setParts,chunk1,allCellsD]
 ·have hb:((IV.mk a b c d).ok&&(IV.mk a' b' c' d').ok)=false:=by rw[Bool.and_eq_false_iff];by_cases h:(IV.mk a b c d).ok=true;right;exact Bool.eq_false_iff.2 fun k=>hok ⟨h,k⟩;left;exact Bool.eq_false_iff.2 h
  rw[hb] at v1 ⊢
  simp[c88,b88,put,eset,eget,D.cells,V.cells,allD,hget,hset,fz,zC,zN,v1,errV,zI,setParts,chunk1,allCellsD]
theorem meet_eq (p1 q1 p2 q2:Rat):meetO p1 q1 p2 q2=if mostQ p1 p2≤leastQ q1 q2 then some (dI4 (mostQ p1 p2) (leastQ q1 q2)) else none:=by
 have e1:maxQ p1 p2=mostQ p1 p2:=by simp only[maxQ_eq,mostQ];grind
 have e2:minQ q1 q2=leastQ q1 q2:=by simp only[minQ_eq,leastQ];grind
 unfold meetO
 rw[e1,e2]
 by_cases h:mostQ p1 p2≤leastQ q1 q2
 ·rw[if_pos h,if_pos (cmpQ_le.2 h)]
 ·rw[if_neg h,if_neg (fun k=>h (cmpQ_le.1 k))]
theorem Meet5_ok (x y:IV) (s:IVS x) (t:IVS y) (H:Hp):callV cS false (fnV 89) [.d x.D,.d y.D] H=some (.val (.d (workD [x,y] (meetX x y))),H):=by
 rw[callV_fn (sf:=c89) rfl rfl rfl rfl]
 have v1:=both5_ok x y s t
 obtain⟨a,b,c,d⟩:=x
 obtain⟨a',b',c',d'⟩:=y
 have hall:[IV.mk a b c d,IV.mk a' b' c' d'].all IV.ok=((IV.mk a b c d).ok&&(IV.mk a' b' c' d').ok):=by simp
 rw[workD_eq,hall]
 simp only[IV.D] at v1 ⊢
 by_cases hok:(IV.mk a b c d).ok=true∧(IV.mk a' b' c' d').ok=true
 ·rw[hok.1,hok.2] at v1 ⊢
  obtain⟨p1,q1,hx,⟨h1,h2⟩,l1⟩:=ok_VQ hok.1
  obtain⟨p2,q2,hy,⟨k1,k2⟩,l2⟩:=ok_VQ hok.2
  have hX:meetX ⟨a,b,c,d⟩ ⟨a',b',c',d'⟩=meetO p1 q1 p2 q2:=by simp only[meetX,hx,hy]
  rw[hX,meet_eq]
  clear hX hx hy hall s t hok
  obtain⟨f1,rfl,rfl⟩:=RQ_some h1
  obtain⟨f2,rfl,rfl⟩:=RQ_some h2
  obtain⟨f3,rfl,rfl⟩:=RQ_some k1
  obtain⟨f4,rfl,rfl⟩:=RQ_some k2
  have A:=most_ok f1 f3
  have B:=least_ok f2 f4
  have fm:RFits (mostQ p1 p2):=by unfold mostQ;split<;>assumption
  have fn:RFits (leastQ q1 q2):=by unfold leastQ;split<;>assumption
  have C:=cmp4_val fm fn
  simp only[dR,dI4] at A B ⊢
  generalize mostQ p1 p2=m at *
  generalize leastQ q1 q2=n at *
  by_cases h:m≤n
  ·have hk:¬ 0<cmpQ m n:=fun k=>Rat.not_lt.2 h (cmpQ_gt.1 k)
   rw[if_pos h]
   generalize cmpQ m n=k at *
   simp[c89,b89,put,eset,eget,D.cells,V.cells,allD,hget,hset,fz,zC,zN,v1,A,B,C,hk,resD,setParts,chunk1,allCellsD]
  ·have hk:0<cmpQ m n:=cmpQ_gt.2 (Rat.not_le.1 h)
   rw[if_neg h]
   generalize cmpQ m n=k at *
   simp[c89,b89,put,eset,eget,D.cells,V.cells,allD,hget,hset,fz,zC,zN,v1,A,B,C,hk,resD,errV,zI,setParts,chunk1,allCellsD]
 ·have hb:((IV.mk a b c d).ok&&(IV.mk a' b' c' d').ok)=false:=by rw[Bool.and_eq_false_iff];by_cases h:(IV.mk a b c d).ok=true;right;exact Bool.eq_false_iff.2 fun k=>hok ⟨h,k⟩;left;exact Bool.eq_false_iff.2 h
  rw[hb] at v1 ⊢
  obtain⟨s1,t1,_,A⟩:=most5_T a b a' b' s.1.1 s.1.2 t.1.1 t.1.2
  obtain⟨s2,t2,_,B⟩:=least5_T c d c' d' s.2.1 s.2.2 t.2.1 t.2.2
  simp[c89,b89,put,eset,eget,D.cells,V.cells,allD,hget,hset,fz,zC,zN,v1,A,B,errV,zI,setParts,chunk1,allCellsD]
end
end Go.Proofs.YtmiioebapckcoaaGreatDoor
