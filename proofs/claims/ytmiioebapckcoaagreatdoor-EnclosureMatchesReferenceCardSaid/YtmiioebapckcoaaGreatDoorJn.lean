/- Part 14 of a proof: the small semantics, its soundness, the functions of the program in it, and the law. -/
import Derived.Test.YtmiioebapckcoaaGreatDoorJm
set_option linter.unusedVariables false
set_option linter.unusedSimpArgs false
set_option maxRecDepth 4000
namespace Go.Proofs.YtmiioebapckcoaaGreatDoor
section
open Go Num
def okR:D→Option (List UInt8×List UInt8)
 | .tup [.agg [.s s,.s t],.i .i64 e]=>if e=0 then some (s,t) else none
 | _=>none
noncomputable def pairD (x y:D):Option D:=match okR x,okR y with
 | some (s,t),some (u,v)=>some (.agg [.s s,.s t,.s u,.s v])
 | _,_=>none
theorem pairD_form {x y z:D} (h:pairD x y=some z):∃ s t u v,z=.agg [.s s,.s t,.s u,.s v]:=by
 unfold pairD at h
 split at h
 ·cases h;exact⟨_,_,_,_,rfl⟩
 ·cases h
theorem round1_ok {h:Hp}{p q:Nat}{o:EO}{a b c d:List UInt8}{n:Int} (hn:I64 n) (hG:Glb h) (hE:ErrAt h o) (hp:hget h p=some (.box 29 [.d (.s a),.d (.s b),.d (.s c),.d (.s d)])) (hq:hget h q=some (.box 3 [.d (.i .i64 n)])) :
 callV cS false (.fn 50 [] [.p p 0,.p q 0]) [] h=(match pairD (opQ1 (rdD false n) errR a b) (opQ1 (rdD true n) errR c d) with
  | some x=>some (.val (.d x),h)
  | none=>some (.pan (eV o),h)):=by
 rw[callV_fnV (sf:=c50) rfl rfl rfl rfl]
 have hpl:=hget_lt' hp
 have hql:=hget_lt' hq
 have np:¬ p=h.length:=by omega
 have nq:¬ q=h.length:=by omega
 have z:Ob:=.box 29 [.d (.s []),.d (.s []),.d (.s []),.d (.s [])]
 have hG1:=hG.cons (.box 29 [.d (.s []),.d (.s []),.d (.s []),.d (.s [])])
 have hE1:=hE.cons (.box 29 [.d (.s []),.d (.s []),.d (.s []),.d (.s [])])
 have d1:=Down_ok a b n hn _ hG1
 have d2:=Up_ok c d n hn _ hG1
 obtain⟨s,t,e,he⟩:=rdD_form false n a b
 obtain⟨u,v,e',he'⟩:=rdD_form true n c d
 rw[he] at d1 ⊢
 rw[he'] at d2 ⊢
 have hf:=fin_pan (h:=h) (h':=.box 29 [.d (.s []),.d (.s []),.d (.s []),.d (.s [])]::h) (v:=eV o) (by simp[eV,vlt,hE.2]) (by simp) (by rw[HOk_cons' (Nat.le_refl _)];exact HOk.refl h)
 rw[trunc_cons' (Nat.le_refl _),trunc_self] at hf
 by_cases h0:e=0
 ·subst h0
  have m1:=must_ok s t
  by_cases h1:e'=0
  ·subst h1
   have m2:=must_ok u v
   simp[c50,b50,put,eset,eget,D.cells,V.cells,allD,hget,hset,fz,zC,zN,hp,hq,np,nq,d1,d2,m1,m2,pairD,okR]
  ·have m2:=must_fail u v e' h1 hE1
   simp only[eV] at m2 hf ⊢
   simp[c50,b50,put,eset,eget,D.cells,V.cells,allD,hget,hset,fz,zC,zN,hp,hq,np,nq,d1,d2,m1,m2,pairD,okR,h1,hf]
 ·have m1:=must_fail s t e h0 hE1
  simp only[eV] at m1 hf ⊢
  simp[c50,b50,put,eset,eget,D.cells,V.cells,allD,hget,hset,fz,zC,zN,hp,hq,np,nq,d1,d2,m1,pairD,okR,h0,hf]
noncomputable def workD (l:List IV) (x:Option D):D:=if l.all IV.ok=true then (match x with
 | some x=>.tup [x,.i .i64 0]
 | none=>errV) else errV
theorem ERound_ok (x:IV) (n:Int) (hn:I64 n) {H:Hp}{o:EO} (hG:Glb H) (hE:ErrAt H o):callV cS false (fnV 14) [.d x.D,.d (.i .i64 n)] H=some (.val (.d (workD [x] (pairD (opQ1 (rdD false n) errR x.a x.b) (opQ1 (rdD true n) errR x.c x.d)))),H):=by
 rw[callV_fn (sf:=c14) rfl rfl rfl rfl]
 obtain⟨H1,hH1⟩:∃ H1:Hp,H1=.box 29 [.d (.s []),.d (.s []),.d (.s []),.d (.s [])]::.box 3 [.d (.i .i64 n)]::.box 29 [.d (.s x.a),.d (.s x.b),.d (.s x.c),.d (.s x.d)]::H:=⟨_,rfl⟩
 have hG1:Glb H1:=by rw[hH1];exact((hG.cons _).cons _).cons _
 have hE1:ErrAt H1 o:=by rw[hH1];exact((hE.cons _).cons _).cons _
 have hr:=round1_ok (h:=cbH H1 zI 0) (p:=H.length) (q:=H.length+1) (a:=x.a) (b:=x.b) (c:=x.c) (d:=x.d) hn ((hG1.cons _).cons _) ((hE1.cons _).cons _) (by rw[hH1];simp[cbH,hget,put,eset,eget,D.cells,V.cells,allD,hget,hset,fz,zC,zN]) (by rw[hH1];simp[cbH,hget,put,eset,eget,D.cells,V.cells,allD,hget,hset,fz,zC,zN])
 have hcomp:callV cS false (fnV 49) [.fn 50 [] [.p H.length 0,.p (H.length+1) 0],.d (.ls ([x].map IV.D))] H1=some (.val (.d (workD [x] (pairD (opQ1 (rdD false n) errR x.a x.b) (opQ1 (rdD true n) errR x.c x.d)))),H1):=by
  unfold workD
  by_cases ha:[x].all IV.ok=true
  ·rw[if_pos ha]
   cases hp:pairD (opQ1 (rdD false n) errR x.a x.b) (opQ1 (rdD true n) errR x.c x.d) with
   | some z =>
     rw[hp] at hr
     obtain⟨s,t,u,v,rfl⟩:=pairD_form hp
     exact compute_ok (by simp) hG1 (by simp) ha hr
   | none =>
     rw[hp] at hr
     exact compute_err (by simp) hG1 hE1 (.inr ⟨ha,by simp,hr⟩)
  ·rw[if_neg ha]
   exact compute_err (by simp) hG1 hE1 (.inl (by simpa using ha))
 have hform:∃ s t u v e,workD [x] (pairD (opQ1 (rdD false n) errR x.a x.b) (opQ1 (rdD true n) errR x.c x.d))=.tup [.agg [.s s,.s t,.s u,.s v],.i .i64 e]:=by
  unfold workD errV zI
  split
  ·split
   ·rename_i z hz
    obtain⟨s,t,u,v,rfl⟩:=pairD_form hz
    exact⟨_,_,_,_,_,rfl⟩
   ·exact⟨_,_,_,_,_,rfl⟩
  ·exact⟨_,_,_,_,_,rfl⟩
 obtain⟨s,t,u,v,e,he⟩:=hform
 rw[he] at hcomp ⊢
 rw[hH1] at hcomp
 simp only[List.map_cons,List.map_nil,IV.D] at hcomp
 simp[c14,b14,put,eset,eget,D.cells,V.cells,allD,hget,hset,fz,zC,zN,IV.D,hcomp,setParts,chunk1,allCellsD]
end
section
open Go Num
theorem zero_ok (H:Hp):callV cS false (fnV 68) [] H=some (.val (.d (.agg [.s [48],.s [49]])),H):=by
 rw[callV_fn (sf:=c68) rfl rfl rfl rfl]
 simp[c68,b68,put,eset,eget,D.cells,V.cells,allD,hget,hset,fz,zC,zN]
theorem Point_ok (a b:List UInt8) (H:Hp) (hG:Glb H):callV cS false (fnV 37) [.d (.agg [.s a,.s b])] H=some (.val (.d (if (RQ a b).isSome=true then dV a b a b else zI)),H):=by
 rw[callV_fn (sf:=c37) rfl rfl rfl rfl]
 have v1:=RValid_ok a b _ ((hG.cons (ratBox a b)).cons (.box 29 [.d (.s []),.d (.s []),.d (.s []),.d (.s [])]))
 simp only[ratBox] at v1
 cases hp:RQ a b with
 | none =>
   rw[hp] at v1
   simp[c37,b37,put,eset,eget,D.cells,V.cells,allD,hget,hset,fz,zC,zN,v1,zI]
 | some p =>
   rw[hp] at v1
   simp[c37,b37,put,eset,eget,D.cells,V.cells,allD,hget,hset,fz,zC,zN,v1,dV]
noncomputable def inB (x:IV) (a b:List UInt8):Bool:=match VQ x.a x.b x.c x.d,RQ a b with
 | some (p,q),some r=>decide (cmpQ p r≤0)&&decide (cmpQ r q≤0)
 | _,_=>false
theorem VQ_some {a b c d:List UInt8}{p q:Rat} (h:VQ a b c d=some (p,q)):RQ a b=some p∧RQ c d=some q∧cmpQ p q≤0:=by
 unfold VQ at h
 split at h
 ·rename_i p' q' h1 h2
  split at h
  ·rename_i hc;cases h;exact⟨h1,h2,hc⟩
  ·cases h
 ·cases h
theorem Contains_ok (x:IV) (a b:List UInt8) (H:Hp) (hG:Glb H):callV cS false (fnV 23) [.d x.D,.d (.agg [.s a,.s b])] H=some (.val (.d (.b (inB x a b))),H):=by
 rw[callV_fn (sf:=c23) rfl rfl rfl rfl]
 have hG1:Glb (ratBox a b::.box 29 [.d (.s x.a),.d (.s x.b),.d (.s x.c),.d (.s x.d)]::H):=(hG.cons _).cons _
 have v0:=EValid_ok x.a x.b x.c x.d _ hG1
 have v1:=RValid_ok a b _ hG1
 have c1:=RCompare_ok x.a x.b a b _ hG1
 have c2:=RCompare_ok a b x.c x.d _ hG1
 simp only[ratBox,dV] at v0 v1 c1 c2
 cases hv:VQ x.a x.b x.c x.d with
 | none =>
   rw[hv] at v0
   have:inB x a b=false:=by simp[inB,hv]
   rw[this]
   simp[c23,b23,put,eset,eget,D.cells,V.cells,allD,hget,hset,fz,zC,zN,IV.D,v0]
 | some pq =>
   obtain⟨p,q⟩:=pq
   rw[hv] at v0
   obtain⟨hp,hq,_⟩:=VQ_some hv
   cases hr:RQ a b with
   | none =>
     rw[hr] at v1
     have:inB x a b=false:=by simp[inB,hv,hr]
     rw[this]
     simp[c23,b23,put,eset,eget,D.cells,V.cells,allD,hget,hset,fz,zC,zN,IV.D,v0,v1]
   | some r =>
     rw[hr] at v1
     have h1:opQ (fun p q=>.i .i64 (cmpQ p q)) (.i .i64 0) x.a x.b a b=.i .i64 (cmpQ p r):=by simp[opQ,hp,hr]
     have h2:opQ (fun p q=>.i .i64 (cmpQ p q)) (.i .i64 0) a b x.c x.d=.i .i64 (cmpQ r q):=by simp[opQ,hq,hr]
     rw[h1] at c1
     rw[h2] at c2
     have:inB x a b=(decide (cmpQ p r≤0)&&decide (cmpQ r q≤0)):=by simp[inB,hv,hr]
     rw[this]
     by_cases k1:cmpQ p r≤0
     ·simp[c23,b23,put,eset,eget,D.cells,V.cells,allD,hget,hset,fz,zC,zN,IV.D,v0,v1,c1,c2,k1]
     ·simp[c23,b23,put,eset,eget,D.cells,V.cells,allD,hget,hset,fz,zC,zN,IV.D,v0,v1,c1,c2,k1]
theorem Within_ok (x y:IV) (H:Hp) (hG:Glb H):callV cS false (fnV 15) [.d x.D,.d y.D] H=some (.val (.d (.b (x.ok&&inB y x.a x.b&&inB y x.c x.d))),H):=by
 rw[callV_fn (sf:=c15) rfl rfl rfl rfl]
 have hG1:Glb (.box 29 [.d (.s y.a),.d (.s y.b),.d (.s y.c),.d (.s y.d)]::.box 29 [.d (.s x.a),.d (.s x.b),.d (.s x.c),.d (.s x.d)]::H):=(hG.cons _).cons _
 have v0:=EValid_ok x.a x.b x.c x.d _ hG1
 have c1:=Contains_ok y x.a x.b _ hG1
 have c2:=Contains_ok y x.c x.d _ hG1
 simp only[dV,IV.D] at v0 c1 c2
 have hok:x.ok=(VQ x.a x.b x.c x.d).isSome:=rfl
 rw[hok]
 obtain⟨v,hv⟩:∃ v,v=(VQ x.a x.b x.c x.d).isSome:=⟨_,rfl⟩
 obtain⟨k,hk⟩:∃ k,k=inB y x.a x.b:=⟨_,rfl⟩
 obtain⟨m,hm⟩:∃ m,m=inB y x.c x.d:=⟨_,rfl⟩
 rw[← hv] at v0 ⊢
 rw[← hk] at c1 ⊢
 rw[← hm] at c2 ⊢
 cases v<;>cases k<;>simp[c15,b15,put,eset,eget,D.cells,V.cells,allD,hget,hset,fz,zC,zN,IV.D,v0,c1,c2]
end
section
open Go Num
def zR:D:=.agg [.s [],.s []]
def cbR (H:Hp) (x:D) (e:Int):Hp:=.box 31 [.d (.i .i64 e)]::.box 26 (x.cells.map .d)::H
theorem deferR_none (H:Hp) (x:D) (e:Int) (hx:x.cells.length=2):callD S cS (fun c e h=>evI cS c none e h) (.fn 140 [] [.p H.length 0,.p (H.length+1) 0]) [] none (cbR H x e)=some (cbR H x e):=by
 have hD:S.D 140=some d140:=rfl
 simp only[callD,runD,hD]
 simp[d140,put,eset,eget,D.cells,V.cells,allD,hget,hset,fz,zC,zN]
theorem deferR_err {H:Hp}{o:EO} (hE:ErrAt H o):callD S cS (fun c e h=>evI cS c none e h) (.fn 140 [] [.p H.length 0,.p (H.length+1) 0]) [] (some (eV o)) (cbR H zR 0)=some (.box 26 [.d (.s []),.d (.s [])]::cbR H zR 50):=by
 have hD:S.D 140=some d140:=rfl
 have hi:=fun h=>call_is (h:=h) (o:=o)
 have hpos:=hget_lt' hE.1
 have h0:¬ 0=H.length:=by omega
 have g1:=hE.1
 simp only[callD,runD,hD]
 simp only[eV,zR,D.cells,List.map_cons,List.map_nil,cbR] at g1 hi ⊢
 simp[d140,put,eset,eget,D.cells,V.cells,allD,hget,hset,fz,zC,zN,g1,h0,hi]
def errQ:D:=.tup [zR,.i .i64 50]
theorem computeR_ok {F:V}{l:List IV} (hl:l.length<4611686018427387904) {H:Hp} (hG:Glb H) (hu:F≠.u) (ha:l.all IV.ok=true) {a b:List UInt8}
 (hF:callV cS false F [] (cbR H zR 0)=some (.val (.d (.agg [.s a,.s b])),cbR H zR 0)) :
 callV cS false (fnV 92) [F,.d (.ls (l.map IV.D))] H=some (.val (.d (.tup [.agg [.s a,.s b],.i .i64 0])),H):=by
 rw[callV_B (sf:=c92) rfl rfl rfl]
 have hc:=contains_ok inv2_ok l hl (cbR H zR 0) ((hG.cons _).cons _)
 rw[ha] at hc
 have hk:=check_true (cbR H zR 0)
 have hd:=deferR_none H (.agg [.s a,.s b]) 0 rfl
 have h1:evI cS b92 none (enter [F,.d (.ls (l.map IV.D))]) H=some (.nor,[(0,F),(1,.d (.ls (l.map IV.D))),(4,.p H.length 0),(5,.p (H.length+1) 0)],cbR H zR 0):=by
  simp[b92,put,eset,eget,D.cells,V.cells,allD,hget,hset,fz,zC,zN,cbR,zR]
 have h2:evI cS r92 none [(0,F),(1,.d (.ls (l.map IV.D))),(4,.p H.length 0),(5,.p (H.length+1) 0),(6,.fn 140 [] [.p H.length 0,.p (H.length+1) 0])] (cbR H zR 0)=some (.rt,[(4,.p H.length 0),(5,.p (H.length+1) 0)],cbR H (.agg [.s a,.s b]) 0):=by
  simp only[cbR,zR,D.cells,List.map_cons,List.map_nil] at hc hk hF ⊢
  simp[r92,put,eset,eget,D.cells,V.cells,allD,hget,hset,fz,zC,zN,hc,hk,hF]
 have hb:bodyOf S cS (fun c e h=>evI cS c none e h) c92 [F,.d (.ls (l.map IV.D))] H=some (.ret (.d (.tup [.agg [.s a,.s b],.i .i64 0])),cbR H (.agg [.s a,.s b]) 0):=by
  simp only[bodyOf,c92,h1]
  simp only[cbR,zR,D.cells,List.map_cons,List.map_nil] at h2 hd ⊢
  simp[put,eset,eget,D.cells,V.cells,allD,hget,hset,fz,zC,zN,h2,hd,retOf]
 rw[hb]
 simp only[cbR,D.cells]
 exact fin_box2
theorem computeR_err {F:V}{l:List IV} (hl:l.length<4611686018427387904) {H:Hp} (hG:Glb H) {o:EO} (hE:ErrAt H o)
 (hF:l.all IV.ok=false∨(l.all IV.ok=true∧F≠.u∧callV cS false F [] (cbR H zR 0)=some (.pan (eV o),cbR H zR 0))) :
 callV cS false (fnV 92) [F,.d (.ls (l.map IV.D))] H=some (.val (.d errQ),H):=by
 rw[callV_B (sf:=c92) rfl rfl rfl]
 have hc:=contains_ok inv2_ok l hl (cbR H zR 0) ((hG.cons _).cons _)
 have hk:=check_true (cbR H zR 0)
 have hk2:=check_false (show ErrAt (cbR H zR 0) o from (hE.cons _).cons _)
 have hd:=deferR_err hE
 have h1:evI cS b92 none (enter [F,.d (.ls (l.map IV.D))]) H=some (.nor,[(0,F),(1,.d (.ls (l.map IV.D))),(4,.p H.length 0),(5,.p (H.length+1) 0)],cbR H zR 0):=by
  simp[b92,put,eset,eget,D.cells,V.cells,allD,hget,hset,fz,zC,zN,cbR,zR]
 have h2:∃ e,evI cS r92 none [(0,F),(1,.d (.ls (l.map IV.D))),(4,.p H.length 0),(5,.p (H.length+1) 0),(6,.fn 140 [] [.p H.length 0,.p (H.length+1) 0])] (cbR H zR 0)=some (.pn (eV o),e,cbR H zR 0):=by
  rcases hF with ha | ⟨ha,hu,hF⟩
  ·rw[ha] at hc
   simp only[cbR,zR,D.cells,List.map_cons,List.map_nil] at hc hk2 ⊢
   simp[r92,put,eset,eget,D.cells,V.cells,allD,hget,hset,fz,zC,zN,hc,hk2]
  ·rw[ha] at hc
   simp only[cbR,zR,D.cells,List.map_cons,List.map_nil] at hc hk hF ⊢
   simp[r92,put,eset,eget,D.cells,V.cells,allD,hget,hset,fz,zC,zN,hc,hk,hF]
 obtain⟨e,h2⟩:=h2
 have hb:bodyOf S cS (fun c e h=>evI cS c none e h) c92 [F,.d (.ls (l.map IV.D))] H=some (.ret (.d errQ),.box 26 [.d (.s []),.d (.s [])]::cbR H zR 50):=by
  simp only[bodyOf,c92,h1]
  simp only[cbR,zR,D.cells,List.map_cons,List.map_nil] at h2 hd ⊢
  simp[put,eset,eget,D.cells,V.cells,allD,hget,hset,fz,zC,zN,h2,hd,retOf,errQ,zR,allCell]
 rw[hb]
 simp only[cbR]
 exact fin_box3
end
section
open Go Num
noncomputable def oneD (x:D):Option D:=match okR x with
 | some (s,t)=>some (.agg [.s s,.s t])
 | none=>none
theorem oneD_form {x z:D} (h:oneD x=some z):∃ s t,z=.agg [.s s,.s t]:=by
 unfold oneD at h
 split at h
 ·cases h;exact⟨_,_,rfl⟩
 ·cases h
noncomputable def workQ (l:List IV) (x:Option D):D:=if l.all IV.ok=true then (match x with
 | some x=>.tup [x,.i .i64 0]
 | none=>errQ) else errQ
theorem width1_ok {h:Hp}{p:Nat}{o:EO}{a b c d:List UInt8} (hG:Glb h) (hE:ErrAt h o) (hp:hget h p=some (.box 29 [.d (.s a),.d (.s b),.d (.s c),.d (.s d)])) :
 callV cS false (.fn 93 [] [.p p 0]) [] h=(match oneD (opQ (sumD fun x y=>x-y) errR c d a b) with
  | some x=>some (.val (.d x),h)
  | none=>some (.pan (eV o),h)):=by
 rw[callV_fnV (sf:=c93) rfl rfl rfl rfl]
 have hpl:=hget_lt' hp
 have np:¬ p=h.length:=by omega
 have hG1:=hG.cons (ratBox [] [])
 have hE1:=hE.cons (ratBox [] [])
 have d1:=RSub_ok c d a b _ hG1
 obtain⟨s,t,e,he⟩:=sumD_form (fun x y=>x-y) c d a b
 rw[he] at d1 ⊢
 have hf:=fin_pan (h:=h) (h':=ratBox [] []::h) (v:=eV o) (by simp[eV,vlt,hE.2]) (by simp) (by rw[HOk_cons' (Nat.le_refl _)];exact HOk.refl h)
 rw[trunc_cons' (Nat.le_refl _),trunc_self] at hf
 by_cases h0:e=0
 ·subst h0
  have m1:=must_ok s t
  simp only[ratBox] at d1
  simp[c93,b93,put,eset,eget,D.cells,V.cells,allD,hget,hset,fz,zC,zN,hp,np,d1,m1,oneD,okR]
 ·have m1:=must_fail s t e h0 hE1
  simp only[eV,ratBox] at m1 hf d1 ⊢
  simp[c93,b93,put,eset,eget,D.cells,V.cells,allD,hget,hset,fz,zC,zN,hp,np,d1,m1,oneD,okR,h0,hf]
theorem Width_ok (x:IV) {H:Hp}{o:EO} (hG:Glb H) (hE:ErrAt H o):callV cS false (fnV 33) [.d x.D] H=some (.val (.d (workQ [x] (oneD (opQ (sumD fun x y=>x-y) errR x.c x.d x.a x.b)))),H):=by
 rw[callV_fn (sf:=c33) rfl rfl rfl rfl]
 obtain⟨H1,hH1⟩:∃ H1:Hp,H1=ratBox [] []::.box 29 [.d (.s x.a),.d (.s x.b),.d (.s x.c),.d (.s x.d)]::H:=⟨_,rfl⟩
 have hG1:Glb H1:=by rw[hH1];exact(hG.cons _).cons _
 have hE1:ErrAt H1 o:=by rw[hH1];exact(hE.cons _).cons _
 have hr:=width1_ok (h:=cbR H1 zR 0) (p:=H.length) (a:=x.a) (b:=x.b) (c:=x.c) (d:=x.d) ((hG1.cons _).cons _) ((hE1.cons _).cons _) (by rw[hH1];simp[cbR,hget,put,eset,eget,D.cells,V.cells,allD,hget,hset,fz,zC,zN])
 have hcomp:callV cS false (fnV 92) [.fn 93 [] [.p H.length 0],.d (.ls ([x].map IV.D))] H1=some (.val (.d (workQ [x] (oneD (opQ (sumD fun x y=>x-y) errR x.c x.d x.a x.b)))),H1):=by
  unfold workQ
  by_cases ha:[x].all IV.ok=true
  ·rw[if_pos ha]
   cases hp:oneD (opQ (sumD fun x y=>x-y) errR x.c x.d x.a x.b) with
   | some z =>
     rw[hp] at hr
     obtain⟨s,t,rfl⟩:=oneD_form hp
     exact computeR_ok (by simp) hG1 (by simp) ha hr
   | none =>
     rw[hp] at hr
     exact computeR_err (by simp) hG1 hE1 (.inr ⟨ha,by simp,hr⟩)
  ·rw[if_neg ha]
   exact computeR_err (by simp) hG1 hE1 (.inl (by simpa using ha))
 have hform:∃ s t e,workQ [x] (oneD (opQ (sumD fun x y=>x-y) errR x.c x.d x.a x.b))=.tup [.agg [.s s,.s t],.i .i64 e]:=by
  unfold workQ errQ zR
  split
  ·split
   ·rename_i z hz
    obtain⟨s,t,rfl⟩:=oneD_form hz
    exact⟨_,_,_,rfl⟩
   ·exact⟨_,_,_,rfl⟩
  ·exact⟨_,_,_,rfl⟩
 obtain⟨s,t,e,he⟩:=hform
 rw[he] at hcomp ⊢
 rw[hH1] at hcomp
 simp only[List.map_cons,List.map_nil,IV.D,ratBox] at hcomp
 simp[c33,b33,put,eset,eget,D.cells,V.cells,allD,hget,hset,fz,zC,zN,IV.D,hcomp,setParts,chunk1,allCellsD]
end
section
open Go Num
theorem allR (l:List Rat):allCellsD 2 (l.map dR)=true:=by induction l<;>simp[allCellsD,dR,D.cells,scDs,scD, *]
def mmE (H:Hp) (l:List Rat) (i:Nat):En:=[(0,.d (.ls (l.map dR))),(1,.d (.fn 13 [] [])),(4,.p H.length 0),(5,.p (H.length+1) 0),(6,.d (.i .i64 i))]
def mmH (H:Hp) (m:Rat):Hp:=ratBox (txt m.num) (txt m.den)::ratBox [] []::H
def minQ (m x:Rat):Rat:=if cmpQ x m<0 then x else m
theorem minQ_loop (H:Hp) (hG:Glb H) (l:List Rat) (hf:∀ q∈l,RFits q) (hl:l.length<4611686018427387904):∀ (k:Nat) (i:Nat) (m:Rat),l.length-i=k→i≤l.length→RFits m →
 ∃ e,evI cS (.loop l122_0) none (mmE H l i) (mmH H m)=some (.ex 0,e,mmH H ((l.drop i).foldl minQ m))∧eget e 4=.p H.length 0∧eget e 5=.p (H.length+1) 0:=by
 intro k
 induction k with
 | zero =>
   intro i m hk hi hm
   have:i=l.length:=by omega
   subst this
   refine⟨mmE H l l.length++[(17,.d (.b false))],?_,by simp[mmE,eget],by simp[mmE,eget]⟩
   rw[evI_loop,List.drop_length]
   simp[l122_0,put,eset,eget,D.cells,V.cells,allD,hget,hset,fz,zC,zN,mmE,mmH]
 | succ k ih =>
   intro i m hk hi hm
   have hil:i<l.length:=by omega
   obtain⟨x,hx⟩:∃ x,l[i]=x:=⟨_,rfl⟩
   have fx:RFits x:=by rw[← hx];exact hf _ (List.getElem_mem hil)
   have hd:l.drop i=x::l.drop (i+1):=by rw[List.drop_eq_getElem_cons hil,hx]
   have fm:RFits (minQ m x):=by unfold minQ;split<;>assumption
   obtain⟨e,h1,h2,h3⟩:=ih (i+1) (minQ m x) (by omega) (by omega) fm
   refine⟨e,?_,h2,h3⟩
   rw[hd,List.foldl_cons,evI_loop,← h1]
   have hil':(i:Int)<l.length:=by omega
   have w:IntKind.i64.wrap ((i:Int)+1)=((i+1:Nat):Int):=by rw[wr64 (by omega) (by omega)];omega
   have cm:=RCompare_ok (txt x.num) (txt x.den) (txt m.num) (txt m.den) (mmH H m) ((hG.cons _).cons _)
   have hop:opQ (fun p q=>.i .i64 (cmpQ p q)) (.i .i64 0) (txt x.num) (txt x.den) (txt m.num) (txt m.den)=.i .i64 (cmpQ x m):=by simp[opQ,RQ_txt fx,RQ_txt hm]
   rw[hop] at cm
   have qa:=allR l
   obtain⟨i1,hi1⟩:∃ i1,i1=((i+1:Nat):Int):=⟨_,rfl⟩
   rw[← hi1] at w
   simp only[mmE,mmH,ratBox,dR,← hi1] at cm qa ⊢
   by_cases hc:cmpQ x m<0
   ·have hmn:minQ m x=x:=by unfold minQ;rw[if_pos hc]
    rw[hmn]
    simp[l122_0,put,eset,eget,D.cells,V.cells,allD,hget,hset,fz,zC,zN,hil,hil',hx,qa,cm,hc,w,dR]
   ·have hmn:minQ m x=m:=by unfold minQ;rw[if_neg hc]
    rw[hmn]
    simp[l122_0,put,eset,eget,D.cells,V.cells,allD,hget,hset,fz,zC,zN,hil,hil',hx,qa,cm,hc,w,dR]
theorem minQ_ok (q:Rat) (l:List Rat) (hf:∀ x∈q::l,RFits x) (hl:l.length<1000000000) (H:Hp) (hG:Glb H) :
 callV cS false (fnV 122) [.d (.ls ((q::l).map dR)),.d (.fn 13 [] [])] H=some (.val (.d (dR (l.foldl minQ q))),H):=by
 rw[callV_fn (sf:=c122) rfl rfl rfl rfl]
 obtain⟨e,h1,h2,h3⟩:=minQ_loop H hG (q::l) hf (by simp<;>omega) _ 1 q rfl (by simp) (hf q (by simp))
 simp only[List.drop_succ_cons,List.drop_zero] at h1
 obtain⟨m,hm⟩:∃ m,m=l.foldl minQ q:=⟨_,rfl⟩
 rw[← hm] at h1 ⊢
 have qa:=allR (q::l)
 simp only[mmE,mmH,ratBox,List.map_cons,dR,show ((1:Nat):Int)=1 from rfl] at h1 qa ⊢
 have hlen:¬ ((l.length:Int)+1<1):=by omega
 have hpos:(0:Int)<(l.length:Int)+1:=by omega
 simp[c122,b122,put,eset,eget,D.cells,V.cells,allD,hget,hset,fz,zC,zN,dR,qa,hlen,hpos,h1,h2,h3]
def maxQ (m x:Rat):Rat:=if 0<cmpQ x m then x else m
theorem maxQ_loop (H:Hp) (hG:Glb H) (l:List Rat) (hf:∀ q∈l,RFits q) (hl:l.length<4611686018427387904):∀ (k:Nat) (i:Nat) (m:Rat),l.length-i=k→i≤l.length→RFits m →
 ∃ e,evI cS (.loop l123_0) none (mmE H l i) (mmH H m)=some (.ex 0,e,mmH H ((l.drop i).foldl maxQ m))∧eget e 4=.p H.length 0∧eget e 5=.p (H.length+1) 0:=by
 intro k
 induction k with
 | zero =>
   intro i m hk hi hm
   have:i=l.length:=by omega
   subst this
   refine⟨mmE H l l.length++[(17,.d (.b false))],?_,by simp[mmE,eget],by simp[mmE,eget]⟩
   rw[evI_loop,List.drop_length]
   simp[l123_0,put,eset,eget,D.cells,V.cells,allD,hget,hset,fz,zC,zN,mmE,mmH]
 | succ k ih =>
   intro i m hk hi hm
   have hil:i<l.length:=by omega
   obtain⟨x,hx⟩:∃ x,l[i]=x:=⟨_,rfl⟩
   have fx:RFits x:=by rw[← hx];exact hf _ (List.getElem_mem hil)
   have hd:l.drop i=x::l.drop (i+1):=by rw[List.drop_eq_getElem_cons hil,hx]
   have fm:RFits (maxQ m x):=by unfold maxQ;split<;>assumption
   obtain⟨e,h1,h2,h3⟩:=ih (i+1) (maxQ m x) (by omega) (by omega) fm
   refine⟨e,?_,h2,h3⟩
   rw[hd,List.foldl_cons,evI_loop,← h1]
   have hil':(i:Int)<l.length:=by omega
   have w:IntKind.i64.wrap ((i:Int)+1)=((i+1:Nat):Int):=by rw[wr64 (by omega) (by omega)];omega
   have cm:=RCompare_ok (txt x.num) (txt x.den) (txt m.num) (txt m.den) (mmH H m) ((hG.cons _).cons _)
   have hop:opQ (fun p q=>.i .i64 (cmpQ p q)) (.i .i64 0) (txt x.num) (txt x.den) (txt m.num) (txt m.den)=.i .i64 (cmpQ x m):=by simp[opQ,RQ_txt fx,RQ_txt hm]
   rw[hop] at cm
   have qa:=allR l
   obtain⟨i1,hi1⟩:∃ i1,i1=((i+1:Nat):Int):=⟨_,rfl⟩
   rw[← hi1] at w
   simp only[mmE,mmH,ratBox,dR,← hi1] at cm qa ⊢
   by_cases hc:0<cmpQ x m
   ·have hmn:maxQ m x=x:=by unfold maxQ;rw[if_pos hc]
    rw[hmn]
    simp[l123_0,put,eset,eget,D.cells,V.cells,allD,hget,hset,fz,zC,zN,hil,hil',hx,qa,cm,hc,w,dR]
   ·have hmn:maxQ m x=m:=by unfold maxQ;rw[if_neg hc]
    rw[hmn]
    simp[l123_0,put,eset,eget,D.cells,V.cells,allD,hget,hset,fz,zC,zN,hil,hil',hx,qa,cm,hc,w,dR]
theorem maxQ_ok (q:Rat) (l:List Rat) (hf:∀ x∈q::l,RFits x) (hl:l.length<1000000000) (H:Hp) (hG:Glb H) :
 callV cS false (fnV 123) [.d (.ls ((q::l).map dR)),.d (.fn 13 [] [])] H=some (.val (.d (dR (l.foldl maxQ q))),H):=by
 rw[callV_fn (sf:=c123) rfl rfl rfl rfl]
 obtain⟨e,h1,h2,h3⟩:=maxQ_loop H hG (q::l) hf (by simp<;>omega) _ 1 q rfl (by simp) (hf q (by simp))
 simp only[List.drop_succ_cons,List.drop_zero] at h1
 obtain⟨m,hm⟩:∃ m,m=l.foldl maxQ q:=⟨_,rfl⟩
 rw[← hm] at h1 ⊢
 have qa:=allR (q::l)
 simp only[mmE,mmH,ratBox,List.map_cons,dR,show ((1:Nat):Int)=1 from rfl] at h1 qa ⊢
 have hlen:¬ ((l.length:Int)+1<1):=by omega
 have hpos:(0:Int)<(l.length:Int)+1:=by omega
 simp[c123,b123,put,eset,eget,D.cells,V.cells,allD,hget,hset,fz,zC,zN,dR,qa,hlen,hpos,h1,h2,h3]
end
section
open Go Num
def dI4 (p q:Rat):D:=.agg [.s (txt p.num),.s (txt p.den),.s (txt q.num),.s (txt q.den)]
theorem hull_ok (q:Rat) (l:List Rat) (hf:∀ x∈q::l,RFits x) (hl:l.length<1000000000) (H:Hp) (hG:Glb H) :
 callV cS false (fnV 74) [.d (.ls ((q::l).map dR))] H=some (.val (.d (dI4 (l.foldl minQ q) (l.foldl maxQ q))),H):=by
 rw[callV_fn (sf:=c74) rfl rfl rfl rfl]
 have hG1:=hG.cons (.box 29 [.d (.s []),.d (.s []),.d (.s []),.d (.s [])])
 have h1:=minQ_ok q l hf hl _ hG1
 have h2:=maxQ_ok q l hf hl _ hG1
 obtain⟨ls,hls⟩:∃ ls,ls=(q::l).map dR:=⟨_,rfl⟩
 rw[← hls] at h1 h2 ⊢
 simp only[dR] at h1 h2
 simp[c74,b74,put,eset,eget,D.cells,V.cells,allD,hget,hset,fz,zC,zN,h1,h2,dI4]
theorem minQ_fits {q:Rat}{l:List Rat} (hf:∀ x∈q::l,RFits x):RFits (l.foldl minQ q):=by
 induction l generalizing q with
 | nil=>exact hf q (by simp)
 | cons x l ih =>
   apply ih
   intro y hy
   rcases List.mem_cons.1 hy with h | h
   ·subst h;unfold minQ;split
    ·exact hf x (by simp)
    ·exact hf q (by simp)
   ·exact hf y (by simp[h])
theorem maxQ_fits {q:Rat}{l:List Rat} (hf:∀ x∈q::l,RFits x):RFits (l.foldl maxQ q):=by
 induction l generalizing q with
 | nil=>exact hf q (by simp)
 | cons x l ih =>
   apply ih
   intro y hy
   rcases List.mem_cons.1 hy with h | h
   ·subst h;unfold maxQ;split
    ·exact hf x (by simp)
    ·exact hf q (by simp)
   ·exact hf y (by simp[h])
noncomputable def meetO (p1 q1 p2 q2:Rat):Option D:=if cmpQ (maxQ p1 p2) (minQ q1 q2)≤0 then some (dI4 (maxQ p1 p2) (minQ q1 q2)) else none
set_option maxHeartbeats 4000000 in
theorem meet1_ok {h:Hp}{i j:Nat}{o:EO}{p1 q1 p2 q2:Rat} (f1:RFits p1) (f2:RFits q1) (f3:RFits p2) (f4:RFits q2) (hG:Glb h) (hE:ErrAt h o) (hi:hget h i=some (.box 29 [.d (.s (txt p1.num)),.d (.s (txt p1.den)),.d (.s (txt q1.num)),.d (.s (txt q1.den))])) (hj:hget h j=some (.box 29 [.d (.s (txt p2.num)),.d (.s (txt p2.den)),.d (.s (txt q2.num)),.d (.s (txt q2.den))])) :
 callV cS false (.fn 73 [] [.p i 0,.p j 0]) [] h=(match meetO p1 q1 p2 q2 with
  | some x=>some (.val (.d x),h)
  | none=>some (.pan (eV o),h)):=by
 rw[callV_fnV (sf:=c73) rfl rfl rfl rfl]
 have hil:=hget_lt' hi
 have hjl:=hget_lt' hj
 have ni:¬ i=h.length:=by omega
 have nj:¬ j=h.length:=by omega
 have ni1:¬ i=h.length+1:=by omega
 have nj1:¬ j=h.length+1:=by omega
 have h1:=fun G hG=>hull_ok p1 [p2] (by simp[f1,f3]) (by simp) G hG
 have h2:=fun G hG=>hull_ok q1 [q2] (by simp[f2,f4]) (by simp) G hG
 have fmx:RFits (maxQ p1 p2):=maxQ_fits (q:=p1) (l:=[p2]) (by simp[f1,f3])
 have fmn:RFits (minQ q1 q2):=minQ_fits (q:=q1) (l:=[q2]) (by simp[f2,f4])
 simp only[List.foldl_cons,List.foldl_nil,List.map_cons,List.map_nil,dR,dI4] at h1 h2
 obtain⟨mx,hmx⟩:∃ mx,mx=maxQ p1 p2:=⟨_,rfl⟩
 obtain⟨mn,hmn⟩:∃ mn,mn=minQ q1 q2:=⟨_,rfl⟩
 have hv:∀ G,Glb G→callV cS false (fnV 35) [.d (dV (txt mx.num) (txt mx.den) (txt mn.num) (txt mn.den))] G=some (.val (.d (.b (decide (cmpQ mx mn≤0)))),G):=by
  intro G hGG
  rw[EValid_ok _ _ _ _ G hGG]
  have:(VQ (txt mx.num) (txt mx.den) (txt mn.num) (txt mn.den)).isSome=decide (cmpQ mx mn≤0):=by
   simp only[VQ,RQ_txt (show RFits mx by rw[hmx];exact fmx),RQ_txt (show RFits mn by rw[hmn];exact fmn)]
   split
   ·rename_i h;simp[h]
   ·rename_i h;simp<;>omega
  rw[this]
 have hG0:=hG.cons (.box 29 [.d (.s []),.d (.s []),.d (.s []),.d (.s [])])
 have h1':=h1 _ hG0
 have h2':=h2 _ hG0
 have hv':=hv _ (hG0.cons (.box 29 [.d (.s (txt mx.num)),.d (.s (txt mx.den)),.d (.s (txt mn.num)),.d (.s (txt mn.den))]))
 have hE1:=(hE.cons (.box 29 [.d (.s []),.d (.s []),.d (.s []),.d (.s [])])).cons (.box 29 [.d (.s (txt mx.num)),.d (.s (txt mx.den)),.d (.s (txt mn.num)),.d (.s (txt mn.den))])
 have hk:=check_true (.box 29 [.d (.s (txt mx.num)),.d (.s (txt mx.den)),.d (.s (txt mn.num)),.d (.s (txt mn.den))]::.box 29 [.d (.s []),.d (.s []),.d (.s []),.d (.s [])]::h)
 have hk2:=check_false hE1
 have hf:=fin_pan (h:=h) (h':=.box 29 [.d (.s (txt mx.num)),.d (.s (txt mx.den)),.d (.s (txt mn.num)),.d (.s (txt mn.den))]::.box 29 [.d (.s []),.d (.s []),.d (.s []),.d (.s [])]::h) (v:=eV o) (by simp[eV,vlt,hE.2]) (by simp<;>omega) (by rw[HOk_cons' (by simp),HOk_cons' (Nat.le_refl _)];exact HOk.refl h)
 rw[trunc_cons' (by simp),trunc_cons' (Nat.le_refl _),trunc_self] at hf
 unfold meetO dI4
 rw[← hmx] at h1' ⊢
 rw[← hmn] at h2' ⊢
 simp only[dV,eV] at hv' hk2 hf ⊢
 by_cases hc:cmpQ mx mn≤0
 ·rw[decide_eq_true hc] at hv'
  rw[if_pos hc]
  simp[c73,b73,put,eset,eget,D.cells,V.cells,allD,hget,hset,fz,zC,zN,hi,hj,ni,nj,ni1,nj1,h1',h2',hv',hk,setParts,chunk1,allCellsD]
 ·rw[decide_eq_false hc] at hv'
  rw[if_neg hc]
  simp[c73,b73,put,eset,eget,D.cells,V.cells,allD,hget,hset,fz,zC,zN,hi,hj,ni,nj,ni1,nj1,h1',h2',hv',hk2,hf,setParts,chunk1,allCellsD]
end
section
open Go Num
theorem workD_form {l:List IV}{x:Option D} (hx:∀ z,x=some z→∃ s t u v,z=.agg [.s s,.s t,.s u,.s v]):∃ s t u v e,workD l x=.tup [.agg [.s s,.s t,.s u,.s v],.i .i64 e]:=by
 unfold workD errV zI
 split
 ·split
  ·rename_i z
   obtain⟨s,t,u,v,rfl⟩:=hx _ rfl
   exact⟨_,_,_,_,_,rfl⟩
  ·exact⟨_,_,_,_,_,rfl⟩
 ·exact⟨_,_,_,_,_,rfl⟩
def endW (o:EO) (h:Hp):Option D→Option (Re×Hp)
 | some x=>some (.val (.d x),h)
 | none=>some (.pan (eV o),h)
theorem compute_work {F:V}{l:List IV} (hl:l.length<4611686018427387904) {H:Hp} (hG:Glb H) {o:EO} (hE:ErrAt H o) (hu:F≠.u) {x:Option D} (hx:∀ z,x=some z→∃ s t u v,z=.agg [.s s,.s t,.s u,.s v])
 (hF:l.all IV.ok=true→callV cS false F [] (cbH H zI 0)=endW o (cbH H zI 0) x) :
 callV cS false (fnV 49) [F,.d (.ls (l.map IV.D))] H=some (.val (.d (workD l x)),H):=by
 unfold workD
 by_cases ha:l.all IV.ok=true
 ·rw[if_pos ha]
  have hF':=hF ha
  cases x with
  | some z =>
    obtain⟨s,t,u,v,rfl⟩:=hx z rfl
    exact compute_ok hl hG hu ha hF'
  | none=>exact compute_err hl hG hE (.inr ⟨ha,hu,hF'⟩)
 ·rw[if_neg ha]
  exact compute_err hl hG hE (.inl (by simpa using ha))
theorem IV.ends {x:IV} (h:x.ok=true):∃ p q,RFits p∧RFits q∧cmpQ p q≤0∧VQ x.a x.b x.c x.d=some (p,q)∧x.a=txt p.num∧x.b=txt p.den∧x.c=txt q.num∧x.d=txt q.den:=by
 unfold IV.ok at h
 obtain⟨⟨p,q⟩,hv⟩:=Option.isSome_iff_exists.1 h
 obtain⟨h1,h2,h3⟩:=VQ_some hv
 obtain⟨f1,e1,e2⟩:=RQ_some h1
 obtain⟨f2,e3,e4⟩:=RQ_some h2
 exact⟨p,q,f1,f2,h3,hv,e1,e2,e3,e4⟩
noncomputable def meetX (x y:IV):Option D:=match VQ x.a x.b x.c x.d,VQ y.a y.b y.c y.d with
 | some (p1,q1),some (p2,q2)=>meetO p1 q1 p2 q2
 | _,_=>none
theorem meetX_form (x y:IV):∀ z,meetX x y=some z→∃ s t u v,z=.agg [.s s,.s t,.s u,.s v]:=by
 intro z hz
 unfold meetX meetO dI4 at hz
 split at hz
 ·split at hz
  ·cases hz;exact⟨_,_,_,_,rfl⟩
  ·cases hz
 ·cases hz
theorem EMeet_ok (x y:IV) {H:Hp}{o:EO} (hG:Glb H) (hE:ErrAt H o):callV cS false (fnV 26) [.d x.D,.d y.D] H=some (.val (.d (workD [x,y] (meetX x y))),H):=by
 rw[callV_fn (sf:=c26) rfl rfl rfl rfl]
 obtain⟨H1,hH1⟩:∃ H1:Hp,H1=.box 29 [.d (.s []),.d (.s []),.d (.s []),.d (.s [])]::.box 29 [.d (.s y.a),.d (.s y.b),.d (.s y.c),.d (.s y.d)]::.box 29 [.d (.s x.a),.d (.s x.b),.d (.s x.c),.d (.s x.d)]::H:=⟨_,rfl⟩
 have hG1:Glb H1:=by rw[hH1];exact((hG.cons _).cons _).cons _
 have hE1:ErrAt H1 o:=by rw[hH1];exact((hE.cons _).cons _).cons _
 have hcomp:=compute_work (F:=.fn 73 [] [.p H.length 0,.p (H.length+1) 0]) (l:=[x,y]) (by simp) hG1 hE1 (by simp) (meetX_form x y) (by
  intro ha
  simp only[List.all_cons,List.all_nil,Bool.and_true,Bool.and_eq_true] at ha
  obtain⟨p1,q1,f1,f2,_,hv1,a1,a2,a3,a4⟩:=IV.ends ha.1
  obtain⟨p2,q2,f3,f4,_,hv2,b1,b2,b3,b4⟩:=IV.ends ha.2
  have hm:meetX x y=meetO p1 q1 p2 q2:=by simp only[meetX,hv1,hv2]
  rw[hm]
  have hme:=meet1_ok (h:=cbH H1 zI 0) (i:=H.length) (j:=H.length+1) f1 f2 f3 f4 ((hG1.cons _).cons _) ((hE1.cons _).cons _) (by rw[hH1,← a1,← a2,← a3,← a4];simp[cbH,hget,put,eset,eget,D.cells,V.cells,allD,hget,hset,fz,zC,zN]) (by rw[hH1,← b1,← b2,← b3,← b4];simp[cbH,hget,put,eset,eget,D.cells,V.cells,allD,hget,hset,fz,zC,zN])
  rw[hme]
  cases meetO p1 q1 p2 q2<;>rfl)
 obtain⟨s,t,u,v,e,he⟩:=workD_form (l:=[x,y]) (meetX_form x y)
 rw[he] at hcomp ⊢
 rw[hH1] at hcomp
 simp only[List.map_cons,List.map_nil,IV.D] at hcomp
 simp[c26,b26,put,eset,eget,D.cells,V.cells,allD,hget,hset,fz,zC,zN,IV.D,hcomp,setParts,chunk1,allCellsD]
end
section
open Go Num
theorem of_ok {f:FuncId}{a b c d:List UInt8}{R:D} (hR:∃ s t e,R=.tup [.agg [.s s,.s t],.i .i64 e]) (hf:∀ G,Glb G→callV cS false (fnV f) [.d (.agg [.s a,.s b]),.d (.agg [.s c,.s d])] G=some (.val (.d R),G)) {H:Hp}{o:EO} (hG:Glb H) (hE:ErrAt H o) :
 callV cS false (fnV 130) [.d (.fn f [] []),.d (.agg [.s a,.s b]),.d (.agg [.s c,.s d])] H=endW o H (oneD R):=by
 rw[callV_fn (sf:=c130) rfl rfl rfl rfl]
 obtain⟨s,t,e,rfl⟩:=hR
 have hG1:Glb (ratBox [] []::ratBox c d::ratBox a b::H):=((hG.cons _).cons _).cons _
 have hE1:ErrAt (ratBox [] []::ratBox c d::ratBox a b::H) o:=((hE.cons _).cons _).cons _
 have h1:=hf _ hG1
 have hfp:=fin_pan (h:=H) (h':=ratBox [] []::ratBox c d::ratBox a b::H) (v:=eV o) (by simp[eV,vlt,hE.2]) (by simp<;>omega) (by rw[HOk_cons' (by simp<;>omega),HOk_cons' (by simp),HOk_cons' (Nat.le_refl _)];exact HOk.refl H)
 rw[trunc_cons' (by simp<;>omega),trunc_cons' (by simp),trunc_cons' (Nat.le_refl _),trunc_self] at hfp
 by_cases h0:e=0
 ·subst h0
  have m1:=must_ok s t
  simp only[ratBox] at h1
  simp[c130,b130,put,eset,eget,D.cells,V.cells,allD,hget,hset,fz,zC,zN,h1,m1,oneD,okR,endW]
 ·have m1:=must_fail s t e h0 hE1
  simp only[eV,ratBox] at m1 hfp h1 ⊢
  simp[c130,b130,put,eset,eget,D.cells,V.cells,allD,hget,hset,fz,zC,zN,h1,m1,oneD,okR,h0,hfp,endW,eV]
noncomputable def endsO (g:Rat→Rat→Option Rat) (p1 q1 p2 q2:Rat):Option D:=match g p1 p2,g p1 q2,g q1 p2,g q1 q2 with
 | some a,some b,some c,some d=>some (dI4 ([b,c,d].foldl minQ a) ([b,c,d].foldl maxQ a))
 | _,_,_,_=>none
def OpF (f:FuncId) (g:Rat→Rat→Option Rat):Prop:=∀ p q,RFits p→RFits q→∃ R,(∃ s t e,R=D.tup [.agg [.s s,.s t],.i .i64 e])∧(∀ G,Glb G→callV cS false (fnV f) [.d (dR p),.d (dR q)] G=some (.val (.d R),G)) ∧
 oneD R=(g p q).map dR∧∀ r,g p q=some r→RFits r
theorem of_call {f:FuncId}{g:Rat→Rat→Option Rat} (hf:OpF f g) {p q:Rat} (fp:RFits p) (fq:RFits q) {H:Hp}{o:EO} (hG:Glb H) (hE:ErrAt H o) :
 callV cS false (fnV 130) [.d (.fn f [] []),.d (.agg [.s (txt p.num),.s (txt p.den)]),.d (.agg [.s (txt q.num),.s (txt q.den)])] H=(match g p q with
  | some r=>some (.val (.d (.agg [.s (txt r.num),.s (txt r.den)])),H)
  | none=>some (.pan (eV o),H)):=by
 obtain⟨R,h1,h2,h3,_⟩:=hf p q fp fq
 rw[of_ok h1 h2 hG hE,h3]
 cases g p q<;>rfl
set_option maxHeartbeats 8000000 in
theorem ends_ok {f:FuncId}{g:Rat→Rat→Option Rat} (hf:OpF f g) {p1 q1 p2 q2:Rat} (f1:RFits p1) (f2:RFits q1) (f3:RFits p2) (f4:RFits q2) {H:Hp}{o:EO} (hG:Glb H) (hE:ErrAt H o) :
 callV cS false (fnV 96) [.d (.fn f [] []),.d (dI4 p1 q1),.d (dI4 p2 q2)] H=endW o H (endsO g p1 q1 p2 q2):=by
 rw[callV_fn (sf:=c96) rfl rfl rfl rfl]
 obtain⟨H1,hH1⟩:∃ H1:Hp,H1=.box 29 [.d (.s []),.d (.s []),.d (.s []),.d (.s [])]::.box 29 [.d (.s (txt p2.num)),.d (.s (txt p2.den)),.d (.s (txt q2.num)),.d (.s (txt q2.den))]::.box 29 [.d (.s (txt p1.num)),.d (.s (txt p1.den)),.d (.s (txt q1.num)),.d (.s (txt q1.den))]::H:=⟨_,rfl⟩
 have hG1:Glb H1:=by rw[hH1];exact((hG.cons _).cons _).cons _
 have hE1:ErrAt H1 o:=by rw[hH1];exact((hE.cons _).cons _).cons _
 have c1:=of_call hf f1 f3 hG1 hE1
 have c2:=of_call hf f1 f4 hG1 hE1
 have c3:=of_call hf f2 f3 hG1 hE1
 have c4:=of_call hf f2 f4 hG1 hE1
 have hfp:=fin_pan (h:=H) (h':=H1) (v:=eV o) (by simp[eV,vlt,hE.2]) (by rw[hH1];simp<;>omega) (by rw[hH1,HOk_cons' (by simp<;>omega),HOk_cons' (by simp),HOk_cons' (Nat.le_refl _)];exact HOk.refl H)
 rw[show trunc H.length H1=H by rw[hH1,trunc_cons' (by simp<;>omega),trunc_cons' (by simp),trunc_cons' (Nat.le_refl _),trunc_self]] at hfp
 rw[hH1] at c1 c2 c3 c4 hfp hG1
 simp only[eV] at hfp
 cases h1:g p1 p2 with
 | none =>
   rw[h1] at c1
   simp only[eV] at c1
   simp[c96,b96,put,eset,eget,D.cells,V.cells,allD,hget,hset,fz,zC,zN,dI4,c1,hfp,endsO,h1,endW,eV]
 | some a =>
   rw[h1] at c1
   cases h2:g p1 q2 with
   | none =>
     rw[h2] at c2
     simp only[eV] at c2
     simp[c96,b96,put,eset,eget,D.cells,V.cells,allD,hget,hset,fz,zC,zN,dI4,c1,c2,hfp,endsO,h1,h2,endW,eV]
   | some b =>
     rw[h2] at c2
     cases h3:g q1 p2 with
     | none =>
       rw[h3] at c3
       simp only[eV] at c3
       simp[c96,b96,put,eset,eget,D.cells,V.cells,allD,hget,hset,fz,zC,zN,dI4,c1,c2,c3,hfp,endsO,h1,h2,h3,endW,eV]
     | some c =>
       rw[h3] at c3
       cases h4:g q1 q2 with
       | none =>
         rw[h4] at c4
         simp only[eV] at c4
         simp[c96,b96,put,eset,eget,D.cells,V.cells,allD,hget,hset,fz,zC,zN,dI4,c1,c2,c3,c4,hfp,endsO,h1,h2,h3,h4,endW,eV]
       | some d =>
         rw[h4] at c4
         obtain⟨_,_,_,_,k1⟩:=hf p1 p2 f1 f3
         obtain⟨_,_,_,_,k2⟩:=hf p1 q2 f1 f4
         obtain⟨_,_,_,_,k3⟩:=hf q1 p2 f2 f3
         obtain⟨_,_,_,_,k4⟩:=hf q1 q2 f2 f4
         have hh:=hull_ok a [b,c,d] (by simp[k1 a h1,k2 b h2,k3 c h3,k4 d h4]) (by simp) _ hG1
         have he:endsO g p1 q1 p2 q2=some (dI4 ([b,c,d].foldl minQ a) ([b,c,d].foldl maxQ a)):=by simp only[endsO,h1,h2,h3,h4]
         rw[he]
         obtain⟨mn,hmn⟩:∃ mn,mn=[b,c,d].foldl minQ a:=⟨_,rfl⟩
         obtain⟨mx,hmx⟩:∃ mx,mx=[b,c,d].foldl maxQ a:=⟨_,rfl⟩
         rw[← hmn,← hmx] at hh ⊢
         simp only[dI4,List.map_cons,List.map_nil,dR] at hh ⊢
         simp[c96,b96,put,eset,eget,D.cells,V.cells,allD,hget,hset,fz,zC,zN,c1,c2,c3,c4,hh,endW,setParts,chunk1,allCellsD]
end
section
open Go Num
open Classical in
noncomputable def twoQ (x y:Int):Option Rat:=if Fits x∧Fits y∧y≠0 then some (Rat.divInt x y) else none
theorem natAbs_ediv_fits {x:Int}{g:Nat} (hx:Fits x):Fits (x/(g:Int)):=by
 unfold Fits at *
 exact Nat.lt_of_le_of_lt (Int.natAbs_ediv_le_natAbs x g) hx
theorem divInt_fits {x y:Int} (hx:Fits x) (hy:Fits y) (h0:y≠0):RFits (Rat.divInt x y):=by
 by_cases hp:0<y
 ·obtain⟨p1,p2⟩:=divInt_parts x y hp
  exact⟨by rw[p1];exact natAbs_ediv_fits hx,by rw[p2];exact natAbs_ediv_fits hy⟩
 ·obtain⟨p1,p2⟩:=divInt_parts (-x) (-y) (by omega)
  rw[divInt_neg_neg x y h0] at p1 p2
  exact⟨by rw[p1];exact natAbs_ediv_fits (fits_neg hx),by rw[p2];exact natAbs_ediv_fits (fits_neg hy)⟩
theorem oneD_two (x y:Int):oneD (two x y)=(twoQ x y).map dR:=by
 unfold two twoQ
 by_cases h:Fits x∧Fits y
 ·rw[if_pos h]
  by_cases h0:y=0
  ·rw[if_neg (fun k=>k.2.2 h0)]
   unfold makeD;rw[if_pos h0];rfl
  ·rw[if_pos ⟨h.1,h.2,h0⟩]
   unfold makeD;rw[if_neg h0]
   simp[oneD,okR,dR]
 ·rw[if_neg h,if_neg (fun k=>h ⟨k.1,k.2.1⟩)];rfl
theorem mul_OpF:OpF 21 fun p q=>twoQ (p.num*q.num) ((p.den:Int)*q.den):=by
 intro p q fp fq
 refine⟨two (p.num*q.num) ((p.den:Int)*q.den),two_form _ _,fun G hG=>?_,oneD_two _ _,fun r hr=>?_⟩
 ·have:=RMul_ok (txt p.num) (txt p.den) (txt q.num) (txt q.den) G hG
  have he:opQ (fun p q=>two (p.num*q.num) ((p.den:Int)*q.den)) errR (txt p.num) (txt p.den) (txt q.num) (txt q.den)=two (p.num*q.num) ((p.den:Int)*q.den):=by simp[opQ,RQ_txt fp,RQ_txt fq]
  rw[he] at this
  exact this
 ·simp only[twoQ] at hr
  split at hr
  ·rename_i h;cases hr;exact divInt_fits h.1 h.2.1 h.2.2
  ·cases hr
theorem div_OpF:OpF 17 fun p q=>twoQ (p.num*q.den) ((p.den:Int)*q.num):=by
 intro p q fp fq
 refine⟨two (p.num*q.den) ((p.den:Int)*q.num),two_form _ _,fun G hG=>?_,oneD_two _ _,fun r hr=>?_⟩
 ·have:=RDiv_ok (txt p.num) (txt p.den) (txt q.num) (txt q.den) G hG
  have he:opQ (fun p q=>two (p.num*q.den) ((p.den:Int)*q.num)) errR (txt p.num) (txt p.den) (txt q.num) (txt q.den)=two (p.num*q.den) ((p.den:Int)*q.num):=by simp[opQ,RQ_txt fp,RQ_txt fq]
  rw[he] at this
  exact this
 ·simp only[twoQ] at hr
  split at hr
  ·rename_i h;cases hr;exact divInt_fits h.1 h.2.1 h.2.2
  ·cases hr
end
section
open Go Num
noncomputable def mulX (x y:IV):Option D:=match VQ x.a x.b x.c x.d,VQ y.a y.b y.c y.d with
 | some (p1,q1),some (p2,q2)=>endsO (fun p q=>twoQ (p.num*q.num) ((p.den:Int)*q.den)) p1 q1 p2 q2
 | _,_=>none
theorem endsO_form (g:Rat→Rat→Option Rat) (p1 q1 p2 q2:Rat):∀ z,endsO g p1 q1 p2 q2=some z→∃ s t u v,z=.agg [.s s,.s t,.s u,.s v]:=by
 intro z hz
 unfold endsO dI4 at hz
 split at hz
 ·cases hz;exact⟨_,_,_,_,rfl⟩
 ·cases hz
theorem mulX_form (x y:IV):∀ z,mulX x y=some z→∃ s t u v,z=.agg [.s s,.s t,.s u,.s v]:=by
 intro z hz
 unfold mulX at hz
 split at hz
 ·exact endsO_form _ _ _ _ _ z hz
 ·cases hz
theorem mul1_ok {h:Hp}{i j:Nat}{o:EO}{p1 q1 p2 q2:Rat} (f1:RFits p1) (f2:RFits q1) (f3:RFits p2) (f4:RFits q2) (hG:Glb h) (hE:ErrAt h o) (hi:hget h i=some (.box 29 [.d (.s (txt p1.num)),.d (.s (txt p1.den)),.d (.s (txt q1.num)),.d (.s (txt q1.den))])) (hj:hget h j=some (.box 29 [.d (.s (txt p2.num)),.d (.s (txt p2.den)),.d (.s (txt q2.num)),.d (.s (txt q2.den))])) :
 callV cS false (.fn 95 [] [.p i 0,.p j 0]) [] h=endW o h (endsO (fun p q=>twoQ (p.num*q.num) ((p.den:Int)*q.den)) p1 q1 p2 q2):=by
 rw[callV_fnV (sf:=c95) rfl rfl rfl rfl]
 have hil:=hget_lt' hi
 have hjl:=hget_lt' hj
 have ni:¬ i=h.length:=by omega
 have nj:¬ j=h.length:=by omega
 have he:=ends_ok mul_OpF f1 f2 f3 f4 (hG.cons (.box 29 [.d (.s []),.d (.s []),.d (.s []),.d (.s [])])) (hE.cons (.box 29 [.d (.s []),.d (.s []),.d (.s []),.d (.s [])]))
 have hf:=fin_pan (h:=h) (h':=.box 29 [.d (.s []),.d (.s []),.d (.s []),.d (.s [])]::h) (v:=eV o) (by simp[eV,vlt,hE.2]) (by simp) (by rw[HOk_cons' (Nat.le_refl _)];exact HOk.refl h)
 rw[trunc_cons' (Nat.le_refl _),trunc_self] at hf
 have hform:=endsO_form (fun p q=>twoQ (p.num*q.num) ((p.den:Int)*q.den)) p1 q1 p2 q2
 obtain⟨w,hw⟩:∃ w,w=endsO (fun p q=>twoQ (p.num*q.num) ((p.den:Int)*q.den)) p1 q1 p2 q2:=⟨_,rfl⟩
 rw[← hw] at he hform ⊢
 simp only[dI4] at he
 cases w with
 | some z =>
   obtain⟨s,t,u,v,rfl⟩:=hform z rfl
   simp only[endW] at he ⊢
   simp[c95,b95,put,eset,eget,D.cells,V.cells,allD,hget,hset,fz,zC,zN,hi,hj,ni,nj,he]
 | none =>
   simp only[endW,eV] at he hf ⊢
   simp[c95,b95,put,eset,eget,D.cells,V.cells,allD,hget,hset,fz,zC,zN,hi,hj,ni,nj,he,hf]
theorem EMul_ok (x y:IV) {H:Hp}{o:EO} (hG:Glb H) (hE:ErrAt H o):callV cS false (fnV 41) [.d x.D,.d y.D] H=some (.val (.d (workD [x,y] (mulX x y))),H):=by
 rw[callV_fn (sf:=c41) rfl rfl rfl rfl]
 obtain⟨H1,hH1⟩:∃ H1:Hp,H1=.box 29 [.d (.s []),.d (.s []),.d (.s []),.d (.s [])]::.box 29 [.d (.s y.a),.d (.s y.b),.d (.s y.c),.d (.s y.d)]::.box 29 [.d (.s x.a),.d (.s x.b),.d (.s x.c),.d (.s x.d)]::H:=⟨_,rfl⟩
 have hG1:Glb H1:=by rw[hH1];exact((hG.cons _).cons _).cons _
 have hE1:ErrAt H1 o:=by rw[hH1];exact((hE.cons _).cons _).cons _
 have hcomp:=compute_work (F:=.fn 95 [] [.p H.length 0,.p (H.length+1) 0]) (l:=[x,y]) (by simp) hG1 hE1 (by simp) (mulX_form x y) (by
  intro ha
  simp only[List.all_cons,List.all_nil,Bool.and_true,Bool.and_eq_true] at ha
  obtain⟨p1,q1,f1,f2,_,hv1,a1,a2,a3,a4⟩:=IV.ends ha.1
  obtain⟨p2,q2,f3,f4,_,hv2,b1,b2,b3,b4⟩:=IV.ends ha.2
  have hm:mulX x y=endsO (fun p q=>twoQ (p.num*q.num) ((p.den:Int)*q.den)) p1 q1 p2 q2:=by simp only[mulX,hv1,hv2]
  rw[hm]
  exact mul1_ok (h:=cbH H1 zI 0) (i:=H.length) (j:=H.length+1) f1 f2 f3 f4 ((hG1.cons _).cons _) ((hE1.cons _).cons _) (by rw[hH1,← a1,← a2,← a3,← a4];simp[cbH,hget,put,eset,eget,D.cells,V.cells,allD,hget,hset,fz,zC,zN]) (by rw[hH1,← b1,← b2,← b3,← b4];simp[cbH,hget,put,eset,eget,D.cells,V.cells,allD,hget,hset,fz,zC,zN]))
 obtain⟨s,t,u,v,e,he⟩:=workD_form (l:=[x,y]) (mulX_form x y)
 rw[he] at hcomp ⊢
 rw[hH1] at hcomp
 simp only[List.map_cons,List.map_nil,IV.D] at hcomp
 simp[c41,b41,put,eset,eget,D.cells,V.cells,allD,hget,hset,fz,zC,zN,IV.D,hcomp,setParts,chunk1,allCellsD]
end
section
open Go Num
theorem ival_one:ival [49]=some 1:=by rw[← txt_one];exact ival_txt fits_one
theorem RQ_zero:RQ [48] [49]=some 0:=by
 have h:RFits 0:=⟨fits_zero,fits_one⟩
 have:=RQ_txt h
 rw[show (0:Rat).num=0 from rfl,show ((0:Rat).den:Int)=1 from rfl,txt_zero,txt_one] at this
 exact this
theorem div1_ok {h:Hp}{i j:Nat}{o:EO}{p1 q1 p2 q2:Rat} (f1:RFits p1) (f2:RFits q1) (f3:RFits p2) (f4:RFits q2) (hpq:cmpQ p2 q2≤0) (hG:Glb h) (hE:ErrAt h o) (hi:hget h i=some (.box 29 [.d (.s (txt p1.num)),.d (.s (txt p1.den)),.d (.s (txt q1.num)),.d (.s (txt q1.den))])) (hj:hget h j=some (.box 29 [.d (.s (txt p2.num)),.d (.s (txt p2.den)),.d (.s (txt q2.num)),.d (.s (txt q2.den))])) :
 callV cS false (.fn 97 [] [.p j 0,.p i 0]) [] h=endW o h (if cmpQ p2 0≤0∧cmpQ 0 q2≤0 then none else endsO (fun p q=>twoQ (p.num*q.den) ((p.den:Int)*q.num)) p1 q1 p2 q2):=by
 rw[callV_fnV (sf:=c97) rfl rfl rfl rfl]
 have hil:=hget_lt' hi
 have hjl:=hget_lt' hj
 have ni:¬ i=h.length:=by omega
 have nj:¬ j=h.length:=by omega
 have he:=ends_ok div_OpF f1 f2 f3 f4 (hG.cons (.box 29 [.d (.s []),.d (.s []),.d (.s []),.d (.s [])])) (hE.cons (.box 29 [.d (.s []),.d (.s []),.d (.s []),.d (.s [])]))
 have hf:=fin_pan (h:=h) (h':=.box 29 [.d (.s []),.d (.s []),.d (.s []),.d (.s [])]::h) (v:=eV o) (by simp[eV,vlt,hE.2]) (by simp) (by rw[HOk_cons' (Nat.le_refl _)];exact HOk.refl h)
 rw[trunc_cons' (Nat.le_refl _),trunc_self] at hf
 have hz:=zero_ok (.box 29 [.d (.s []),.d (.s []),.d (.s []),.d (.s [])]::h)
 have hcn:=Contains_ok ⟨txt p2.num,txt p2.den,txt q2.num,txt q2.den⟩ [48] [49] _ (hG.cons (.box 29 [.d (.s []),.d (.s []),.d (.s []),.d (.s [])]))
 have hin:inB ⟨txt p2.num,txt p2.den,txt q2.num,txt q2.den⟩ [48] [49]=(decide (cmpQ p2 0≤0)&&decide (cmpQ 0 q2≤0)):=by
  have hv:VQ (txt p2.num) (txt p2.den) (txt q2.num) (txt q2.den)=some (p2,q2):=by simp only[VQ,RQ_txt f3,RQ_txt f4,if_pos hpq]
  simp only[inB,hv,RQ_zero]
 rw[hin] at hcn
 simp only[IV.D] at hcn
 have hkt:=check_true (.box 29 [.d (.s []),.d (.s []),.d (.s []),.d (.s [])]::h)
 have hkf:=check_false (hE.cons (.box 29 [.d (.s []),.d (.s []),.d (.s []),.d (.s [])]))
 by_cases hc:cmpQ p2 0≤0∧cmpQ 0 q2≤0
 ·rw[if_pos hc]
  rw[decide_eq_true hc.1,decide_eq_true hc.2] at hcn
  simp only[endW,eV] at hkf hf ⊢
  simp[c97,b97,put,eset,eget,D.cells,V.cells,allD,hget,hset,fz,zC,zN,hi,hj,ni,nj,hz,hcn,hkf,hf]
 rw[if_neg hc]
 have hcb:(decide (cmpQ p2 0≤0)&&decide (cmpQ 0 q2≤0))=false:=by
  cases h1:(decide (cmpQ p2 0≤0)&&decide (cmpQ 0 q2≤0)) with
  | false=>rfl
  | true=>simp only[Bool.and_eq_true,decide_eq_true_eq] at h1;exact absurd h1 hc
 rw[hcb] at hcn
 have hform:=endsO_form (fun p q=>twoQ (p.num*q.den) ((p.den:Int)*q.num)) p1 q1 p2 q2
 obtain⟨w,hw⟩:∃ w,w=endsO (fun p q=>twoQ (p.num*q.den) ((p.den:Int)*q.num)) p1 q1 p2 q2:=⟨_,rfl⟩
 rw[← hw] at he hform ⊢
 simp only[dI4] at he
 cases w with
 | some z =>
   obtain⟨s,t,u,v,rfl⟩:=hform z rfl
   simp only[endW] at he ⊢
   simp[c97,b97,put,eset,eget,D.cells,V.cells,allD,hget,hset,fz,zC,zN,hi,hj,ni,nj,hz,hcn,hkt,he]
 | none =>
   simp only[endW,eV] at he hf ⊢
   simp[c97,b97,put,eset,eget,D.cells,V.cells,allD,hget,hset,fz,zC,zN,hi,hj,ni,nj,hz,hcn,hkt,he,hf]
noncomputable def divX (x y:IV):Option D:=match VQ x.a x.b x.c x.d,VQ y.a y.b y.c y.d with
 | some (p1,q1),some (p2,q2)=>if cmpQ p2 0≤0∧cmpQ 0 q2≤0 then none else endsO (fun p q=>twoQ (p.num*q.den) ((p.den:Int)*q.num)) p1 q1 p2 q2
 | _,_=>none
theorem divX_form (x y:IV):∀ z,divX x y=some z→∃ s t u v,z=.agg [.s s,.s t,.s u,.s v]:=by
 intro z hz
 unfold divX at hz
 split at hz
 ·split at hz
  ·cases hz
  ·exact endsO_form _ _ _ _ _ z hz
 ·cases hz
theorem EDiv_ok (x y:IV) {H:Hp}{o:EO} (hG:Glb H) (hE:ErrAt H o):callV cS false (fnV 43) [.d x.D,.d y.D] H=some (.val (.d (workD [x,y] (divX x y))),H):=by
 rw[callV_fn (sf:=c43) rfl rfl rfl rfl]
 obtain⟨H1,hH1⟩:∃ H1:Hp,H1=.box 29 [.d (.s []),.d (.s []),.d (.s []),.d (.s [])]::.box 29 [.d (.s y.a),.d (.s y.b),.d (.s y.c),.d (.s y.d)]::.box 29 [.d (.s x.a),.d (.s x.b),.d (.s x.c),.d (.s x.d)]::H:=⟨_,rfl⟩
 have hG1:Glb H1:=by rw[hH1];exact((hG.cons _).cons _).cons _
 have hE1:ErrAt H1 o:=by rw[hH1];exact((hE.cons _).cons _).cons _
 have hcomp:=compute_work (F:=.fn 97 [] [.p (H.length+1) 0,.p H.length 0]) (l:=[x,y]) (by simp) hG1 hE1 (by simp) (divX_form x y) (by
  intro ha
  simp only[List.all_cons,List.all_nil,Bool.and_true,Bool.and_eq_true] at ha
  obtain⟨p1,q1,f1,f2,_,hv1,a1,a2,a3,a4⟩:=IV.ends ha.1
  obtain⟨p2,q2,f3,f4,hpq,hv2,b1,b2,b3,b4⟩:=IV.ends ha.2
  have hm:divX x y=if cmpQ p2 0≤0∧cmpQ 0 q2≤0 then none else endsO (fun p q=>twoQ (p.num*q.den) ((p.den:Int)*q.num)) p1 q1 p2 q2:=by simp only[divX,hv1,hv2]
  rw[hm]
  exact div1_ok (h:=cbH H1 zI 0) (i:=H.length) (j:=H.length+1) f1 f2 f3 f4 hpq ((hG1.cons _).cons _) ((hE1.cons _).cons _) (by rw[hH1,← a1,← a2,← a3,← a4];simp[cbH,hget,put,eset,eget,D.cells,V.cells,allD,hget,hset,fz,zC,zN]) (by rw[hH1,← b1,← b2,← b3,← b4];simp[cbH,hget,put,eset,eget,D.cells,V.cells,allD,hget,hset,fz,zC,zN]))
 obtain⟨s,t,u,v,e,he⟩:=workD_form (l:=[x,y]) (divX_form x y)
 rw[he] at hcomp ⊢
 rw[hH1] at hcomp
 simp only[List.map_cons,List.map_nil,IV.D] at hcomp
 simp[c43,b43,put,eset,eget,D.cells,V.cells,allD,hget,hset,fz,zC,zN,IV.D,hcomp,setParts,chunk1,allCellsD]
end
section
open Go Num
theorem grid_ok (n:Int) (h0:0≤n) (h30:n≤30) (H:Hp):callV cS false (fnV 66) [.d (.i .i64 n)] H=some (.val (.d (.agg [.i .i64 n,.s (txt ((10 ^ n.toNat:Nat):Int))])),H):=by
 rw[callV_fn (sf:=c66) rfl rfl rfl rfl]
 obtain⟨m,rfl⟩:∃ m:Nat,n=m:=⟨n.toNat,by omega⟩
 have hk:=check_true
 have hrp:=call_repeat m (by omega)
 have htw:=txt_pow10 m
 have hlr:(List.replicate m (48:UInt8)).length=m:=by simp
 have hlb:1+m≤9223372036854775807:=by omega
 rw[show (m:Int).toNat=m by omega,htw]
 obtain⟨zs,hzs⟩:∃ zs,zs=List.replicate m (48:UInt8):=⟨_,rfl⟩
 rw[← hzs] at hrp hlr ⊢
 have hm30:(m:Int)≤30:=h30
 simp[c66,b66,put,eset,eget,D.cells,V.cells,allD,hget,hset,fz,zC,zN,hm30,hk,hrp,hlr,hlb]
theorem grid_fail (n:Int) (h:n<0∨30<n) {H:Hp}{o:EO} (hE:ErrAt H o):callV cS false (fnV 66) [.d (.i .i64 n)] H=some (.pan (eV o),H):=by
 rw[callV_fn (sf:=c66) rfl rfl rfl rfl]
 have hk:=check_false (hE.cons (.box 85 [.d (.i .i64 0),.d (.s [])]))
 have hf:=fin_pan (h:=H) (h':=.box 85 [.d (.i .i64 0),.d (.s [])]::H) (v:=eV o) (by simp[eV,vlt,hE.2]) (by simp) (by rw[HOk_cons' (Nat.le_refl _)];exact HOk.refl H)
 rw[trunc_cons' (Nat.le_refl _),trunc_self] at hf
 simp only[eV] at hk hf ⊢
 by_cases h0:0≤n
 ·have h1:¬ n≤30:=by omega
  simp[c66,b66,put,eset,eget,D.cells,V.cells,allD,hget,hset,fz,zC,zN,h0,h1,hk,hf]
 ·simp[c66,b66,put,eset,eget,D.cells,V.cells,allD,hget,hset,fz,zC,zN,h0,hk,hf]
end
section
open Go Num
noncomputable def rootM (T:Int) (q:Rat):Int:=(isqrt (q.num*T*T/q.den).natAbs:Nat)
noncomputable def rootE (T:Int) (q:Rat):Bool:=decide (q.num*T*T%q.den=0)&&decide (rootM T q*rootM T q=q.num*T*T/q.den)
open Classical in
noncomputable def rootO (T:Int) (q:Rat):Option (Int×Bool):=if Fits (q.num*T)∧Fits (q.num*T*T) then some (rootM T q,rootE T q) else none
theorem fitD_err {z:Int} (h:¬ Fits z):fitD z=errI:=by unfold fitD;rw[if_neg h]
theorem rootM_sq {T:Int}{q:Rat} (h0:0≤q.num):0≤rootM T q∧rootM T q*rootM T q≤q.num*T*T/q.den∧q.num*T*T/q.den<(rootM T q+1)*(rootM T q+1):=by
 have hn:0≤q.num*T*T/q.den:=by
  refine Int.ediv_nonneg ?_ (by omega)
  rw[Int.mul_assoc]
  refine Int.mul_nonneg h0 ?_
  by_cases h:0≤T
  ·exact Int.mul_nonneg h h
  ·have:=Int.mul_nonneg (a:=-T) (b:=-T) (by omega) (by omega)
   rwa [Int.neg_mul_neg] at this
 unfold rootM
 obtain⟨k,hk⟩:∃ k:Nat,q.num*T*T/q.den=k:=⟨_,(Int.toNat_of_nonneg hn).symm⟩
 rw[hk]
 obtain⟨h1,h2⟩:=isqrt_spec k
 simp only[Int.natAbs_natCast]
 refine⟨by omega,?_,?_⟩
 ·exact_mod_cast h1
 ·exact_mod_cast h2
theorem fits_le {x y:Int} (h:Fits y) (h0:0≤x) (hx:x≤y):Fits x:=by unfold Fits at *; omega
set_option maxHeartbeats 4000000 in
theorem root1_ok (n:Int) {T:Int} (fT:Fits T) {q:Rat} (hq:RFits q) (h0:0≤q.num) {H:Hp}{o:EO} (hG:Glb H) (hE:ErrAt H o) :
 callV cS false (fnV 69) [.d (.agg [.i .i64 n,.s (txt T)]),.d (.agg [.s (txt q.num),.s (txt q.den)])] H=(match rootO T q with
  | some (m,ex)=>some (.val (.d (.tup [.s (txt m),.b ex])),H)
  | none=>some (.pan (eV o),H)):=by
 rw[callV_fn (sf:=c69) rfl rfl rfl rfl]
 have hG1:Glb (ratBox (txt q.num) (txt q.den)::.box 85 [.d (.i .i64 n),.d (.s (txt T))]::H):=(hG.cons _).cons _
 have hE1:ErrAt (ratBox (txt q.num) (txt q.den)::.box 85 [.d (.i .i64 n),.d (.s (txt T))]::H) o:=(hE.cons _).cons _
 have hf:=fin_pan (h:=H) (h':=ratBox (txt q.num) (txt q.den)::.box 85 [.d (.i .i64 n),.d (.s (txt T))]::H) (v:=eV o) (by simp[eV,vlt,hE.2]) (by simp<;>omega) (by rw[HOk_cons' (by simp),HOk_cons' (Nat.le_refl _)];exact HOk.refl H)
 rw[trunc_cons' (by simp),trunc_cons' (Nat.le_refl _),trunc_self] at hf
 have m1:=Mul_ok (txt q.num) (txt T) _ hG1
 rw[opI_txt hq.1 fT] at m1
 by_cases f1:Fits (q.num*T)
 ·rw[fitD_of f1] at m1
  have k1:=mustS_ok (txt (q.num*T)) (ratBox (txt q.num) (txt q.den)::.box 85 [.d (.i .i64 n),.d (.s (txt T))]::H)
  have m2:=Mul_ok (txt (q.num*T)) (txt T) _ hG1
  rw[opI_txt f1 fT] at m2
  by_cases f2:Fits (q.num*T*T)
  ·rw[fitD_of f2] at m2
   have k2:=mustS_ok (txt (q.num*T*T)) (ratBox (txt q.num) (txt q.den)::.box 85 [.d (.i .i64 n),.d (.s (txt T))]::H)
   have hd:¬ (q.den:Int)=0:=by have:=q.den_pos;omega
   have dv:=Div_ok (txt (q.num*T*T)) (txt q.den) _ hG1
   rw[opI_txt f2 hq.2,divD,if_neg hd] at dv
   obtain⟨s0,s1,s2⟩:=rootM_sq (T:=T) h0
   have fk:Fits (q.num*T*T/q.den):=(ediv_fits f2 hq.2 hd).1
   have hk0:0≤q.num*T*T/q.den:=Int.le_trans (Int.mul_nonneg s0 s0) s1
   have rt:=Root_ok (txt (q.num*T*T/q.den)) _ hG1
   have rt':opI1 rootD errI (txt (q.num*T*T/q.den))=.tup [.s (txt (rootM T q)),.i .i64 0]:=by
    unfold opI1
    rw[ival_txt fk]
    simp only[rootD]
    rw[if_neg (by omega)]
    rfl
   rw[rt'] at rt
   have fm:Fits (rootM T q*rootM T q):=fits_le fk (Int.mul_nonneg s0 s0) s1
   have fr:Fits (rootM T q):=by
    refine fits_le fm s0 ?_
    by_cases hz:rootM T q=0
    ·rw[hz];omega
    ·have:=Int.mul_le_mul_of_nonneg_left (show 1≤rootM T q by omega) s0
     omega
   have k3:=mustS_ok (txt (rootM T q)) (ratBox (txt q.num) (txt q.den)::.box 85 [.d (.i .i64 n),.d (.s (txt T))]::H)
   have m3:=Mul_ok (txt (rootM T q)) (txt (rootM T q)) _ hG1
   rw[opI_txt fr fr,fitD_of fm] at m3
   have k4:=mustS_ok (txt (rootM T q*rootM T q)) (ratBox (txt q.num) (txt q.den)::.box 85 [.d (.i .i64 n),.d (.s (txt T))]::H)
   have hck:=check_true (ratBox (txt q.num) (txt q.den)::.box 85 [.d (.i .i64 n),.d (.s (txt T))]::H)
   have ho:rootO T q=some (rootM T q,rootE T q):=by unfold rootO;rw[if_pos ⟨f1,f2⟩]
   rw[ho]
   simp only[rootE]
   generalize rootM T q=m at *
   generalize q.num*T*T/q.den=k at *
   generalize q.num*T*T%q.den=r at *
   generalize q.num*T*T=z at *
   generalize q.num*T=y at *
   simp only[ratBox] at m1 k1 m2 k2 dv hck rt k3 m3 k4
   by_cases hr:r=0
   ·subst hr
    rw[txt_zero] at dv
    by_cases hmk:m*m=k
    ·subst hmk
     simp[c69,b69,put,eset,eget,D.cells,V.cells,allD,hget,hset,fz,zC,zN,m1,k1,m2,k2,dv,hck,rt,k3,m3,k4]
    ·have hne:¬ txt (m*m)=txt k:=fun h=>hmk (txt_inj h)
     simp[c69,b69,put,eset,eget,D.cells,V.cells,allD,hget,hset,fz,zC,zN,m1,k1,m2,k2,dv,hck,rt,k3,m3,k4,hmk,hne]
   ·have hne:¬ txt r=[48]:=fun h=>hr (txt_eq_zero.1 h)
    have hbb:(txt r==[48])=false:=by rw[beq_eq_false_iff_ne];exact hne
    simp[c69,b69,put,eset,eget,D.cells,V.cells,allD,hget,hset,fz,zC,zN,m1,k1,m2,k2,dv,hck,rt,k3,hr,hbb]
  ·rw[fitD_err f2] at m2
   have k2:=mustS_fail [] 30 (by omega) hE1
   have ho:rootO T q=none:=by unfold rootO;rw[if_neg (fun h=>f2 h.2)]
   rw[ho]
   simp only[ratBox,errI,eV] at m1 k1 m2 k2 hf ⊢
   simp[c69,b69,put,eset,eget,D.cells,V.cells,allD,hget,hset,fz,zC,zN,m1,k1,m2,k2,hf]
 ·rw[fitD_err f1] at m1
  have k1:=mustS_fail [] 30 (by omega) hE1
  have ho:rootO T q=none:=by unfold rootO;rw[if_neg (fun h=>f1 h.1)]
  rw[ho]
  simp only[ratBox,errI,eV] at m1 k1 hf ⊢
  simp[c69,b69,put,eset,eget,D.cells,V.cells,allD,hget,hset,fz,zC,zN,m1,k1,hf]
end
section
open Go Num
theorem cmpI_le {x y:Int}:cmpI x y≤0↔x≤y:=by
 unfold cmpI
 split
 ·omega
 ·split<;>omega
theorem cmpI_lt {x y:Int}:cmpI x y<0↔x<y:=by
 unfold cmpI
 split
 ·omega
 ·split<;>omega
theorem cmpI_gt {x y:Int}:0<cmpI x y↔y<x:=by
 unfold cmpI
 split
 ·omega
 ·split<;>omega
theorem cmpQ_le {p q:Rat}:cmpQ p q≤0↔p≤q:=by unfold cmpQ;rw[cmpI_le,Rat.le_iff]
theorem cmpQ_lt {p q:Rat}:cmpQ p q<0↔p<q:=by unfold cmpQ;rw[cmpI_lt,Rat.lt_iff]
theorem cmpQ_gt {p q:Rat}:0<cmpQ p q↔q<p:=by unfold cmpQ;rw[cmpI_gt,Rat.lt_iff]
theorem divInt_le {a b c d:Int} (hb:0<b) (hd:0<d):Rat.divInt a b≤Rat.divInt c d↔a*d≤c*b:=by
 rw[Rat.le_iff_sub_nonneg,Rat.divInt_sub_divInt _ _ (by omega) (by omega),Rat.divInt_nonneg_iff_of_pos_right (Int.mul_pos hd hb)]
 omega
theorem divInt_lt {a b c d:Int} (hb:0<b) (hd:0<d):Rat.divInt a b<Rat.divInt c d↔a*d<c*b:=by
 rw[← Rat.not_le,divInt_le hd hb];omega
theorem den_pos (q:Rat):0<(q.den:Int):=by have:=q.den_pos;omega
theorem le_divInt {p:Rat}{c d:Int} (hd:0<d):p≤Rat.divInt c d↔p.num*d≤c*p.den:=by
 have:=divInt_le (a:=p.num) (b:=p.den) (c:=c) (d:=d) (den_pos p) hd
 rwa [divInt_self] at this
theorem divInt_le' {p:Rat}{c d:Int} (hd:0<d):Rat.divInt c d≤p↔c*p.den≤p.num*d:=by
 have:=divInt_le (a:=c) (b:=d) (c:=p.num) (d:=p.den) hd (den_pos p)
 rwa [divInt_self] at this
theorem sub_parts (p q:Rat):p-q=Rat.divInt (p.num*q.den-q.num*p.den) ((p.den:Int)*q.den):=by
 have hp:=den_pos p
 have hq:=den_pos q
 have h:=Rat.divInt_sub_divInt p.num q.num (d₁:=p.den) (d₂:=q.den) (by omega) (by omega)
 rwa [divInt_self,divInt_self] at h
theorem add_parts (p q:Rat):p+q=Rat.divInt (p.num*q.den+q.num*p.den) ((p.den:Int)*q.den):=by
 have hp:=den_pos p
 have hq:=den_pos q
 have h:=Rat.divInt_add_divInt p.num q.num (d₁:=p.den) (d₂:=q.den) (by omega) (by omega)
 rwa [divInt_self,divInt_self] at h
theorem mul_parts (p q:Rat):p*q=Rat.divInt (p.num*q.num) ((p.den:Int)*q.den):=by
 have h:=Rat.divInt_mul_divInt p.num q.num (d₁:=p.den) (d₂:=q.den)
 rwa [divInt_self,divInt_self] at h
theorem div_parts' (p q:Rat):p/q=Rat.divInt (p.num*q.den) ((p.den:Int)*q.num):=by
 rw[Rat.div_def,← divInt_self p,← divInt_self q,Rat.inv_divInt,Rat.divInt_mul_divInt,divInt_self,divInt_self]
theorem sub_rev {p q:Rat} (hf:Fits (p.num*q.den-q.num*p.den)) (hd:Fits ((p.den:Int)*q.den)):RFits (p-q):=by
 rw[sub_parts]
 have hp:=den_pos p
 have hq:=den_pos q
 exact divInt_fits hf hd (by have:=Int.mul_pos hp hq;omega)
theorem sumD_cases (p q:Rat):sumD (fun x y=>x-y) p q=errR∨(sumD (fun x y=>x-y) p q=.tup [dR (p-q),.i .i64 0]∧RFits (p-q)):=by
 unfold sumD
 split
 ·unfold two
  split
  ·rename_i h
   right
   have hp:=den_pos p
   have hq:=den_pos q
   have h0:¬ (p.den:Int)*q.den=0:=by have:=Int.mul_pos hp hq;omega
   refine⟨?_,sub_rev h.1 h.2⟩
   unfold makeD
   rw[if_neg h0,sub_parts]
  ·exact .inl rfl
 ·exact .inl rfl
theorem rdI_down (x:Int) {y:Int} (hy:0<y):rdI false x y*y≤x∧x<(rdI false x y+1)*y:=by
 have h1:=Int.mul_ediv_add_emod x y
 have h2:=Int.emod_nonneg x (show y≠0 by omega)
 have h3:=Int.emod_lt_of_pos x hy
 have h4:rdI false x y=x/y:=by simp[rdI]
 rw[h4,Int.add_mul,Int.one_mul,Int.mul_comm (x/y) y]
 omega
theorem rdI_up (x:Int) {y:Int} (hy:0<y):x≤rdI true x y*y∧(rdI true x y-1)*y<x:=by
 have h1:=Int.mul_ediv_add_emod x y
 have h2:=Int.emod_nonneg x (show y≠0 by omega)
 have h3:=Int.emod_lt_of_pos x hy
 unfold rdI
 split
 ·rename_i h
  rw[Int.add_mul,Int.one_mul,Int.add_sub_cancel,Int.mul_comm (x/y) y]
  have h4:=h.2
  omega
 ·rename_i h
  have h4:x%y=0:=by
   by_cases h0:x%y=0
   ·exact h0
   ·exact absurd ⟨rfl,h0⟩ h
  rw[Int.sub_mul,Int.one_mul,Int.mul_comm (x/y) y]
  omega
theorem rdI_exact (up:Bool) (a:Int) {y:Int} (hy:0<y):rdI up (a*y) y=a:=by
 unfold rdI
 rw[Int.mul_emod_left,Int.mul_ediv_cancel a (by omega)]
 simp
theorem rdI_abs (up:Bool) (x:Int) {y:Int} (hy:0<y):(rdI up x y).natAbs≤x.natAbs+1:=by
 have h1:=Int.natAbs_ediv_le_natAbs x y
 unfold rdI
 split<;>omega
def tenP (n:Int):Int:=((10 ^ n.toNat:Nat):Int)
theorem tenP_pos (n:Int):0<tenP n:=by
 have:0<10 ^ n.toNat:=Nat.pow_pos (by omega)
 unfold tenP;omega
def rdQ (up:Bool) (n:Int) (q:Rat):Rat:=Rat.divInt (rdI up (q.num*tenP n) q.den) (tenP n)
theorem rdD_eq (up:Bool) {n:Int} (h0:0≤n) (h30:n≤30) {q:Rat} (hf:Fits (q.num*tenP n)):rdD up n q=.tup [dR (rdQ up n q),.i .i64 0]:=by
 have hT:=tenP_pos n
 have h1:¬ tenP n=0:=by omega
 unfold rdD
 rw[if_pos ⟨h0,h30⟩]
 simp only[tenP] at hf h1
 rw[if_pos hf,makeD,if_neg h1]
 rfl
theorem rdQ_down (n:Int) (q:Rat):rdQ false n q≤q∧q-rdQ false n q<Rat.divInt 1 (tenP n):=by
 have hT:=tenP_pos n
 have hq:=den_pos q
 obtain⟨h1,h2⟩:=rdI_down (q.num*tenP n) hq
 refine⟨(divInt_le' hT).2 h1,?_⟩
 unfold rdQ
 generalize rdI false (q.num*tenP n) q.den=a at h1 h2
 have h3:q<Rat.divInt (a+1) (tenP n):=by
  rw[← Rat.not_le,divInt_le' hT];omega
 have h4:Rat.divInt (a+1) (tenP n)=Rat.divInt a (tenP n)+Rat.divInt 1 (tenP n):=by
  rw[Rat.divInt_eq_div,Rat.divInt_eq_div,Rat.divInt_eq_div]
  have:((a+1:Int):Rat)=(a:Rat)+1:=by simp
  rw[this];grind
 grind
theorem rdQ_up (n:Int) (q:Rat):q≤rdQ true n q∧rdQ true n q-q<Rat.divInt 1 (tenP n):=by
 have hT:=tenP_pos n
 have hq:=den_pos q
 obtain⟨h1,h2⟩:=rdI_up (q.num*tenP n) hq
 refine⟨(le_divInt hT).2 h1,?_⟩
 unfold rdQ
 generalize rdI true (q.num*tenP n) q.den=a at h1 h2
 have h3:Rat.divInt (a-1) (tenP n)<q:=by
  rw[← Rat.not_le,le_divInt hT];omega
 have h4:Rat.divInt (a-1) (tenP n)=Rat.divInt a (tenP n)-Rat.divInt 1 (tenP n):=by
  rw[Rat.divInt_eq_div,Rat.divInt_eq_div,Rat.divInt_eq_div]
  have:((a-1:Int):Rat)=(a:Rat)-1:=by simp
  rw[this];grind
 grind
theorem rdQ_again (up up':Bool) (n:Int) (q:Rat):rdQ up n (rdQ up' n q)=rdQ up' n q:=by
 have hT:=tenP_pos n
 unfold rdQ
 generalize rdI up' (q.num*tenP n) q.den=a
 generalize hr:Rat.divInt a (tenP n)=r
 have hrd:=den_pos r
 have h1:r.num*tenP n=a*r.den:=by
  rw[← divInt_self r] at hr
  exact((Rat.divInt_eq_divInt_iff (by omega) (by omega)).1 hr).symm
 rw[h1,rdI_exact up a hrd,hr]
theorem divInt_abs (a:Int) {T:Int} (hT:0<T):(Rat.divInt a T).num.natAbs≤a.natAbs∧((Rat.divInt a T).den:Int)≤T:=by
 obtain⟨p1,p2⟩:=divInt_parts a T hT
 refine⟨?_,?_⟩
 ·rw[p1];exact Int.natAbs_ediv_le_natAbs _ _
 ·rw[p2];exact Int.ediv_le_self _ (by omega)
def Sh (q:Rat):Prop:=q.num.natAbs<10 ^ 100∧q.den<10 ^ 100
theorem Sh.fits {q:Rat} (h:Sh q):RFits q:=by
 obtain⟨h1,h2⟩:=h
 unfold RFits Fits
 have:(10:Nat) ^ 100≤10 ^ 200:=Nat.pow_le_pow_right (by omega) (by omega)
 refine⟨by omega,by simp<;>omega⟩
theorem tenP_le {n:Int} (h30:n≤30):(tenP n).natAbs≤10 ^ 30:=by
 unfold tenP
 simp only[Int.natAbs_natCast]
 exact Nat.pow_le_pow_right (by omega) (by omega)
theorem Sh.mulT {q:Rat} (h:Sh q) {n:Int} (h30:n≤30):(q.num*tenP n).natAbs<10 ^ 130:=by
 rw[Int.natAbs_mul]
 have h1:=tenP_le h30
 have h2:0<(tenP n).natAbs:=by have:=tenP_pos n;omega
 calc q.num.natAbs*(tenP n).natAbs<10 ^ 100*(tenP n).natAbs:=Nat.mul_lt_mul_of_pos_right h.1 h2
  _≤10 ^ 100*10 ^ 30:=Nat.mul_le_mul_left _ h1
  _=10 ^ 130:=by rw[← Nat.pow_add]
theorem Sh.fitT {q:Rat} (h:Sh q) {n:Int} (h30:n≤30):Fits (q.num*tenP n):=by
 have:=h.mulT h30
 unfold Fits
 have:(10:Nat) ^ 130≤10 ^ 200:=Nat.pow_le_pow_right (by omega) (by omega)
 omega
theorem Sh.rd {q:Rat} (h:Sh q) (up:Bool) {n:Int} (h30:n≤30):RFits (rdQ up n q)∧Fits ((rdQ up n q).num*tenP n):=by
 have h1:=h.mulT h30
 have hT:=tenP_pos n
 have h2:=rdI_abs up (q.num*tenP n) (den_pos q)
 obtain⟨h3,h4⟩:=divInt_abs (rdI up (q.num*tenP n) q.den) hT
 have h5:=tenP_le h30
 have h6:(rdQ up n q).num.natAbs≤10 ^ 130:=by unfold rdQ;omega
 have h7:(rdQ up n q).den≤10 ^ 30:=by unfold rdQ;omega
 have e1:(10:Nat) ^ 130<10 ^ 200:=Nat.pow_lt_pow_right (by omega) (by omega)
 have e2:(10:Nat) ^ 30<10 ^ 200:=Nat.pow_lt_pow_right (by omega) (by omega)
 refine⟨⟨by unfold Fits;omega,by unfold Fits;simp<;>omega⟩,?_⟩
 unfold Fits
 rw[Int.natAbs_mul]
 calc (rdQ up n q).num.natAbs*(tenP n).natAbs≤10 ^ 130*10 ^ 30:=Nat.mul_le_mul h6 h5
  _=10 ^ 160:=by rw[← Nat.pow_add]
  _<10 ^ 200:=Nat.pow_lt_pow_right (by omega) (by omega)
theorem wr8 {n:Int} (h1:0≤n) (h2:n<256):IntKind.u8.wrap n=n:=by
 unfold IntKind.wrap;simp[IntKind.bits,IntKind.signed];omega
theorem wrl:IntKind.i64.wrap 0=0∧IntKind.i64.wrap 1=1∧IntKind.i64.wrap 2=2∧IntKind.i64.wrap 3=3:=⟨wr64 (by omega) (by omega),wr64 (by omega) (by omega),wr64 (by omega) (by omega),wr64 (by omega) (by omega)⟩
theorem pickI_range (x:Int) {n:Int} (h:0<n):0≤pickI x n∧pickI x n<n:=⟨Int.emod_nonneg _ (by omega),Int.emod_lt_of_pos _ h⟩
end
section
open Go Num
noncomputable def rootHi (T:Int) (q:Rat):Int:=if rootE T q=true then rootM T q else rootM T q+1
open Classical in
noncomputable def sqrtO (n:Int) (p q:Rat):Option D:=if (0≤n∧n≤30)∧0≤cmpQ p 0∧(Fits (p.num*tenP n)∧Fits (p.num*tenP n*tenP n))∧(Fits (q.num*tenP n)∧Fits (q.num*tenP n*tenP n)) then
 some (dI4 (Rat.divInt (rootM (tenP n) p) (tenP n)) (Rat.divInt (rootHi (tenP n) q) (tenP n))) else none
theorem tenP_fits {n:Int} (h30:n≤30):Fits (tenP n):=fits_pow10 (by omega)
theorem rootM_fits {T:Int}{q:Rat} (h0:0≤q.num) (hq:RFits q) (f:Fits (q.num*T*T)):Fits (rootM T q)∧Fits (rootM T q+1):=by
 obtain⟨s0,s1,_⟩:=rootM_sq (T:=T) h0
 have hd:¬ (q.den:Int)=0:=by have:=q.den_pos;omega
 have fk:Fits (q.num*T*T/q.den):=(ediv_fits f hq.2 hd).1
 generalize rootM T q=m at *
 generalize q.num*T*T/q.den=k at *
 have two:Fits 2:=by
  unfold Fits
  exact Nat.lt_of_lt_of_le (show (2:Int).natAbs<10 ^ 1 by decide) (Nat.pow_le_pow_right (by omega) (by omega))
 by_cases h2:m<2
 ·exact⟨fits_le two s0 (by omega),fits_le two (by omega) (by omega)⟩
 ·have:=Int.mul_le_mul_of_nonneg_right (show 2≤m by omega) s0
  exact⟨fits_le fk s0 (by omega),fits_le fk (by omega) (by omega)⟩
theorem nonneg_of_cmp {p:Rat} (h:0≤cmpQ p 0):0≤p.num:=by
 have:¬ cmpQ p 0<0:=by omega
 rw[cmpQ_lt,Rat.not_lt] at this
 exact Rat.num_nonneg.2 this
set_option maxHeartbeats 4000000 in
theorem sqrt1_ok {h:Hp}{i j:Nat}{o:EO}{n:Int}{p q:Rat} (hn:I64 n) (f1:RFits p) (f2:RFits q) (hpq:cmpQ p q≤0) (hG:Glb h) (hE:ErrAt h o) (hi:hget h i=some (.box 3 [.d (.i .i64 n)])) (hj:hget h j=some (.box 29 [.d (.s (txt p.num)),.d (.s (txt p.den)),.d (.s (txt q.num)),.d (.s (txt q.den))])) :
 callV cS false (.fn 65 [] [.p i 0,.p j 0]) [] h=endW o h (sqrtO n p q):=by
 rw[callV_fnV (sf:=c65) rfl rfl rfl rfl]
 have hil:=hget_lt' hi
 have hjl:=hget_lt' hj
 have ni:¬ i=h.length:=by omega
 have nj:¬ j=h.length:=by omega
 have nj2:¬ j=h.length+1:=by omega
 obtain⟨B1,hB1⟩:∃ B1:Ob,B1=.box 29 [.d (.s []),.d (.s []),.d (.s []),.d (.s [])]:=⟨_,rfl⟩
 have hG0:Glb (B1::h):=hG.cons _
 have hE0:ErrAt (B1::h) o:=hE.cons _
 have hf0:=fin_pan (h:=h) (h':=B1::h) (v:=eV o) (by simp[eV,vlt,hE.2]) (by simp) (by rw[HOk_cons' (Nat.le_refl _)];exact HOk.refl h)
 rw[trunc_cons' (Nat.le_refl _),trunc_self] at hf0
 by_cases hr:0≤n∧n≤30
 ·have g1:=grid_ok n hr.1 hr.2 (B1::h)
  have hT:((10 ^ n.toNat:Nat):Int)=tenP n:=rfl
  rw[hT] at g1
  have fT:=tenP_fits hr.2
  have hTp:=tenP_pos n
  obtain⟨B2,hB2⟩:∃ B2:Ob,B2=.box 85 [.d (.i .i64 n),.d (.s (txt (tenP n)))]:=⟨_,rfl⟩
  have hG2:Glb (B2::B1::h):=hG0.cons _
  have hE2:ErrAt (B2::B1::h) o:=hE0.cons _
  have hf:=fin_pan (h:=h) (h':=B2::B1::h) (v:=eV o) (by simp[eV,vlt,hE.2]) (by simp<;>omega) (by rw[HOk_cons' (by simp),HOk_cons' (Nat.le_refl _)];exact HOk.refl h)
  rw[trunc_cons' (by simp),trunc_cons' (Nat.le_refl _),trunc_self] at hf
  have hz:=zero_ok (B2::B1::h)
  have hc:=RCompare_ok (txt p.num) (txt p.den) [48] [49] _ hG2
  have hcq:opQ (fun p q=>.i .i64 (cmpQ p q)) (.i .i64 0) (txt p.num) (txt p.den) [48] [49]=.i .i64 (cmpQ p 0):=by simp[opQ,RQ_txt f1,RQ_zero]
  rw[hcq] at hc
  have hkt:=check_true (B2::B1::h)
  have hkf:=check_false hE2
  by_cases hp:0≤cmpQ p 0
  ·have p0:=nonneg_of_cmp hp
   have q0:0≤q.num:=by
    have h1:(0:Rat)≤p:=Rat.num_nonneg.1 p0
    exact Rat.num_nonneg.2 (Rat.le_trans h1 (cmpQ_le.1 hpq))
   have r1:=root1_ok n fT f1 p0 hG2 hE2
   have r2:=root1_ok n fT f2 q0 hG2 hE2
   by_cases k1:Fits (p.num*tenP n)∧Fits (p.num*tenP n*tenP n)
   ·have r1':rootO (tenP n) p=some (rootM (tenP n) p,rootE (tenP n) p):=by unfold rootO;rw[if_pos k1]
    rw[r1'] at r1
    by_cases k2:Fits (q.num*tenP n)∧Fits (q.num*tenP n*tenP n)
    ·have r2':rootO (tenP n) q=some (rootM (tenP n) q,rootE (tenP n) q):=by unfold rootO;rw[if_pos k2]
     rw[r2'] at r2
     have ho:sqrtO n p q=some (dI4 (Rat.divInt (rootM (tenP n) p) (tenP n)) (Rat.divInt (rootHi (tenP n) q) (tenP n))):=by unfold sqrtO;rw[if_pos ⟨hr,hp,k1,k2⟩]
     rw[ho]
     simp only[rootHi]
     have fm:=(rootM_fits p0 f1 k1.2).1
     obtain⟨fh,fh1⟩:=rootM_fits q0 f2 k2.2
     have ad:=Add_ok (txt (rootM (tenP n) q)) [49] _ hG2
     rw[opI_some (ival_txt fh) ival_one,fitD_of fh1] at ad
     have as1:=mustS_ok (txt (rootM (tenP n) q+1)) (B2::B1::h)
     have mk:∀ z,Fits z→callV cS false (fnV 72) [.d (.s (txt z)),.d (.s (txt (tenP n)))] (B2::B1::h)=some (.val (.d (.tup [.agg [.s (txt (Rat.divInt z (tenP n)).num),.s (txt (Rat.divInt z (tenP n)).den)],.i .i64 0])),B2::B1::h):=by
      intro z fz
      have:=RMake_ok (txt z) (txt (tenP n)) _ hG2
      rw[opI_txt fz fT,makeD,if_neg (by omega)] at this
      exact this
     have mk1:=mk _ fm
     have mk2:=mk _ fh
     have mk3:=mk _ fh1
     have mu:=fun z=>must_ok (txt (Rat.divInt z (tenP n)).num) (txt (Rat.divInt z (tenP n)).den) (B2::B1::h)
     clear mk
     simp only[dI4]
     generalize rootM (tenP n) p=m at *
     generalize rootM (tenP n) q=m2 at *
     cases hx:rootE (tenP n) q with
     | true =>
       rw[hx] at r2
       generalize tenP n=T at *
       subst hB1 hB2
       simp only[endW]
       simp[c65,b65,put,eset,eget,D.cells,V.cells,allD,hget,hset,fz,zC,zN,hi,hj,ni,nj,nj2,g1,hz,hc,hp,hkt,r1,r2,mk1,mk2,mu]
     | false =>
       rw[hx] at r2
       generalize tenP n=T at *
       subst hB1 hB2
       simp only[endW]
       simp[c65,b65,put,eset,eget,D.cells,V.cells,allD,hget,hset,fz,zC,zN,hi,hj,ni,nj,nj2,g1,hz,hc,hp,hkt,r1,r2,ad,as1,mk1,mk3,mu]
    ·have r2':rootO (tenP n) q=none:=by unfold rootO;rw[if_neg k2]
     rw[r2'] at r2
     have ho:sqrtO n p q=none:=by unfold sqrtO;rw[if_neg (fun h=>k2 h.2.2.2)]
     rw[ho]
     generalize rootM (tenP n) p=m at *
     generalize rootE (tenP n) p=ex at *
     generalize tenP n=T at *
     subst hB1 hB2
     simp only[endW,eV] at *
     simp[c65,b65,put,eset,eget,D.cells,V.cells,allD,hget,hset,fz,zC,zN,hi,hj,ni,nj,nj2,g1,hz,hc,hp,hkt,r1,r2,hf]
   ·have r1':rootO (tenP n) p=none:=by unfold rootO;rw[if_neg k1]
    rw[r1'] at r1
    have ho:sqrtO n p q=none:=by unfold sqrtO;rw[if_neg (fun h=>k1 h.2.2.1)]
    rw[ho]
    generalize tenP n=T at *
    subst hB1 hB2
    simp only[endW,eV] at *
    simp[c65,b65,put,eset,eget,D.cells,V.cells,allD,hget,hset,fz,zC,zN,hi,hj,ni,nj,nj2,g1,hz,hc,hp,hkt,r1,hf]
  ·have ho:sqrtO n p q=none:=by unfold sqrtO;rw[if_neg (fun h=>hp h.2.1)]
   rw[ho]
   generalize tenP n=T at *
   subst hB1 hB2
   simp only[endW,eV] at *
   simp[c65,b65,put,eset,eget,D.cells,V.cells,allD,hget,hset,fz,zC,zN,hi,hj,ni,nj,nj2,g1,hz,hc,hp,hkf,hf]
 ·have g1:=grid_fail n (by omega) hE0
  have ho:sqrtO n p q=none:=by unfold sqrtO;rw[if_neg (fun h=>hr h.1)]
  rw[ho]
  subst hB1
  simp only[endW,eV] at *
  simp[c65,b65,put,eset,eget,D.cells,V.cells,allD,hget,hset,fz,zC,zN,hi,hj,ni,nj,g1,hf0]
noncomputable def sqrtX (n:Int) (x:IV):Option D:=match VQ x.a x.b x.c x.d with
 | some (p,q)=>sqrtO n p q
 | none=>none
theorem sqrtX_form (n:Int) (x:IV):∀ z,sqrtX n x=some z→∃ s t u v,z=.agg [.s s,.s t,.s u,.s v]:=by
 intro z hz
 unfold sqrtX sqrtO dI4 at hz
 split at hz
 ·split at hz
  ·cases hz;exact⟨_,_,_,_,rfl⟩
  ·cases hz
 ·cases hz
theorem ESqrt_ok (x:IV) (n:Int) (hn:I64 n) {H:Hp}{o:EO} (hG:Glb H) (hE:ErrAt H o):callV cS false (fnV 22) [.d x.D,.d (.i .i64 n)] H=some (.val (.d (workD [x] (sqrtX n x))),H):=by
 rw[callV_fn (sf:=c22) rfl rfl rfl rfl]
 obtain⟨H1,hH1⟩:∃ H1:Hp,H1=.box 29 [.d (.s []),.d (.s []),.d (.s []),.d (.s [])]::.box 3 [.d (.i .i64 n)]::.box 29 [.d (.s x.a),.d (.s x.b),.d (.s x.c),.d (.s x.d)]::H:=⟨_,rfl⟩
 have hG1:Glb H1:=by rw[hH1];exact((hG.cons _).cons _).cons _
 have hE1:ErrAt H1 o:=by rw[hH1];exact((hE.cons _).cons _).cons _
 have hcomp:=compute_work (F:=.fn 65 [] [.p (H.length+1) 0,.p H.length 0]) (l:=[x]) (by simp) hG1 hE1 (by simp) (sqrtX_form n x) (by
  intro ha
  simp only[List.all_cons,List.all_nil,Bool.and_true] at ha
  obtain⟨p1,q1,f1,f2,hpq,hv1,a1,a2,a3,a4⟩:=IV.ends ha
  have hm:sqrtX n x=sqrtO n p1 q1:=by simp only[sqrtX,hv1]
  rw[hm]
  exact sqrt1_ok (h:=cbH H1 zI 0) (i:=H.length+1) (j:=H.length) hn f1 f2 hpq ((hG1.cons _).cons _) ((hE1.cons _).cons _) (by rw[hH1];simp[cbH,hget,put,eset,eget,D.cells,V.cells,allD,hget,hset,fz,zC,zN]) (by rw[hH1,← a1,← a2,← a3,← a4];simp[cbH,hget,put,eset,eget,D.cells,V.cells,allD,hget,hset,fz,zC,zN]))
 obtain⟨s,t,u,v,e,he⟩:=workD_form (l:=[x]) (sqrtX_form n x)
 rw[he] at hcomp ⊢
 rw[hH1] at hcomp
 simp only[List.map_cons,List.map_nil,IV.D] at hcomp
 simp[c22,b22,put,eset,eget,D.cells,V.cells,allD,hget,hset,fz,zC,zN,IV.D,hcomp,setParts,chunk1,allCellsD]
end
section
open Go Num
def qV (p q:Rat):IV:=⟨txt p.num,txt p.den,txt q.num,txt q.den⟩
theorem qV_D (p q:Rat):(qV p q).D=dI4 p q:=rfl
theorem VQ_qV {p q:Rat} (hp:RFits p) (hq:RFits q) (h:p≤q):VQ (qV p q).a (qV p q).b (qV p q).c (qV p q).d=some (p,q):=by
 unfold VQ
 simp only[qV,RQ_txt hp,RQ_txt hq]
 rw[if_pos (cmpQ_le.2 h)]
theorem VQ_qV' {p q:Rat} (hp:RFits p) (hq:RFits q) (h:q<p):VQ (qV p q).a (qV p q).b (qV p q).c (qV p q).d=none:=by
 unfold VQ
 simp only[qV,RQ_txt hp,RQ_txt hq]
 rw[if_neg (fun k=>Rat.not_lt.2 (cmpQ_le.1 k) h)]
theorem qV_ok {p q:Rat} (hp:RFits p) (hq:RFits q) (h:p≤q):(qV p q).ok=true:=by
 show (VQ (qV p q).a (qV p q).b (qV p q).c (qV p q).d).isSome=true
 rw[VQ_qV hp hq h];rfl
theorem workD_one {x:IV}{z:D} (h:x.ok=true):workD [x] (some z)=.tup [z,.i .i64 0]:=by unfold workD;rw[if_pos (by simp[h])]
theorem workD_two {x y:IV}{z:D} (h:x.ok=true) (k:y.ok=true):workD [x,y] (some z)=.tup [z,.i .i64 0]:=by unfold workD;rw[if_pos (by simp[h,k])]
theorem workD_none (l:List IV):workD l none=errV:=by unfold workD;split<;>rfl
theorem inB_qV {p q r:Rat} (hp:RFits p) (hq:RFits q) (hr:RFits r) (h:p≤q):inB (qV p q) (txt r.num) (txt r.den)=(decide (p≤r)&&decide (r≤q)):=by
 unfold inB
 simp only[VQ_qV hp hq h,RQ_txt hr]
 rw[decide_eq_decide.2 cmpQ_le,decide_eq_decide.2 cmpQ_le]
theorem span_ok (lo hi:Int) (hl:I64 lo) (hh:I64 hi) (H:Hp):callV cS false (fnV 42) [.d (.i .i64 lo),.d (.i .i64 hi)] H=some (.val (.d (dI4 (Rat.divInt lo 1) (Rat.divInt hi 1))),H):=by
 rw[callV_fn (sf:=c42) rfl rfl rfl rfl]
 have r1:=ratio_ok lo 1 hl (by unfold I64;omega)
 have r2:=ratio_ok hi 1 hh (by unfold I64;omega)
 simp only[ratioD,dR,dI4] at *
 rw[if_neg (by omega)] at r1 r2
 generalize Rat.divInt lo 1=p at *
 generalize Rat.divInt hi 1=q at *
 simp[c42,b42,put,eset,eget,D.cells,V.cells,allD,hget,hset,fz,zC,zN,r1,r2,setParts,chunk1,allCellsD]
theorem small_fits {z:Int} (h:z.natAbs<10 ^ 9):Fits z:=by
 unfold Fits
 exact Nat.lt_of_lt_of_le h (Nat.pow_le_pow_right (by omega) (by omega))
def Sm (q:Rat):Bool:=decide (q.num.natAbs<10 ^ 9)&&decide (q.den<10 ^ 9)
theorem Sm.fits {q:Rat} (h:Sm q=true):RFits q:=by
 simp only[Sm,Bool.and_eq_true,decide_eq_true_eq] at h
 exact⟨small_fits h.1,small_fits (by simp;exact h.2)⟩
theorem twoQ_eq {x y:Int}{r:Rat} (hx:x.natAbs<10 ^ 9) (hy:y.natAbs<10 ^ 9) (h0:y≠0) (hr:Rat.divInt x y=r):twoQ x y=some r:=by
 unfold twoQ
 rw[if_pos ⟨small_fits hx,small_fits hy,h0⟩,hr]
end
section
open Go Num
theorem ex_mul:mulX (qV (-2) 3) (qV (-5) 1)=some (dI4 (-15) 10):=by
 unfold mulX
 rw[VQ_qV (Sm.fits (by decide +kernel)) (Sm.fits (by decide +kernel)) (by decide +kernel),VQ_qV (Sm.fits (by decide +kernel)) (Sm.fits (by decide +kernel)) (by decide +kernel)]
 simp only[endsO]
 rw[twoQ_eq (r:=10) (by decide +kernel) (by decide +kernel) (by decide +kernel) (by decide +kernel),twoQ_eq (r:=-2) (by decide +kernel) (by decide +kernel) (by decide +kernel) (by decide +kernel),twoQ_eq (r:=-15) (by decide +kernel) (by decide +kernel) (by decide +kernel) (by decide +kernel),twoQ_eq (r:=3) (by decide +kernel) (by decide +kernel) (by decide +kernel) (by decide +kernel)]
 kernel_rfl
theorem ex_div1:divX (qV 1 2) (qV (-1) 4)=none:=by
 unfold divX
 rw[VQ_qV (Sm.fits (by decide +kernel)) (Sm.fits (by decide +kernel)) (by decide +kernel),VQ_qV (Sm.fits (by decide +kernel)) (Sm.fits (by decide +kernel)) (by decide +kernel)]
 simp only
 rw[if_pos (by decide +kernel)]
theorem ex_div2:divX (qV 1 2) (qV 2 4)=some (dI4 (1/4) 1):=by
 unfold divX
 rw[VQ_qV (Sm.fits (by decide +kernel)) (Sm.fits (by decide +kernel)) (by decide +kernel),VQ_qV (Sm.fits (by decide +kernel)) (Sm.fits (by decide +kernel)) (by decide +kernel)]
 simp only[endsO]
 rw[if_neg (by decide +kernel),twoQ_eq (r:=1/2) (by decide +kernel) (by decide +kernel) (by decide +kernel) (by decide +kernel),twoQ_eq (r:=1/4) (by decide +kernel) (by decide +kernel) (by decide +kernel) (by decide +kernel),twoQ_eq (r:=1) (by decide +kernel) (by decide +kernel) (by decide +kernel) (by decide +kernel),twoQ_eq (r:=1/2) (by decide +kernel) (by decide +kernel) (by decide +kernel) (by decide +kernel)]
 kernel_rfl
theorem ex_meet1:meetX (qV 1 2) (qV 2 5)=some (dI4 2 2):=by
 unfold meetX
 rw[VQ_qV (Sm.fits (by decide +kernel)) (Sm.fits (by decide +kernel)) (by decide +kernel),VQ_qV (Sm.fits (by decide +kernel)) (Sm.fits (by decide +kernel)) (by decide +kernel)]
 simp only[meetO]
 rw[if_pos (by decide +kernel)]
 kernel_rfl
theorem ex_meet2:meetX (qV 1 2) (qV 3 5)=none:=by
 unfold meetX
 rw[VQ_qV (Sm.fits (by decide +kernel)) (Sm.fits (by decide +kernel)) (by decide +kernel),VQ_qV (Sm.fits (by decide +kernel)) (Sm.fits (by decide +kernel)) (by decide +kernel)]
 simp only[meetO]
 rw[if_neg (by decide +kernel)]
theorem isqrt_eq {n r:Nat} (h:IsRoot n r):isqrt n=r:=(isqrt_spec n).unique h
theorem ex_sqrt:sqrtX 1 (qV 2 3)=some (dI4 (7/5) (9/5)):=by
 unfold sqrtX
 rw[VQ_qV (Sm.fits (by decide +kernel)) (Sm.fits (by decide +kernel)) (by decide +kernel)]
 have t:tenP 1=10:=by decide +kernel
 simp only[sqrtO,t]
 rw[if_pos ⟨by decide +kernel,by decide +kernel,⟨small_fits (by decide +kernel),small_fits (by decide +kernel)⟩,⟨small_fits (by decide +kernel),small_fits (by decide +kernel)⟩⟩]
 have m1:rootM 10 2=14:=by
  unfold rootM
  rw[show (((2:Rat).num*10*10/((2:Rat).den:Int)).natAbs)=200 by decide +kernel,isqrt_eq (r:=14) ⟨by decide +kernel,by decide +kernel⟩]
  rfl
 have m2:rootM 10 3=17:=by
  unfold rootM
  rw[show (((3:Rat).num*10*10/((3:Rat).den:Int)).natAbs)=300 by decide +kernel,isqrt_eq (r:=17) ⟨by decide +kernel,by decide +kernel⟩]
  rfl
 have m3:rootHi 10 3=18:=by
  unfold rootHi rootE
  rw[m2]
  decide +kernel
 have e1:Rat.divInt 14 10=7/5:=by decide +kernel
 have e2:Rat.divInt 18 10=9/5:=by decide +kernel
 rw[m1,m3,e1,e2]
theorem ex_round:pairD (opQ1 (rdD false 1) errR (qV (1/3) (2/3)).a (qV (1/3) (2/3)).b) (opQ1 (rdD true 1) errR (qV (1/3) (2/3)).c (qV (1/3) (2/3)).d)=some (dI4 (3/10) (7/10)):=by
 simp only[qV,opQ1]
 rw[RQ_txt (Sm.fits (by decide +kernel)),RQ_txt (Sm.fits (by decide +kernel))]
 simp only
 rw[rdD_eq false (by decide +kernel) (by decide +kernel) (small_fits (by decide +kernel)),rdD_eq true (by decide +kernel) (by decide +kernel) (small_fits (by decide +kernel))]
 kernel_rfl
theorem ex_width:oneD (opQ (sumD fun x y=>x-y) errR (qV (-1) 4).c (qV (-1) 4).d (qV (-1) 4).a (qV (-1) 4).b)=some (dR 5):=by
 simp only[qV,opQ]
 rw[RQ_txt (Sm.fits (by decide +kernel)),RQ_txt (Sm.fits (by decide +kernel))]
 simp only[sumD]
 rw[if_pos ⟨small_fits (by decide +kernel),small_fits (by decide +kernel)⟩,two,if_pos ⟨small_fits (by decide +kernel),small_fits (by decide +kernel)⟩,makeD,if_neg (by decide +kernel)]
 kernel_rfl
end
section
open Go Num
def nthC:Nat→C→C
 | 0,.seq a _=>a
 | n+1,.seq _ b=>nthC n b
 | _,c=>c
theorem hget_up {h h':Hp}{x:Ob}{i:Nat}{y:Ob} (hh:h'=x::h) (hg:hget h i=some y):hget h' i=some y:=by
 have:=hget_lt' hg
 rw[hh];unfold hget;rw[if_neg (by omega)];exact hg
theorem hget_top {h h':Hp}{x:Ob} (hh:h'=x::h):hget h' h.length=some x:=by rw[hh];unfold hget;rw[if_pos rfl]
def tlC:Nat→C→C
 | 0,c=>c
 | n+1,.seq _ b=>tlC n b
 | _,c=>c
def unB:C→C
 | .block _ c=>c
 | c=>c
theorem hget_app:∀ (L:Hp) {H:Hp}{i:Nat}{y:Ob},hget H i=some y→hget (L++H) i=some y
 | [],_,_,_,h=>h
 | x::L,_,_,_,h=>hget_up rfl (hget_app L h)
theorem glb_app:∀ (L:Hp) {H:Hp},Glb H→Glb (L++H)
 | [],_,h=>h
 | x::L,_,h=>(glb_app L h).cons x
noncomputable def evP (call:CallF) (keep:List Nat):List DI→En→Hp→Option (Ex×En×Hp)
 | [],e,h=>some (.nor,ekeep keep e,h)
 | d::ds,e,h=>match evG call d.so e h with
   | some (.val v,h')=>open Classical in if h'=h then evP call keep ds (put e d.so.dst v) h else none
   | _=>none
theorem evD_P {call:CallF}{keep:List Nat}:∀ {ds past:List DI}{e:En}{h:Hp}{r:Ex×En×Hp},evP call keep ds e h=some r→evD call keep past ds e h=some r
 | [],_,_,_,_,hr=>hr
 | d::ds,past,e,h,r,hr=>by
   rw[evP] at hr
   rw[evD]
   split at hr
   ·rename_i v h' he
    rw[he]
    by_cases hh:h'=h
    ·rw[if_pos hh] at hr
     simp only
     rw[if_pos (.inl hh),hh]
     exact evD_P hr
    ·rw[if_neg hh] at hr;cases hr
   ·cases hr
theorem evI_drawP {ds:List DI}{keep:List Nat}{e:En}{h:Hp}{r:Ex×En×Hp} (hr:evP cS keep ds (kills ds e) h=some r):evI cS (.draw ds keep) none e h=some r:=by
 rw[evI_draw];exact evD_P hr
end
end Go.Proofs.YtmiioebapckcoaaGreatDoor
