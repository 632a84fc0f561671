/- Part 3 of a proof: the small semantics, its soundness, the functions of the program in it, and the law. -/
import Derived.Laws.Slices
import Derived.Laws.BytesString
import Derived.Test.YtmiioebapckcoaaGreatDoorJb
set_option linter.unusedVariables false
set_option linter.unusedSimpArgs false
namespace Go.Proofs.YtmiioebapckcoaaGreatDoor
section
open Go
section
variable {P:Program}{call:CallF}{X:Cx}{μ:Nat→Option Nat}{H:Hp}{w:World}{e:En}{act:Act}{K E:Value→World→Prop}
theorem up_v {s:Sem Value}{c:Value}{w':World} (h:s.run P w=.ok c w') (hk:K c w'):Up P K E ((do pure (Next.value (← s)):Sem Next).run P w):=by
 simp only[Sem.run_bind,h,Result.andThen_ok,Sem.run_pure];exact hk
theorem up_u {s:Sem Unit}{w':World} (h:s.run P w=.ok () w') (hk:K undef w'):Up P K E ((do s;pure Next.skip:Sem Next).run P w):=by
 simp only[Sem.run_bind,h,Result.andThen_ok,Sem.run_pure];exact hk
structure Fr (P:Program) (X:Cx) (μ:Nat→Option Nat) (H:Hp) (w:World) (e:En) (act:Act):Prop where
 hp:X.P=P
 inv:Inv X μ H w
 gl:Gl P.globals.size μ H
 env:HE (Own X μ H) μ H H.length w e act.tmps
theorem Fr.val (f:Fr P X μ H w e act) {x:Operand}{a:Ar} (h:trA P x=some a):HV (Own X μ H) μ H H.length w (aval e a) (act.eval x):=aval_ok h f.env f.gl (Nat.le_refl _)
theorem op_move (f:Fr P X μ H w e act) {x:Operand}{a:Ar} (h:trA P x=some a) (hKE:OpEnds X μ H w (.val (aval e a),H) K E):K (act.eval x) w:=hKE _ _ (St.here f.inv (f.val h))
theorem op_pick (f:Fr P X μ H w e act) {c x y:Operand}{c' x' y':Ar} (h1:trA P c=some c') (h2:trA P x=some x') (h3:trA P y=some y') {q:Re×Hp} (hq:evOp call (.pick c' x' y') e H=some q)
 (hKE : OpEnds X μ H w q K E) : Up P K E ((execOp act.eval { dst := none, op := .pick c x y, type := 0, pos := "", after := #[], guard := none }).run P w) := by
 simp only[evOp] at hq
 split at hq
 ·rename_i t ht
  have hc:=f.val h1
  rw[ht] at hc
  generalize hcv:act.eval c=cv at hc
  cases hc with
  | d _ _ hc =>
    cases hc with
    | b =>
      cases hq
      simp only[execOp,hcv,asBool,Sem.run_bind,Sem.run_pure,Result.andThen_ok]
      cases t
      ·exact hKE _ _ (St.here f.inv (f.val h3))
      ·exact hKE _ _ (St.here f.inv (f.val h2))
 ·cases hq
theorem HVs_of_HDs {O:Bs}{N:Nat}{ds:List D}{a:Array Value} (h:HDs O w ds a):HVs O μ H N w (ds.map .d) a:=HVs_d.2 h
theorem op_alloc (hi:Inv X μ H w) {t:TypeId}{z:List D} (h:zeroT P t=some z) (hKE:OpEnds X μ H w (.val (.p H.length 0),.box t (z.map .d)::H) K E) :
 Up P K E ((execOp act.eval { dst := none, op := .alloc t, type := 0, pos := "", after := #[], guard := none }).run P w) := by
 obtain⟨i,v,h1,h2,h3⟩:=zeroT_ok h
 obtain⟨g1,g2⟩:=push_box hi t (HVs_of_HDs (h3 (Own X μ H) w))
 refine up_v (c:=.pointer (some ⟨w.heap.size,0,none⟩)) (w':=w.alloc (.cells v.cells t)) (by simp[Instr.alloc,zeroValue,typeInfo,h1,h2,newVar,newRow]) ?_
 exact hKE _ _ ⟨_,g1,g2,.p _ _ _ (by simp) (upd_self ..) (by unfold isGr;rw[hget_cons_self];exact id)⟩
theorem trVs_nil {l:List Value}{ds:List D} (h:trVs trS l=some ds) {k:Nat} (hk:ds[k]? = some (.ls [])):l[k]? = some (.slice none 0 0):=by
 induction l generalizing ds k with
 | nil=>simp only[trVs] at h;cases h;simp at hk
 | cons v l ih =>
   simp only[trVs] at h
   split at h
   ·rename_i x xs h1 h2
    cases h
    cases k with
    | succ k=>simpa using ih h2 (by simpa using hk)
    | zero =>
      simp at hk;subst hk
      unfold trS at h1
      split at h1<;>cases h1<;>rfl
   ·cases h
theorem zeroT_nil {t:TypeId}{z:List D} (h:zeroT P t=some z) {k:Nat} (hk:z[k]? = some (.ls [])) {i:TypeInfo}{v:Value} (hi:P.info? t=some i) (hv:i.zero=some v):v.cells.getD k undef=.slice none 0 0:=by
 unfold zeroT at h
 rw[hi] at h;dsimp only at h;rw[hv] at h
 have:=trVs_nil h hk
 rw[Array.getD_eq_getD_getElem?]
 rw[Array.getElem?_toList] at this
 rw[this];rfl
theorem HVs_grow {X:Cx}{H1:Hp}{t:TypeId}{z:List D}{i:TypeInfo}{v:Value}{g:V} (h:zeroT P t=some z) {k:Nat} (hk:z[k]? = some (.ls [])) (h1:P.info? t=some i) (h2:i.zero=some v) (h3:∀ (O:Bs) (w:World),HDs O w z v.cells)
 (v1:HV (Own X μ H1) μ H1 H1.length w g (.slice none 0 0)):HVs (Own X μ H1) μ H1 H1.length w ((z.map .d).set k g) v.cells:=by
 have hb:=HVs_of_HDs (μ:=μ) (H:=H1) (N:=H1.length) (h3 (Own X μ H1) w)
 refine⟨by rw[hb.1];simp,fun j q hj=>?_⟩
 by_cases e:j=k
 ·subst e
  rw[zeroT_nil h hk h1 h2]
  have:j<(z.map V.d).length:=by
   have:=(List.getElem?_eq_some_iff.1 hk).1
   simpa using this
  rw[List.getElem?_set_self this] at hj
  cases hj
  exact v1
 ·rw[List.getElem?_set_ne (Ne.symm e)] at hj
  exact hb.2 j q hj
theorem op_allocG (hi:Inv X μ H w) {t:TypeId}{z:List D}{ty sz k:Nat} (h:zeroT P t=some z) (hk:z[k]? = some (.ls [])) (hsz:0<sz) (hKE:OpEnds X μ H w (.val (.p (H.length+1) 0),.box t ((z.map .d).set k (.gr H.length 0))::.gr ty sz []::H) K E) :
 Up P K E ((execOp act.eval { dst := none, op := .alloc t, type := 0, pos := "", after := #[], guard := none }).run P w) := by
 obtain⟨i,v,h1,h2,h3⟩:=zeroT_ok h
 obtain⟨μ1,i1,x1,v1⟩:=push_gr_nil (ty:=ty) hi hsz
 have hc:=HVs_grow (μ:=μ1) (w:=w) h hk h1 h2 h3 v1
 obtain⟨g1,g2⟩:=push_box i1 t hc
 refine up_v (c:=.pointer (some ⟨w.heap.size,0,none⟩)) (w':=w.alloc (.cells v.cells t)) (by simp[Instr.alloc,zeroValue,typeInfo,h1,h2,newVar,newRow]) ?_
 exact hKE _ _ ⟨_,g1,x1.trans g2,.p _ _ _ (by simp) (upd_self ..) (by unfold isGr;rw[show H.length+1=(Ob.gr ty sz []::H).length from rfl,hget_cons_self];exact id)⟩
theorem op_box (f:Fr P X μ H w e act) {t:TypeId}{x:Operand}{a:Ar} (h:trA P x=some a) {q:Re×Hp} (hq:evOp call (.box t a) e H=some q) (hKE:OpEnds X μ H w q K E) :
 Up P K E ((execOp act.eval { dst := none, op := .box t x, type := 0, pos := "", after := #[], guard := none }).run P w) := by
 have hx:=f.val h
 simp only[evOp] at hq
 have hu:aval e a≠.u:=by intro hu;rw[hu] at hq;cases hq
 have hq':q=(.val (.p H.length 0),.box t (aval e a).cells::H):=by
  split at hq
  ·cases hq
  ·cases hq;rfl
 subst hq'
 obtain⟨g1,g2⟩:=push_box f.inv t (HV_cells hu hx)
 refine up_v (c:=.pointer (some ⟨w.heap.size,0,none⟩)) (w':=w.alloc (.cells (act.eval x).cells t)) (by simp[Instr.box,newVar,newRow]) ?_
 exact hKE _ _ ⟨_,g1,g2,.p _ _ _ (by simp) (upd_self ..) (by unfold isGr;rw[hget_cons_self];exact id)⟩
theorem trParts_ok {ps:List (Nat×Operand)}{pl:Nat→Option (Nat×Nat)}{l:List (Nat×Nat×Ar)} (f:Fr P X μ H w e act) (h:trParts P ps pl=some l) :
 l.length=ps.length∧∀ (k:Nat) p q,(l.map fun (o,n,a)=>(o,n,aval e a))[k]? = some p→(ps.map fun (i,x)=>(i,act.eval x))[k]? = some q→pl q.1=some (p.1,p.2.1)∧HV (Own X μ H) μ H H.length w p.2.2 q.2:=by
 induction ps generalizing l with
 | nil=>simp[trParts] at h;subst h;simp
 | cons y ps ih =>
   obtain⟨i,x⟩:=y
   simp only[trParts] at h
   cases h1:pl i with
   | none=>rw[h1] at h;cases h
   | some on =>
     obtain⟨o,n⟩:=on
     cases h2:trA P x with
     | none=>rw[h1,h2] at h;cases h
     | some a =>
       cases h3:trParts P ps pl with
       | none=>rw[h1,h2,h3] at h;cases h
       | some l' =>
         rw[h1,h2,h3] at h;cases h
         obtain⟨g1,g2⟩:=ih h3
         refine⟨by simp[g1],fun k p q hp hq=>?_⟩
         cases k with
         | zero=>simp at hp hq;subst hp;subst hq;exact⟨h1,f.val h2⟩
         | succ k=>exact g2 k p q (by simpa using hp) (by simpa using hq)
theorem trParts1_ok {ps:List (Nat×Operand)}{l:List (Nat×Ar)} (f:Fr P X μ H w e act) (h:trParts1 P ps=some l) :
 l.length=ps.length∧∀ (k:Nat) p q,(l.map fun (i,a)=>(i,aval e a))[k]? = some p→(ps.map fun (i,x)=>(i,act.eval x))[k]? = some q→p.1=q.1∧HV (Own X μ H) μ H H.length w p.2 q.2:=by
 induction ps generalizing l with
 | nil=>simp[trParts1] at h;subst h;simp
 | cons y ps ih =>
   obtain⟨i,x⟩:=y
   simp only[trParts1] at h
   cases h2:trA P x with
   | none=>rw[h2] at h;cases h
   | some a =>
     cases h3:trParts1 P ps with
     | none=>rw[h2,h3] at h;cases h
     | some l' =>
       rw[h2,h3] at h;cases h
       obtain⟨g1,g2⟩:=ih h3
       refine⟨by simp[g1],fun k p q hp hq=>?_⟩
       cases k with
       | zero=>simp at hp hq;subst hp;subst hq;exact⟨rfl,f.val h2⟩
       | succ k=>exact g2 k p q (by simpa using hp) (by simpa using hq)
theorem run_sizes (fs:Array Field) (hfs:(fs.toList.all fun f=>(P.info? f.type).isSome)=true) :
 (fs.mapM (fun (f:Field)=>do pure (f.offset,← sizeOf f.type):Field→Sem (Nat×Nat))).run P w=.ok (fs.toList.map fun f=>(f.offset,P.cellsOf f.type)).toArray w:=by
 have key:∀ (l:List Field),(l.all fun f=>(P.info? f.type).isSome)=true→(l.mapM (fun (f:Field)=>do pure (f.offset,← sizeOf f.type):Field→Sem (Nat×Nat))).run P w=.ok (l.map fun f=>(f.offset,P.cellsOf f.type)) w:=by
  intro l hl
  induction l with
  | nil=>simp
  | cons f l ih =>
    simp only[List.all_cons,Bool.and_eq_true] at hl
    obtain⟨i,hi⟩:=Option.isSome_iff_exists.1 hl.1
    have h1:(sizeOf f.type).run P w=.ok (P.cellsOf f.type) w:=by simp[sizeOf,typeInfo,hi,Program.cellsOf]
    simp only[List.mapM_cons,Sem.run_bind,h1,Result.andThen_ok,Sem.run_pure,ih hl.2,List.map_cons]
 rw[Array.mapM_eq_mapM_toList,Sem.run_map,key _ hfs]
 rfl
theorem op_build (f:Fr P X μ H w e act) {t:TypeId}{parts:Array (Nat×Operand)}{m:Nat}{ty:TypeId}{so:SOp} (ht:trOp P m ty (.build t parts)=some so) {q:Re×Hp} (hq:evOp call so e H=some q)
 (hKE:OpEnds X μ H w q K E):∃ c,(Instr.build t (parts.map fun (i,x)=>(i,act.eval x))).run P w=.ok c w∧K c w:=by
 have hpl:(parts.map fun (i,x)=>(i,act.eval x)).toList=parts.toList.map fun (i,x)=>(i,act.eval x):=by simp
 simp only[trOp] at ht
 split at ht
 ·rename_i z fs hz hu
  split at ht
  ·rename_i ps hps
   split at ht
   ·rename_i hall
    obtain⟨inf,v,h1,h2,h3⟩:=zeroT_ok hz
    have hplace:∀ (p1 p2:Nat) (fld:Nat),(match fieldT P t fld with
     | some (o,ft)=>(sizeT P ft).map fun n=>(o,n)
     | none=>none)=some (p1,p2)→(fs.toList.map fun f=>(f.offset,P.cellsOf f.type)).toArray[fld]? = some (p1,p2):=by
     intro p1 p2 fld a1
     simp only[fieldT,hu] at a1
     cases hf:fs[fld]? with
     | none=>simp[hf] at a1
     | some fl =>
       simp only[hf,Option.map_eq_some_iff] at a1
       obtain⟨n,b1,b2⟩:=a1
       simp only[Prod.mk.injEq] at b2
       obtain⟨rfl,rfl⟩:=b2
       have:P.cellsOf fl.type=n:=by unfold sizeT at b1;unfold Program.cellsOf;rw[b1];rfl
       simp[hf,this]
    split at ht
    ·split at ht
     ·rename_i k el n _
      cases ht
      simp only[evOp] at hq
      split at hq
      ·rename_i hk
       split at hq
       ·rename_i cs hcs
        split at hq
        ·rename_i hn
         simp only[ok] at hq;cases hq
         obtain⟨μ1,i1,x1,v1⟩:=push_gr_nil (ty:=el) f.inv hn
         have f1:Fr P X μ1 (.gr el n []::H) w e act:=⟨f.hp,i1,f.gl.mono x1,f.env.mono f.inv x1⟩
         obtain⟨g1,g2⟩:=trParts_ok f1 hps
         obtain⟨c',k1,k2⟩:=fill_ok (vs:=parts.toList.map fun (i,x)=>(i,act.eval x)) (place:=fun k=>(fs.toList.map fun f=>(f.offset,P.cellsOf f.type)).toArray[k]?) hcs (HVs_grow (μ:=μ1) (w:=w) hz hk h1 h2 h3 v1) (by simp[g1]) (fun k p q hp hq=>by
          obtain⟨a1,a2⟩:=g2 k p q hp hq
          exact⟨hplace _ _ _ a1,a2⟩)
         refine⟨.agg c',?_,hKE _ _ ⟨μ1,i1,x1,HV_mkAgg k2⟩⟩
         simp only[Instr.build,Sem.run_bind,zeroValue,typeInfo,run_program,Result.andThen_ok,h1,h2,Sem.run_pure,run_und hu,run_sizes fs hall,hpl,k1]
        ·cases hq
       ·cases hq
      ·cases hq
     ·cases ht
    cases ht
    simp only[evOp] at hq
    split at hq
    ·rename_i cs hcs
     cases hq
     obtain⟨g1,g2⟩:=trParts_ok f hps
     obtain⟨c',k1,k2⟩:=fill_ok (vs:=parts.toList.map fun (i,x)=>(i,act.eval x)) (place:=fun k=>(fs.toList.map fun f=>(f.offset,P.cellsOf f.type)).toArray[k]?) hcs (HVs_of_HDs (h3 (Own X μ H) w)) (by simp[g1]) (fun k p q hp hq=>by
      obtain⟨a1,a2⟩:=g2 k p q hp hq
      refine⟨?_,a2⟩
      simp only[fieldT,hu] at a1
      cases hf:fs[q.1]? with
      | none=>simp[hf] at a1
      | some fl =>
        simp only[hf,Option.map_eq_some_iff] at a1
        obtain⟨n,b1,b2⟩:=a1
        cases hp2:p with | mk p1 p2=>cases p2 with | mk p2 p3 =>
        rw[hp2] at b2
        simp only[Prod.mk.injEq] at b2
        obtain⟨rfl,rfl⟩:=b2
        have:P.cellsOf fl.type=n:=by unfold sizeT at b1;unfold Program.cellsOf;rw[b1];rfl
        simp[hf,this])
     refine⟨.agg c',?_,hKE _ _ (St.here f.inv (HV_mkAgg k2))⟩
     simp only[Instr.build,Sem.run_bind,zeroValue,typeInfo,run_program,Result.andThen_ok,h1,h2,Sem.run_pure,run_und hu,run_sizes fs hall,hpl,k1]
    ·cases hq
   ·cases ht
  ·cases ht
 ·rename_i z len el hz hu
  split at ht
  ·rename_i n hn
   split at ht
   ·rename_i ps hps
    cases ht
    obtain⟨inf,v,h1,h2,h3⟩:=zeroT_ok hz
    simp only[evOp] at hq
    split at hq
    ·rename_i cs hcs
     cases hq
     obtain⟨g1,g2⟩:=trParts_ok f hps
     obtain⟨c',k1,k2⟩:=fill_ok (vs:=parts.toList.map fun (i,x)=>(i,act.eval x)) (place:=fun i=>some (i*n,n)) hcs (HVs_of_HDs (h3 (Own X μ H) w)) (by simp[g1]) (fun k p q hp hq=>by
      obtain⟨a1,a2⟩:=g2 k p q hp hq
      exact⟨a1,a2⟩)
     refine⟨.agg c',?_,hKE _ _ (St.here f.inv (HV_mkAgg k2))⟩
     simp only[Instr.build,Sem.run_bind,zeroValue,typeInfo,run_program,Result.andThen_ok,h1,h2,Sem.run_pure,run_und hu,run_sizeOf hn,hpl,k1]
    ·cases hq
   ·cases ht
  ·cases ht
 ·cases ht
theorem op_bslice (f:Fr P X μ H w e act) {t:TypeId}{len:Nat}{parts:Array (Nat×Operand)}{m:Nat}{ty:TypeId}{so:SOp} (ht:trOp P m ty (.buildSlice t len parts)=some so) {q:Re×Hp} (hq:evOp call so e H=some q)
 (hKE:OpEnds X μ H w q K E):∃ c w',(Instr.buildSlice t len (parts.map fun (i,x)=>(i,act.eval x))).run P w=.ok c w'∧K c w':=by
 have hpl:(parts.map fun (i,x)=>(i,act.eval x)).toList=parts.toList.map fun (i,x)=>(i,act.eval x):=by simp
 simp only[trOp] at ht
 split at ht
 ·rename_i el hel
  split at ht
  ·rename_i n z ps hn hz hps
   cases ht
   obtain⟨inf,v,h1,h2,h3⟩:=zeroT_ok hz
   have hte:=elemT_ok hel
   simp only[evOp] at hq
   split at hq
   ·rename_i xs hxs
    split at hq
    ·rename_i hc
     obtain⟨hzl,hzs,hn0,hcap⟩:=hc
     obtain⟨g1,g2⟩:=trParts1_ok f hps
     have hv3:=h3 (Own X μ H) w
     have hvs:v.cells.size=n:=by rw[hv3.1,hzl]
     have hlen0:∀ hz0:len*n=0,len=0:=fun h=>by rcases Nat.mul_eq_zero.1 h with h | h<;>omega
     obtain⟨zr,hzr,hzr1,hzr2⟩:∃ zr:Array Value,(len*n=0→zr = #[])∧(len*n≠0→zr=v.cells)∧(0<len→zr=v.cells):=by
      by_cases h0:len*n=0
      ·exact⟨#[],fun _=>rfl,fun h=>absurd h0 h,fun h=>by have:=hlen0 h0;omega⟩
      ·exact⟨v.cells,fun h=>absurd h h0,fun _=>rfl,fun _=>rfl⟩
     have hget:∀ k,k<len*n→((Array.range (len*n)).map (zr[· % zr.size]!)).getD k undef=v.cells.getD (k%n) undef:=by
      intro k hk
      have hl:0<len:=by
       rcases Nat.eq_zero_or_pos len with h | h
       ·subst h;simp at hk
       ·exact h
      have hzr':=hzr2 hl
      subst hzr'
      have hmod:k%n<v.cells.size:=by rw[hvs];exact Nat.mod_lt _ hn0
      simp[Array.getD_eq_getD_getElem?,hk,hvs,Array.getElem!_eq_getD,Array.getElem?_eq_getElem hmod]
     obtain⟨r1,r2⟩:=zero_row (μ:=μ) (H:=H) (O:=Own X μ H) hv3 hzl hzs hget
     obtain⟨c',k1,k2,k3,k4,k5⟩:=setRows_ok (vs:=parts.toList.map fun (i,x)=>(i,act.eval x)) hxs r2 r1 (by simp) (by simp[g1]) g2
     have hrun:(Instr.buildSlice t len (parts.map fun (i,x)=>(i,act.eval x))).run P w=.ok (.slice (some ⟨w.heap.size,0,none⟩) len len) (w.alloc (.cells c' el)):=by
      simp only[Instr.buildSlice,Sem.run_bind,run_und hte,Result.andThen_ok,run_sizeOf hn]
      rw[if_neg (by omega)]
      by_cases h0:len*n=0
      ·rw[if_pos h0]
       rw[hzr h0] at k1
       simp only[Sem.run_pure,Sem.run_bind,Result.andThen_ok,hpl,k1,newRow,run_newObj]
       rfl
      ·rw[if_neg h0]
       rw[hzr1 h0] at k1
       simp only[Sem.run_pure,Sem.run_bind,Result.andThen_ok,hpl,k1,newRow,run_newObj,zeroValue,typeInfo,run_program,h1,h2]
       rfl
     have hxl:xs.length=len:=by rw[k4];simp
     have hcl:xs.length*n≤c'.size:=by rw[k3,hxl];simp
     refine⟨_,_,hrun,?_⟩
     split at hq
     ·cases hq
      have:=push_gr f.inv (c:=c') el hn0 k5 hcl k2 w (.inl rfl) (cap:=len) (by omega) (by rw[hxl] at hcl;exact hcl)
      rw[hxl] at this
      exact hKE _ _ this
     ·split at hq
      ·rename_i ds hds
       cases hq
       have hxd:=allD_some hds
       subst hxd
       have hdl:ds.length=len:=by simpa using hxl
       have:=new_ls f.inv (c:=c') el hn0 (fun i x hx=>by
        have:=(k5 (.d x) (List.mem_map.2 ⟨x,List.mem_of_getElem? hx,rfl⟩)).1
        simpa[V.cells] using this) (by simpa using hcl) k2
       rw[hdl] at this
       exact hKE _ _ this
      ·cases hq
    ·cases hq
   ·cases hq
  ·cases ht
 ·cases ht
end
end
section
open Go
section
variable {P:Program}{call:CallF}{X:Cx}{μ:Nat→Option Nat}{H:Hp}{w:World}{e:En}{act:Act}{K E:Value→World→Prop}
theorem okO_eq {v:Option V}{h:Hp}{q:Re×Hp} (hq:okO v h=some q):∃ x,v=some x∧q=(.val x,h):=by
 unfold okO at hq;split at hq
 ·cases hq;exact⟨_,rfl,rfl⟩
 ·cases hq
theorem okD_eq {v:Option D}{h:Hp}{q:Re×Hp} (hq:okD v h=some q):∃ x,v=some x∧q=(.val (.d x),h):=by
 unfold okD at hq;split at hq
 ·cases hq;exact⟨_,rfl,rfl⟩
 ·cases hq
theorem gp_win (hi:Inv X μ H w) {o m i off:Nat}{ty sz:Nat}{xs:List V}{c:Value}{y:V} (h:HV (Own X μ H) μ H H.length w (.gp o m i off) c) (hg:hget H o=some (.gr ty sz xs)) (hm:xs.length=m) (hy:xs[i]? = some y) :
 ∃ b a cs,c=.pointer (some ⟨b,i*sz+off,none⟩)∧μ o=some b∧w.heap[b]? = some (.cells cs ty (0,0))∧xs.length*sz≤cs.size∧a=i*sz∧Win (Own X μ H) μ H w b (i*sz) y.cells∧Row (Own X μ H) μ H w sz xs (fun k=>cs.getD k undef) ∧
  y.cells.length=sz∧0<sz∧(∀ x∈xs,x.cells.length=sz∧scVs x.cells=true):=by
 cases h with
 | gp _ _ _ _ b0 a0 ho hgp =>
   obtain⟨_,h2⟩:=hgp _ sz xs hg
   obtain⟨b,hb,ha⟩:=h2 hm
   obtain⟨hsz,hxs,hblk⟩:=hi.obj o _ hg
   rcases hblk with ⟨m0,_⟩ | ⟨b',cs,hm',hb',hl,hr⟩
   ·rw[hb] at m0;cases m0
   ·rw[hb] at hm'; cases hm'
    obtain⟨rfl,rfl⟩:b0=b∧a0=i*sz+off:=by simpa using ha
    have hyl:=(hxs y (List.mem_of_getElem? hy)).1
    have hil:i<xs.length:=(List.getElem?_eq_some_iff.1 hy).1
    have hisz:(i+1)*sz≤xs.length*sz:=Nat.mul_le_mul_right sz hil
    rw[Nat.succ_mul] at hisz
    refine⟨b0,i*sz,cs,rfl,hb,hb',hl,rfl,⟨fun j=>cs.getD (i*sz+j) undef,fun j hj=>?_,fun j v hv=>hr i y j v hy hv⟩,fun i x j v h1 h2=>hr i x j v h1 h2,hyl,hsz,hxs⟩
    have hj':i*sz+j<cs.size:=by omega
    simp[World.cell?,hb',Array.getD_eq_getD_getElem?,Array.getElem?_eq_getElem hj']
theorem op_load (f:Fr P X μ H w e act) {t:TypeId}{x:Operand}{a:Ar}{g:Bool}{n:Nat} (hg:aggT P t=some g) (hs:sizeT P t=some n) (h:trA P x=some a) {q:Re×Hp}
 (hq:evOp call (.load g (if g then n else 1) a) e H=some q) (hKE:OpEnds X μ H w q K E):∃ c,(Instr.loadAt t (act.eval x)).run P w=.ok c w∧K c w:=by
 have hx:=f.val h
 generalize act.eval x=cx at hx ⊢
 have hs':g=true→sizeT P t=some (if g then n else 1):=fun h=>by rw[if_pos h];exact hs
 simp only[evOp] at hq
 split at hq
 ·rename_i o i hv
  rw[hv] at hx
  cases hx with
  | p _ _ b ho hm hgr =>
    split at hq
    ·rename_i cs hob
     obtain⟨v,hv',rfl⟩:=okO_eq hq
     obtain⟨b',c,h1,h2,h3⟩:=f.inv.obj o _ hob
     rw[hm] at h1;cases h1
     obtain⟨c',r1,r2⟩:=win_load (P:=P) (Win.of_block h2 h3) hv' hg hs'
     rw[Nat.zero_add] at r1
     exact⟨c',r1,hKE _ _ (St.here f.inv r2)⟩
    ·rename_i cs hob
     obtain⟨v,hv',rfl⟩:=okO_eq hq
     obtain⟨b',c,e',z,h1,h2,h3,h4⟩:=f.inv.obj o _ hob
     rw[hm] at h1;cases h1
     obtain⟨c',r1,r2⟩:=win_load (P:=P) (Win.of_block h3 h4) hv' hg hs'
     rw[Nat.zero_add] at r1
     exact⟨c',r1,hKE _ _ (St.here f.inv r2)⟩
    ·cases hq
 ·rename_i cs hv
  rw[hv] at hx
  obtain⟨v,hv',rfl⟩:=okO_eq hq
  cases hx with
  | d _ _ hd =>
    obtain⟨b,a',hc,hw⟩:=fpc_win (μ:=μ) (H:=H) hd
    obtain⟨c',r1,r2⟩:=win_load (P:=P) hw hv' hg hs'
    rw[Nat.add_zero] at r1
    rw[hc]
    exact⟨c',r1,hKE _ _ (St.here f.inv r2)⟩
 ·rename_i o m i off hv
  rw[hv] at hx
  split at hq
  ·rename_i sz xs hob
   split at hq
   ·rename_i hm
    split at hq
    ·rename_i y hy
     obtain⟨v,hv',rfl⟩:=okO_eq hq
     obtain⟨b,a',cs,hc,_,_,_,_,hw,_,_,_,_⟩:=gp_win f.inv hx hob hm hy
     obtain⟨c',r1,r2⟩:=win_load (P:=P) hw hv' hg hs'
     rw[hc]
     exact⟨c',r1,hKE _ _ (St.here f.inv r2)⟩
    ·cases hq
   ·cases hq
  ·cases hq
 ·cases hq
theorem op_store (f:Fr P X μ H w e act) {t:TypeId}{x y:Operand}{a b:Ar}{n:Nat} (hs:sizeT P t=some n) (h1:trA P x=some a) (h2:trA P y=some b) {q:Re×Hp}
 (hq:evOp call (.store n a b) e H=some q) (hKE:OpEnds X μ H w q K E):∃ w',(Instr.storeAt t (act.eval x) (act.eval y)).run P w=.ok () w'∧K undef w':=by
 have hx:=f.val h1
 have hy:=f.val h2
 generalize act.eval x=cx at hx ⊢
 generalize act.eval y=cy at hy ⊢
 have hund:∀ {μ' H' w'},HV (Own X μ' H') μ' H' H'.length w' (.d (.tup [])) undef:=.d _ _ (.tup [] #[] rfl (by simp))
 simp only[evOp] at hq
 split at hq
 ·rename_i o i hv
  rw[hv] at hx
  split at hq
  ·rename_i ty cs hob
   have hu:aval e b≠.u:=by intro hu;rw[hu] at hq;cases hq
   have hq':(aval e b).cells.length=n∧i+n≤cs.length∧scVs (aval e b).cells=true∧q=(.val (.d (.tup [])),hset H o (.box ty (putCells cs i (aval e b).cells))):=by
    split at hq
    ·cases hq
    ·split at hq
     ·rename_i hc;cases hq;exact⟨hc.1,hc.2.1,hc.2.2,rfl⟩
     ·cases hq
   obtain⟨c1,c2,c3,rfl⟩:=hq'
   obtain⟨w',r1,r2,r3⟩:=store_box f.inv hob hx hu hy hs c1 c2 c3
   exact⟨w',r1,hKE _ _ ⟨μ,r2,r3,hund⟩⟩
  ·cases hq
 ·rename_i o m i off hv
  rw[hv] at hx
  split at hq
  ·rename_i ty sz xs hob
   have hu:aval e b≠.u:=by intro hu;rw[hu] at hq;cases hq
   have hq':∃ z,xs.length=m∧(aval e b).cells.length=n∧scVs (aval e b).cells=true∧xs[i]? = some z∧z.cells.length=sz∧off+n≤sz∧q=(.val (.d (.tup [])),hset H o (.gr ty sz (xs.set i (chunk1 sz (putCells z.cells off (aval e b).cells))))):=by
    split at hq
    ·cases hq
    ·split at hq
     ·rename_i hc
      split at hq
      ·rename_i z hz
       split at hq
       ·rename_i hc2;cases hq;exact⟨z,hc.1,hc.2.1,hc.2.2,hz,hc2.1,hc2.2,rfl⟩
       ·cases hq
      ·cases hq
     ·cases hq
   obtain⟨z,c1,c2,c3,hz,c4,c5,rfl⟩:=hq'
   obtain⟨bk,a',cs,hc,hmu,hb,hl,_,hw,hrow,_,hsz,hxs⟩:=gp_win f.inv hx hob c1 hz
   have hcy:=HV_cells hu hy
   have hil:i<xs.length:=(List.getElem?_eq_some_iff.1 hz).1
   have hisz:(i+1)*sz≤xs.length*sz:=Nat.mul_le_mul_right sz hil
   rw[Nat.succ_mul] at hisz
   have hput_len:(putCells z.cells off (aval e b).cells).length=sz:=by simp[putCells];omega
   have hput_sc:scVs (putCells z.cells off (aval e b).cells)=true:=by
    have hzs:=(hxs z (List.mem_of_getElem? hz)).2
    refine scVs_all fun v hv=>?_
    unfold putCells at hv
    rcases List.mem_append.1 hv with hv | hv
    ·rcases List.mem_append.1 hv with hv | hv
     ·exact scVs_all' hzs v (List.mem_of_mem_take hv)
     ·exact scVs_all' c3 v hv
    ·exact scVs_all' hzs v (List.mem_of_mem_drop hv)
   have hnew:=chunk1_cells hput_len hput_sc
   have hrow':=Row.upd hrow (fun x hx=>(hxs x hx).1) hz hcy (off:=off) (by omega) hnew hl
   have hsize:(cs.toList.take (i*sz+off)++cy.cells.toList++cs.toList.drop (i*sz+off+cy.cells.toList.length)).toArray.size=cs.size:=by
    have:=hcy.1;simp;omega
   have hst:=run_storeAt (P:=P) (t:=t) (x:=cy) hs hb (a:=i*sz+off) (by rw[hcy.1,c2]) (by omega) (scVs_one hcy c3)
   have hob':ownedO H o:=by unfold ownedO;rw[hob];trivial
   have hk:(match Ob.gr ty sz xs,Ob.gr ty sz (xs.set i (chunk1 sz (putCells z.cells off (aval e b).cells))) with | .box ty _,.box ty' _=>ty=ty' | .gr ty sz xs,.gr ty' sz' xs'=>ty=ty'∧sz=sz'∧xs.length≤xs'.length | _,_=>False):=⟨rfl,rfl,by simp⟩
   have hx2:=Ext.turn f.inv (ob':=.gr ty sz (xs.set i (chunk1 sz (putCells z.cells off (aval e b).cells)))) hob hmu hob' hb (setRow_heap w bk cs _ _ (0,0) hb) hsize (fun k hk=>setRow_other w bk k _ hk) (setRow_size ..) rfl rfl rfl hk
   rw[hc]
   refine⟨_,hst,hKE _ _ ⟨μ,?_,hx2,hund⟩⟩
   refine f.inv.turn hob hmu hob' hb (setRow_heap w bk cs _ _ (0,0) hb) hsize (fun k hk=>setRow_other w bk k _ hk) (setRow_size ..) rfl rfl rfl hk ?_
   refine⟨hsz,fun x hx=>?_,.inr ⟨bk,_,hmu,setRow_heap w bk cs _ _ (0,0) hb,by rw[hsize,List.length_set];exact hl,hrow'.mono f.inv hx2⟩⟩
   rcases List.mem_or_eq_of_mem_set hx with h | h
   ·exact hxs x h
   ·subst h;rw[hnew];exact⟨hput_len,hput_sc⟩
  ·cases hq
 ·cases hq
end
end
section
open Go
section
variable {P:Program}{call:CallF}{X:Cx}{μ:Nat→Option Nat}{H:Hp}{w:World}{e:En}{act:Act}{K E:Value→World→Prop}
theorem eqGuard_int (op:BinOp) (t:TypeId) (x y:Operand) (k k':IntKind) (a b:Int):(eqGuard op t x y (.int k a) (.int k' b)).run P w=.ok () w:=by
 cases op<;>simp[eqGuard]
theorem eqGuard_str (op:BinOp) (t:TypeId) (x y:Operand) (a b:ByteArray):(eqGuard op t x y (.string a) (.string b)).run P w=.ok () w:=by
 cases op<;>simp[eqGuard]
theorem eqGuard_bool (op:BinOp) (t:TypeId) (x y:Operand) (a b:Bool):(eqGuard op t x y (.bool a) (.bool b)).run P w=.ok () w:=by
 cases op<;>simp[eqGuard]
theorem op_bin (f:Fr P X μ H w e act) {op:BinOp}{t:TypeId}{x y:Operand}{a b:Ar} (h1:trA P x=some a) (h2:trA P y=some b) {q:Re×Hp}
 (hq:evOp call (.bin op a b) e H=some q) (hKE:OpEnds X μ H w q K E) :
 ∃ c,(do eqGuard op t x y (act.eval x) (act.eval y);binOp op t (act.eval x) (act.eval y):Sem Value).run P w=.ok c w∧K c w:=by
 have hx:=f.val h1
 have hy:=f.val h2
 generalize act.eval x=cx at hx ⊢
 generalize act.eval y=cy at hy ⊢
 simp only[evOp] at hq
 split at hq
 ·rename_i p q' hp hq'
  rw[hp] at hx;rw[hq'] at hy
  obtain⟨v,hv,rfl⟩:=okD_eq hq
  cases hx with
  | d _ _ hx =>
    cases hy with
    | d _ _ hy =>
      cases hx<;>cases hy<;>simp only[binD] at hv<;>(try (cases hv;done))
      ·rename_i k1 n1 k2 n2
       split at hv
       ·obtain⟨c,r1,r2⟩:=shiftBin_ok (P:=P) (O:=Own X μ H) (w:=w) (k':=k2) hv t
        exact⟨c,by simp only[Sem.run_bind,eqGuard_int,Result.andThen_ok,r1],hKE _ _ (St.here f.inv (.d _ _ r2))⟩
       ·rename_i hs
        split at hv
        ·rename_i hk
         subst hk
         obtain⟨c,r1,r2⟩:=intBin_ok (P:=P) (O:=Own X μ H) (w:=w) (by simpa using hs) hv t
         exact⟨c,by simp only[Sem.run_bind,eqGuard_int,Result.andThen_ok,r1],hKE _ _ (St.here f.inv (.d _ _ r2))⟩
        ·cases hv
      ·obtain⟨c,r1,r2⟩:=strBin_ok (P:=P) (O:=Own X μ H) (w:=w) hv t
       exact⟨c,by simp only[Sem.run_bind,eqGuard_str,Result.andThen_ok,r1],hKE _ _ (St.here f.inv (.d _ _ r2))⟩
 ·cases hq
theorem op_eqB (f:Fr P X μ H w e act) {neg:Bool}{t:TypeId}{x y:Operand}{a b:Ar} (hu:P.underlying t=some .bool) (h1:trA P x=some a) (h2:trA P y=some b) {q:Re×Hp}
 (hq:evOp call (.eqB neg a b) e H=some q) (hKE:OpEnds X μ H w q K E) :
 ∃ c,(do eqGuard (if neg then .neq else .eql) t x y (act.eval x) (act.eval y);binOp (if neg then .neq else .eql) t (act.eval x) (act.eval y):Sem Value).run P w=.ok c w∧K c w:=by
 have hx:=f.val h1
 have hy:=f.val h2
 generalize act.eval x=cx at hx ⊢
 generalize act.eval y=cy at hy ⊢
 simp only[evOp] at hq
 split at hq
 ·rename_i p q' hp hq'
  rw[hp] at hx;rw[hq'] at hy
  cases hq
  cases hx with
  | d _ _ hx =>
    cases hy with
    | d _ _ hy =>
      cases hx;cases hy
      have hbe:=boolEq_ok (w:=w) (a:=p) (b:=q') hu
      cases neg
      ·exact⟨_,by simp only[Bool.false_eq_true,if_false,Sem.run_bind,eqGuard_bool,Result.andThen_ok,hbe.1],hKE _ _ (St.here f.inv (.d _ _ (.b _)))⟩
      ·exact⟨_,by simp only[if_true,Sem.run_bind,eqGuard_bool,Result.andThen_ok,hbe.2],hKE _ _ (St.here f.inv (.d _ _ (.b _)))⟩
 ·cases hq
theorem op_eqS (f:Fr P X μ H w e act) {neg:Bool}{t:TypeId}{x y:Operand}{a b:Ar}{ks:List CK}{fs:Array Field} (hu:P.underlying t=some (.struct fs)) (hk:kindsT P 20 t=some ks) (hm:P.eqGuardType P.depth t=false)
 (h1:trA P x=some a) (h2:trA P y=some b) {q:Re×Hp} (hq:evOp call (.eqS neg ks a b) e H=some q) (hKE:OpEnds X μ H w q K E) :
 ∃ c,(do eqGuard (if neg then .neq else .eql) t x y (act.eval x) (act.eval y);binOp (if neg then .neq else .eql) t (act.eval x) (act.eval y):Sem Value).run P w=.ok c w∧K c w:=by
 have hx:=f.val h1
 have hy:=f.val h2
 generalize act.eval x=cx at hx ⊢
 generalize act.eval y=cy at hy ⊢
 simp only[evOp] at hq
 split at hq
 ·rename_i xs ys hp hq'
  rw[hp] at hx;rw[hq'] at hy
  split at hq
  ·rename_i r hr
   cases hq
   cases hx with
   | d _ _ hx =>
     cases hy with
     | d _ _ hy =>
       cases hx with
       | agg _ ca ha hra =>
         cases hy with
         | agg _ cb hb hrb =>
           exact⟨_,eqS_ok hu hk hm ⟨ha,hra⟩ ⟨hb,hrb⟩ hr x y neg,hKE _ _ (St.here f.inv (.d _ _ (.b _)))⟩
  ·cases hq
 ·cases hq
theorem op_un (f:Fr P X μ H w e act) {op:UnOp}{x:Operand}{a:Ar} (h:trA P x=some a) {q:Re×Hp} (hq:evOp call (.un op a) e H=some q) (hKE:OpEnds X μ H w q K E) :
 ∃ c,(Op.unary op (act.eval x)).run P w=.ok c w∧K c w:=by
 have hx:=f.val h
 generalize act.eval x=cx at hx ⊢
 simp only[evOp] at hq
 split at hq
 ·rename_i p hp
  rw[hp] at hx
  obtain⟨v,hv,rfl⟩:=okD_eq hq
  cases hx with
  | d _ _ hx =>
    obtain⟨c,r1,r2⟩:=unD_ok (P:=P) hv hx
    exact⟨c,r1,hKE _ _ (St.here f.inv (.d _ _ r2))⟩
 ·cases hq
theorem op_conv (f:Fr P X μ H w e act) {src dst:TypeId}{k k':IntKind}{x:Operand}{a:Ar} (h:trA P x=some a) (hs:P.underlying src=some (.int k')) (hd:P.underlying dst=some (.int k)) {q:Re×Hp}
 (hq:evOp call (.conv k a) e H=some q) (hKE:OpEnds X μ H w q K E):∃ c,(convert src dst (act.eval x)).run P w=.ok c w∧K c w:=by
 have hx:=f.val h
 generalize act.eval x=cx at hx ⊢
 simp only[evOp] at hq
 split at hq
 ·rename_i k'' n hp
  rw[hp] at hx
  cases hq
  cases hx with
  | d _ _ hx =>
    cases hx with
    | i=>exact⟨.int k (k.wrap n),by simp only[convert,Sem.run_bind,run_und hs,run_und hd,Result.andThen_ok,Conv.intToInt,Sem.run_pure],hKE _ _ (St.here f.inv (.d _ _ (.i _ _)))⟩
 ·cases hq
theorem op_convS (f:Fr P X μ H w e act) {src dst:TypeId}{x:Operand}{a:Ar} (h:trA P x=some a) (hs:P.underlying src=some .string) (hd:P.underlying dst=some .string) {l:List UInt8} (hl:aval e a=.d (.s l))
 (hKE:OpEnds X μ H w (.val (aval e a),H) K E):∃ c,(convert src dst (act.eval x)).run P w=.ok c w∧K c w:=by
 have hx:=f.val h
 generalize act.eval x=cx at hx ⊢
 have hx':=hx
 rw[hl] at hx
 cases hx with
 | d _ _ hx =>
   cases hx with
   | s=>exact⟨_,by simp only[convert,Sem.run_bind,run_und hs,run_und hd,Result.andThen_ok,Sem.run_pure],hKE _ _ (St.here f.inv hx')⟩
theorem bytesOf_ok:∀ {ds:List D}{l:List UInt8},bytesOf ds=some l→ds=[]∧l=[]∨∃ n ds' l',ds=.i .u8 n::ds'∧bytesOf ds'=some l'∧l=UInt8.ofNat n.toNat::l'
 | [],l,h=>by simp[bytesOf] at h;exact .inl ⟨rfl,h⟩
 | d::ds,l,h=>by
   cases d with
   | i k n =>
     cases k<;>simp only[bytesOf] at h<;>(try (cases h;done))
     split at h
     ·rename_i l' hl'; cases h;exact .inr ⟨n,ds,l',rfl,hl',rfl⟩
     ·cases h
   | _=>simp[bytesOf] at h
theorem run_bytes {O:Bs}:∀ {ds:List D}{l:List UInt8}{cs:List Value}{s:ByteArray},bytesOf ds=some l→cs.length=ds.length→(∀ (j:Nat) d,ds[j]? = some d→∃ c,cs[j]? = some c∧HD O w d c) →
 (forIn (m:=Sem) cs s (fun c s=>match c with
  | .int .u8 n=>pure (ForInStep.yield (s.push (UInt8.ofNat n.toNat)))
  | _=>do
    stuck "bytesToString: byte expected"
    pure (ForInStep.yield s))).run P w=.ok ⟨s.data++l.toArray⟩ w:=by
 intro ds
 induction ds with
 | nil =>
   intro l cs s h hl _
   simp[bytesOf] at h;subst h
   have:cs=[]:=List.eq_nil_of_length_eq_zero (by simpa using hl)
   subst this
   simp
 | cons d ds ih =>
   intro l cs s h hl hr
   rcases bytesOf_ok h with ⟨h1,_⟩ | ⟨n,ds',l',h1,h2,h3⟩
   ·cases h1
   ·cases h1;subst h3
    cases cs with
    | nil=>simp at hl
    | cons c cs =>
      obtain⟨c0,hc0,hd0⟩:=hr 0 _ rfl
      simp at hc0;subst hc0
      cases hd0
      simp only[List.forIn_cons,Sem.run_bind,Sem.run_pure,Result.andThen_ok]
      rw[ih h2 (by simpa using hl) (fun j d hd=>by simpa using hr (j+1) d (by simpa using hd))]
      congr 1
      apply ByteArray.ext
      apply Array.ext'
      simp[ByteArray.push]
theorem op_convBS (f:Fr P X μ H w e act) {src dst el:TypeId}{x:Operand}{a:Ar} (h:trA P x=some a) (hs:P.underlying src=some (.slice el)) (hd:P.underlying dst=some .string) (hel:P.underlying el=some (.int .u8)) {q:Re×Hp}
 (hq:evOp call (.convBS a) e H=some q) (hKE:OpEnds X μ H w q K E):∃ c,(convert src dst (act.eval x)).run P w=.ok c w∧K c w:=by
 have hx:=f.val h
 generalize act.eval x=cx at hx ⊢
 have one:∀ {ds:List D}{l:List UInt8}{b a' m cap:Nat}{cf:Nat→Value},bytesOf ds=some l→m=ds.length→cellsAt w b a' ds.length cf→(∀ (j:Nat) d,ds[j]? = some d→HD (Own X μ H) w d (cf j)) →
  (convert src dst (.slice (some ⟨b,a',none⟩) m cap)).run P w=.ok (.string ⟨l.toArray⟩) w:=by
  intro ds l b a' m cap cf hl hm hc hr
  subst hm
  have hload:=run_loadCells (P:=P) w ⟨b,a',none⟩ ds.length cf (fun j hj=>by rw[add_lit];exact hc j hj)
  simp only[convert,Sem.run_bind,run_und hs,run_und hd,run_und hel,Result.andThen_ok,Conv.bytesToString,hload]
  have hrb:=run_bytes (P:=P) (s:=ByteArray.empty) (cs:=(List.range ds.length).map cf) hl (by simp) (fun j d hd=>⟨cf j,by
   have:j<ds.length:=(List.getElem?_eq_some_iff.1 hd).1
   simp[this],hr j d hd⟩)
  rw[← Array.forIn_toList]
  refine(congrArg (fun r=>Result.andThen r _) hrb).trans ?_
  simp
 simp only[evOp] at hq
 split at hq
 ·rename_i xs hp
  rw[hp] at hx
  obtain⟨v,hv,rfl⟩:=okD_eq hq
  obtain⟨l,hl,rfl⟩:=Option.map_eq_some_iff.1 hv
  cases hx with
  | d _ _ hx =>
    cases hx with
    | ls0 =>
      simp[bytesOf] at hl;subst hl
      exact⟨.string ⟨#[]⟩,by simp only[convert,Sem.run_bind,run_und hs,run_und hd,run_und hel,Result.andThen_ok,Conv.bytesToString,Sem.run_pure];rfl,hKE _ _ (St.here f.inv (.d _ _ (.s [])))⟩
    | ls _ b a' cap sz cf hsz hb hcap hc hxl hr =>
      have hsz1:xs≠[]→sz=1:=by
       intro hne
       obtain⟨y,ys,rfl⟩:=List.exists_cons_of_ne_nil hne
       rcases bytesOf_ok hl with ⟨h1,_⟩ | ⟨n,ds',l',h1,_,_⟩
       ·cases h1
       ·cases h1;exact(hxl 0 _ rfl).symm
      refine⟨_,one (cf:=cf) hl rfl ?_ ?_,hKE _ _ (St.here f.inv (.d _ _ (.s l)))⟩
      ·intro j hj
       have hne:xs≠[]:=by intro h;subst h;simp at hj
       have:=hsz1 hne;subst this
       exact hc j (by omega)
      ·intro j d hd
       have hne:xs≠[]:=by intro h;subst h;simp at hd
       have:=hsz1 hne;subst this
       have hcell:d.cells=[d]:=by
        have h1:=hxl j d hd
        cases d with
        | agg cs =>
          exfalso
          have key:∀ {ds:List D}{l:List UInt8},bytesOf ds=some l→∀ (j:Nat) d,ds[j]? = some d→∃ n,d=.i .u8 n:=by
           intro ds
           induction ds with
           | nil=>intro l _ j d h;simp at h
           | cons y ys ih =>
             intro l h j d hd
             rcases bytesOf_ok h with ⟨h1,_⟩ | ⟨n,ds',l',h1,h2,_⟩
             ·cases h1
             ·cases h1
              cases j with
              | zero=>simp at hd;exact⟨n,hd.symm⟩
              | succ j=>exact ih h2 j d (by simpa using hd)
          obtain⟨n,hn⟩:=key hl j _ hd
          cases hn
        | _=>rfl
       have:=hr j d 0 d hd (by rw[hcell];rfl)
       simpa using this
 ·rename_i o n hp
  rw[hp] at hx
  split at hq
  ·rename_i xs hob
   split at hq
   ·rename_i hn
    split at hq
    ·rename_i ds hds
     obtain⟨v,hv,rfl⟩:=okD_eq hq
     obtain⟨l,hl,rfl⟩:=Option.map_eq_some_iff.1 hv
     have hxd:=allD_some hds
     subst hxd
     obtain⟨hsz,hxs,hblk⟩:=f.inv.obj o _ hob
     cases hx with
     | gr _ _ cap ad ho hgr =>
       obtain⟨_,h2⟩:=hgr _ _ _ hob
       rcases h2 hn with ⟨m0,hn0,ha,hcap⟩ | ⟨b,cs,e',hmu,ha,hnc,hb,hs1⟩
       ·subst ha;subst hcap
        have:ds=[]:=List.eq_nil_of_length_eq_zero (by simp at hn;omega)
        subst this
        simp[bytesOf] at hl;subst hl
        exact⟨.string ⟨#[]⟩,by simp only[convert,Sem.run_bind,run_und hs,run_und hd,run_und hel,Result.andThen_ok,Conv.bytesToString,Sem.run_pure];rfl,hKE _ _ (St.here f.inv (.d _ _ (.s [])))⟩
       ·subst ha
        rcases hblk with ⟨m0,_⟩ | ⟨b',c',hm',hb',hl',hr⟩
        ·rw[hmu] at m0;cases m0
        ·rw[hmu] at hm'; cases hm'
         rw[hb] at hb'; cases hb'
         simp only[List.length_map] at hn hl'
         refine⟨_,one (cf:=fun j=>cs.getD j undef) hl hn.symm ?_ ?_,hKE _ _ (St.here f.inv (.d _ _ (.s l)))⟩
         ·intro j hj
          have hj':j<cs.size:=by omega
          rw[Nat.zero_add]
          simp[World.cell?,hb,Array.getD_eq_getD_getElem?,Array.getElem?_eq_getElem hj']
         ·intro j d hdj
          have hcl:=(hxs (.d d) (List.mem_map.2 ⟨d,List.mem_of_getElem? hdj,rfl⟩))
          have hcell:d.cells=[d]:=by
           cases d with
           | agg cs0 =>
             exfalso
             have key:∀ {ds:List D}{l:List UInt8},bytesOf ds=some l→∀ (j:Nat) d,ds[j]? = some d→∃ n,d=.i .u8 n:=by
              intro ds
              induction ds with
              | nil=>intro l _ j d h;simp at h
              | cons y ys ih =>
                intro l h j d hd
                rcases bytesOf_ok h with ⟨h1,_⟩ | ⟨n,ds',l',h1,h2,_⟩
                ·cases h1
                ·cases h1
                 cases j with
                 | zero=>simp at hd;exact⟨n,hd.symm⟩
                 | succ j=>exact ih h2 j d (by simpa using hd)
             obtain⟨n',hn'⟩:=key hl j _ hdj
             cases hn'
           | _=>rfl
          have:=hr j (.d d) 0 (.d d) (by simp[hdj]) (by simp[V.cells,hcell])
          cases this with
          | d _ _ h=>simpa using h
    ·cases hq
   ·cases hq
  ·cases hq
 ·cases hq
end
end
section
open Go
section
variable {P:Program}{call:CallF}{X:Cx}{μ:Nat→Option Nat}{H:Hp}{w:World}{e:En}{act:Act}{K E:Value→World→Prop}
theorem vInt_ok (f:Fr P X μ H w e act) {x:Operand}{a:Ar} (h:trA P x=some a) {k:IntKind}{n:Int} (hv:vInt (aval e a)=some (k,n)):act.eval x=.int k n:=by
 have hx:=f.val h
 generalize act.eval x=cx at hx ⊢
 unfold vInt at hv
 split at hv
 ·rename_i k' n' hd
  cases hv
  rw[hd] at hx
  cases hx with
  | d _ _ hx=>cases hx;rfl
 ·cases hv
theorem sliceBound_ok {k:IntKind}{n:Int}{y:Nat}{code:BoundsCode} (h0:0≤n) (h1:n≤y):(Instr.sliceBound (.int k n) y code).run P w=.ok n.toNat w:=by
 simp[Instr.sliceBound,asIntOf,h0,h1]
theorem boundOf_ok (f:Fr P X μ H w e act) {most dflt:Nat}{x:Option Operand}{x':Option Ar} (hx:trAo P x=some x') {n:Nat} (hb:boundOf e most dflt x'=some n) :
 (x=none∧n=dflt)∨∃ o k m,x=some o∧act.eval o=.int k m∧0≤m∧m≤most∧n=m.toNat:=by
 cases x with
 | none =>
   simp only[trAo,Option.some.injEq] at hx;subst hx
   simp only[boundOf,Option.some.injEq] at hb
   exact .inl ⟨rfl,hb.symm⟩
 | some o =>
   simp only[trAo] at hx
   obtain⟨y,hy,rfl⟩:=Option.map_eq_some_iff.1 hx
   simp only[boundOf] at hb
   cases hv:vInt (aval e y) with
   | none=>rw[hv] at hb;cases hb
   | some kn =>
     obtain⟨k,m⟩:=kn
     rw[hv] at hb
     dsimp only at hb
     split at hb
     ·rename_i hn
      cases hb
      exact .inr ⟨o,k,m,rfl,vInt_ok f hy hv,hn.1,hn.2,rfl⟩
     ·cases hb
theorem bounds_ok (f:Fr P X μ H w e act) {isSlice:Bool}{len cap:Nat}{lo hi:Option Operand}{lo' hi':Option Ar} (hl:trAo P lo=some lo') (hh:trAo P hi=some hi') {a b:Nat} (hb:bounds e len lo' hi'=some (a,b)) (hc:len≤cap) :
 (Instr.sliceBounds isSlice len cap (lo.map act.eval) (hi.map act.eval) none).run P w=.ok (a,b,cap) w∧a≤b∧b≤len:=by
 unfold bounds at hb
 split at hb
 ·cases hb
 ·rename_i h' hh'
  split at hb
  ·rename_i l' hl'
   simp only[Option.some.injEq,Prod.mk.injEq] at hb
   obtain⟨rfl,rfl⟩:=hb
   have e1:=boundOf_ok f hh hh'
   have e2:=boundOf_ok f hl hl'
   rcases e1 with ⟨rfl,rfl⟩ | ⟨o1,k1,m1,rfl,v1,p1,p2,rfl⟩
   ·rcases e2 with ⟨rfl,rfl⟩ | ⟨o2,k2,m2,rfl,v2,q1,q2,rfl⟩
    ·exact⟨by simp[Instr.sliceBounds],Nat.zero_le _,Nat.le_refl _⟩
    ·refine⟨?_,by omega,Nat.le_refl _⟩
     simp only[Instr.sliceBounds,Option.map_none,Option.map_some,Sem.run_bind,Sem.run_pure,Result.andThen_ok,v2,sliceBound_ok q1 q2]
   ·have hs1:=fun code=>sliceBound_ok (P:=P) (w:=w) (k:=k1) (code:=code) p1 (show m1≤(cap:Int) by omega)
    rcases e2 with ⟨rfl,rfl⟩ | ⟨o2,k2,m2,rfl,v2,q1,q2,rfl⟩
    ·refine⟨?_,Nat.zero_le _,by omega⟩
     simp only[Instr.sliceBounds,Option.map_none,Option.map_some,Sem.run_bind,Sem.run_pure,Result.andThen_ok,v1,hs1]
    ·refine⟨?_,by omega,by omega⟩
     simp only[Instr.sliceBounds,Option.map_some,Sem.run_bind,Sem.run_pure,Result.andThen_ok,v1,hs1,v2,sliceBound_ok q1 q2]
  ·cases hb
theorem op_slS (f:Fr P X μ H w e act) {t:TypeId}{x:Operand}{lo hi:Option Operand}{a:Ar}{lo' hi':Option Ar} (ht:P.underlying t=some .string) (h:trA P x=some a) (hl:trAo P lo=some lo') (hh:trAo P hi=some hi') {q:Re×Hp}
 (hq:evOp call (.slS a lo' hi') e H=some q) (hKE:OpEnds X μ H w q K E):∃ c,(Instr.sliceAt t (act.eval x) (lo.map act.eval) (hi.map act.eval) ((none:Option Operand).map act.eval)).run P w=.ok c w∧K c w:=by
 have hx:=f.val h
 generalize act.eval x=cx at hx ⊢
 simp only[evOp] at hq
 split at hq
 ·rename_i l hp
  rw[hp] at hx
  split at hq
  ·rename_i p q' hb
   cases hq
   cases hx with
   | d _ _ hx =>
     cases hx with
     | s =>
       have hs:(ByteArray.mk l.toArray).size=l.length:=by simp[ByteArray.size]
       obtain⟨r1,r2,r3⟩:=bounds_ok (isSlice:=false) (cap:=l.length) f hl hh hb (Nat.le_refl _)
       refine⟨.string ⟨((l.take q').drop p).toArray⟩,?_,hKE _ _ (St.here f.inv (.d _ _ (.s _)))⟩
       simp only[Instr.sliceAt,Sem.run_bind,run_und ht,Result.andThen_ok,Instr.slice,Option.map_none,Option.isSome_none,Bool.false_eq_true,if_false,hs,r1,Sem.run_pure]
       congr 2
       apply ByteArray.ext
       simp[List.drop_take]
  ·cases hq
 ·cases hq
theorem op_slL (f:Fr P X μ H w e act) {t el:TypeId}{x:Operand}{lo hi:Option Operand}{a:Ar}{lo' hi':Option Ar}{sz:Nat} (ht:P.underlying t=some (.slice el)) (hs:sizeT P el=some sz) (h:trA P x=some a)
 (hl:trAo P lo=some lo') (hh:trAo P hi=some hi') {q:Re×Hp}
 (hq:evOp call (.slL sz a lo' hi') e H=some q) (hKE:OpEnds X μ H w q K E):∃ c,(Instr.sliceAt t (act.eval x) (lo.map act.eval) (hi.map act.eval) ((none:Option Operand).map act.eval)).run P w=.ok c w∧K c w:=by
 have hx:=f.val h
 generalize act.eval x=cx at hx ⊢
 simp only[evOp] at hq
 split at hq
 ·rename_i l hp
  rw[hp] at hx
  split at hq
  ·rename_i p q' hb
   split at hq
   ·rename_i hc
    cases hq
    cases hx with
    | d _ _ hx =>
      obtain⟨ad,len,cap,rfl⟩:∃ ad len cap,cx=.slice ad len cap:=by cases hx<;>exact⟨_,_,_,rfl⟩
      have hcut:=fun (h1:p≤q') (h2:q'≤l.length)=>ls_cut hx h1 h2 hc
      have hlen:len=l.length∧l.length≤cap:=by
       obtain⟨h1,h2,_⟩:=ls_cut hx (Nat.le_refl 0) (Nat.zero_le _) hc
       exact⟨h1,h2⟩
      obtain⟨rfl,hcap⟩:=hlen
      obtain⟨r1,r2,r3⟩:=bounds_ok (isSlice:=true) (cap:=cap) f hl hh hb hcap
      obtain⟨_,_,g⟩:=hcut r2 r3
      refine⟨_,?_,hKE _ _ (St.here f.inv (.d _ _ g))⟩
      simp only[Instr.sliceAt,Sem.run_bind,run_und ht,Result.andThen_ok,Instr.slice,Option.map_none,r1,run_sizeOf hs,Sem.run_pure]
   ·cases hq
  ·cases hq
 ·cases hq
theorem op_fieldAddr (f:Fr P X μ H w e act) {s ft:TypeId}{k off n:Nat}{x:Operand}{a:Ar} (hf:fieldT P s k=some (off,ft)) (hn:sizeT P ft=some n) (hn0:0<n) (h:trA P x=some a) {q:Re×Hp}
 (hq:evOp call (.fieldAddr off a) e H=some q) (hKE:OpEnds X μ H w q K E):∃ c,(Instr.fieldAt s (act.eval x) k).run P w=.ok c w∧K c w:=by
 have hx:=f.val h
 generalize act.eval x=cx at hx ⊢
 have hrun:∀ b i,(Instr.fieldAt s (.pointer (some ⟨b,i,none⟩)) k).run P w=.ok (.pointer (some ⟨b,i+off,none⟩)) w:=by
  intro b i
  unfold fieldT at hf
  cases hu:P.underlying s with
  | none=>rw[hu] at hf;cases hf
  | some d =>
    rw[hu] at hf
    cases d with
    | struct fs =>
      dsimp only at hf
      cases hk:fs[k]? with
      | none=>rw[hk] at hf;cases hf
      | some fl =>
        rw[hk] at hf
        simp only[Option.some.injEq,Prod.mk.injEq] at hf
        obtain⟨rfl,rfl⟩:=hf
        simp only[Instr.fieldAt,Sem.run_bind,run_und hu,Result.andThen_ok,hk,Instr.sureAddr,Sem.run_pure,fieldPlace,run_sizeOf hn]
        rw[if_neg (by omega)]
        simp[add_lit]
    | _=>cases hf
 simp only[evOp] at hq
 split at hq
 ·rename_i o i hp
  rw[hp] at hx
  cases hq
  cases hx with
  | p _ _ b ho hm hg=>exact⟨_,hrun b i,hKE _ _ (St.here f.inv (.p _ _ _ ho hm hg))⟩
 ·rename_i o n' i k' hp
  rw[hp] at hx
  cases hq
  cases hx with
  | gp _ _ _ _ b ao ho hg =>
    refine⟨_,hrun b ao,hKE _ _ (St.here f.inv (.gp _ _ _ _ _ _ ho ?_))⟩
    intro ty sz xs hgx
    obtain⟨h1,h2⟩:=hg _ sz xs hgx
    refine⟨h1,fun hl=>?_⟩
    obtain⟨b',hb,hab⟩:=h2 hl
    simp only[Addr.mk.injEq] at hab
    exact⟨b',hb,by rw[Addr.mk.injEq];exact⟨hab.1,by omega,rfl⟩⟩
 ·rename_i cs hp
  rw[hp] at hx
  split at hq
  ·rename_i hlt
   cases hq
   cases hx with
   | d _ _ hx =>
     cases hx with
     | fpc _ b i cf hne hb hc hr =>
       refine⟨_,hrun b i,hKE _ _ (St.here f.inv (.d _ _ (.fpc (cs.drop off) b (i+off) (fun j=>cf (off+j)) (fun h=>by have:=congrArg List.length h;simp at this;omega) hb ?_ ?_)))⟩
       ·intro j hj
        have:=hc (off+j) (by simp at hj;omega)
        rwa [← Nat.add_assoc] at this
       ·intro j v hv
        rw[List.getElem?_drop] at hv
        exact hr _ v hv
  ·cases hq
 ·cases hq
end
end
section
open Go
section
variable {P:Program}{call:CallF}{X:Cx}{μ:Nat→Option Nat}{H:Hp}{w:World}{e:En}{act:Act}{K E:Value→World→Prop}
theorem takeAt_part {O:Bs}{N:Nat}{cs:List V}{c:Array Value} (hc:HVs O μ H N w cs c) {g:Bool}{n off:Nat}{v:V} (hv:takeAt g n off cs=some v) {t:TypeId} (hg:aggT P t=some g) (hs:g=true→sizeT P t=some n) :
 ∃ c',(part t c off).run P w=.ok c' w∧HV O μ H N w v c':=by
 unfold takeAt at hv
 split at hv
 ·rename_i hl
  have hcs:=hc.1
  cases g with
  | true =>
    simp only[if_true] at hv;cases hv
    refine⟨.agg (c.extract off (off+n)),?_,HV_mkAgg ⟨by simp[hcs];omega,fun j v hv=>?_⟩⟩
    ·simp only[part,Sem.run_bind,run_isAgg hg,Result.andThen_ok,if_true,run_sizeOf (hs rfl),Sem.run_pure]
    ·rw[List.getElem?_take] at hv
     split at hv
     ·rename_i hj
      rw[List.getElem?_drop] at hv
      have:=hc.2 (off+j) v hv
      rw[Array.getD_eq_getD_getElem?] at this ⊢
      rw[Array.getElem?_extract,if_pos (by omega)]
      exact this
     ·cases hv
  | false =>
    simp only[Bool.false_eq_true,if_false] at hv
    split at hv
    ·rename_i hn
     subst hn
     have hlt:off<c.size:=by omega
     refine⟨c[off],?_,?_⟩
     ·simp only[part,Sem.run_bind,run_isAgg hg,Result.andThen_ok,Bool.false_eq_true,if_false,Array.getElem?_eq_getElem hlt,Sem.run_pure]
     ·have:=hc.2 off v hv
      rw[Array.getD_eq_getD_getElem?,Array.getElem?_eq_getElem hlt] at this
      exact this
    ·cases hv
 ·cases hv
theorem agg_of {cx:Value}{cs:List V}{v:V} (hv:v=.agg cs∨∃ ds,v=.d (.agg ds)∧cs=ds.map .d) (hx:HV (Own X μ H) μ H H.length w v cx):∃ c,cx=.agg c∧HVs (Own X μ H) μ H H.length w cs c:=by
 rcases hv with rfl | ⟨ds,rfl,rfl⟩
 ·cases hx with
  | agg _ a ha h=>exact⟨a,rfl,ha,h⟩
 ·cases hx with
  | d _ _ h=>cases h with
    | agg _ a ha hr=>exact⟨a,rfl,HVs_d.2 ⟨ha,hr⟩⟩
theorem op_field (f:Fr P X μ H w e act) {s ft:TypeId}{k off n:Nat}{x:Operand}{a:Ar}{g:Bool} (hf:fieldT P s k=some (off,ft)) (hg:aggT P ft=some g) (hn:sizeT P ft=some n) (h:trA P x=some a) {q:Re×Hp}
 (hq:evOp call (.field g (if g then n else 1) off a) e H=some q) (hKE:OpEnds X μ H w q K E):∃ c,(Instr.field s (act.eval x) k).run P w=.ok c w∧K c w:=by
 have hx:=f.val h
 generalize act.eval x=cx at hx ⊢
 have hs':g=true→sizeT P ft=some (if g then n else 1):=fun h=>by rw[if_pos h];exact hn
 have hrun:∀ c c',(part ft c off).run P w=.ok c' w→(Instr.field s (.agg c) k).run P w=.ok c' w:=by
  intro c c' hp
  unfold fieldT at hf
  cases hu:P.underlying s with
  | none=>rw[hu] at hf;cases hf
  | some d =>
    rw[hu] at hf
    cases d with
    | struct fs =>
      dsimp only at hf
      cases hk:fs[k]? with
      | none=>rw[hk] at hf;cases hf
      | some fl =>
        rw[hk] at hf
        simp only[Option.some.injEq,Prod.mk.injEq] at hf
        obtain⟨rfl,rfl⟩:=hf
        simp only[Instr.field,Sem.run_bind,run_und hu,Result.andThen_ok,hk,asAgg,Sem.run_pure,hp]
    | _=>cases hf
 have fin:∀ {cs:List V}{v:V},(∃ c,cx=.agg c∧HVs (Own X μ H) μ H H.length w cs c)→takeAt g (if g then n else 1) off cs=some v→OpEnds X μ H w (.val v,H) K E→∃ c,(Instr.field s cx k).run P w=.ok c w∧K c w:=by
  rintro cs v ⟨c,rfl,hc⟩ hv hK
  obtain⟨c',r1,r2⟩:=takeAt_part (P:=P) hc hv hg hs'
  exact⟨c',hrun c c' r1,hK _ _ (St.here f.inv r2)⟩
 simp only[evOp] at hq
 split at hq
 ·rename_i ds hp
  obtain⟨v,hv,rfl⟩:=okO_eq hq
  exact fin (agg_of (.inr ⟨ds,hp,rfl⟩) hx) hv hKE
 ·rename_i cs hp
  obtain⟨v,hv,rfl⟩:=okO_eq hq
  exact fin (agg_of (.inl hp) hx) hv hKE
 ·cases hq
theorem op_ixS (f:Fr P X μ H w e act) {t el:TypeId}{sz:Nat}{x y:Operand}{a b:Ar} (ht:P.underlying t=some (.slice el)) (hs:sizeT P el=some sz) (hsz:0<sz) (h1:trA P x=some a) (h2:trA P y=some b) {q:Re×Hp}
 (hq:evOp call (.ixS sz a b) e H=some q) (hKE:OpEnds X μ H w q K E):∃ c,(Instr.indexAt t (act.eval x) (act.eval y)).run P w=.ok c w∧K c w:=by
 have hx:=f.val h1
 generalize act.eval x=cx at hx ⊢
 have hrun:∀ (b a len cap:Nat) k (n:Int),0≤n→n<(len:Int)→(Instr.indexAt t (.slice (some ⟨b,a,none⟩) len cap) (.int k n)).run P w=.ok (.pointer (some ⟨b,a+n.toNat*sz,none⟩)) w:=by
  intro b a len cap k n h0 h1
  simp[Instr.indexAt,asIntOf,run_und ht,h0,h1,run_sizeOf hs,add_lit]
 simp only[evOp] at hq
 split at hq
 ·rename_i k n hv
  have hy:=vInt_ok f h2 hv
  rw[hy]
  split at hq
  ·rename_i xs hp
   rw[hp] at hx
   split at hq
   ·rename_i hc
    obtain⟨c1,c2,c3⟩:=hc
    split at hq
    ·rename_i z hz
     cases hq
     cases hx with
     | d _ _ hx =>
       cases hx with
       | ls0=>simp at c2;omega
       | ls _ bk ao cap sz' cf hsz' hb hcap hcl hxl hr =>
         have hne:xs≠[]:=by intro h;subst h;simp at hz
         have hse:sz'=sz:=by
          have:=hxl _ z hz
          have:=(allCellsD_ok c3 _ z hz).1
          omega
         subst hse
         obtain⟨g1,g2⟩:=ls_win hcl hxl hr hz
         have hzl:=hxl _ z hz
         refine⟨_,hrun bk ao xs.length cap k n c1 c2,hKE _ _ (St.here f.inv (.d _ _ (.fpc z.cells bk (ao+n.toNat*sz') _ (fun h=>by rw[h] at hzl;simp at hzl;omega) (hb hne) g1 g2)))⟩
    ·cases hq
   ·cases hq
  ·rename_i o m hp
   rw[hp] at hx
   split at hq
   ·rename_i ty' sz' xs hob
    split at hq
    ·rename_i hc
     obtain⟨c0,c1,c2,c3⟩:=hc
     subst c0
     cases hq
     cases hx with
     | gr _ _ cap ad ho hg =>
       obtain⟨_,h2'⟩:=hg _ _ _ hob
       rcases h2' c1 with ⟨m0,hn0,ha,hcap⟩ | ⟨bk,cs,e',hmu,ha,hnc,hb,hs1⟩
       ·omega
       ·subst ha
        refine⟨_,hrun bk 0 m cap k n c2 c3,hKE _ _ (St.here f.inv (.gp _ _ _ _ _ _ ho ?_))⟩
        intro ty2 sz2 xs2 hob2
        rw[hob] at hob2;cases hob2
        exact⟨by omega,fun _=>⟨bk,hmu,by rw[Nat.zero_add,Nat.add_zero]⟩⟩
    ·cases hq
   ·cases hq
  ·cases hq
 ·cases hq
theorem op_ixA (f:Fr P X μ H w e act) {t el:TypeId}{len sz:Nat}{x y:Operand}{a b:Ar} (ht:P.underlying t=some (.array len el)) (hs:sizeT P el=some sz) (hsz:0<sz) (h1:trA P x=some a) (h2:trA P y=some b) {q:Re×Hp}
 (hq:evOp call (.ixA len sz a b) e H=some q) (hKE:OpEnds X μ H w q K E):∃ c,(Instr.indexAt t (act.eval x) (act.eval y)).run P w=.ok c w∧K c w:=by
 have hx:=f.val h1
 generalize act.eval x=cx at hx ⊢
 have hrun:∀ b a k (n:Int),0≤n→n<(len:Int)→(Instr.indexAt t (.pointer (some ⟨b,a,none⟩)) (.int k n)).run P w=.ok (.pointer (some ⟨b,a+n.toNat*sz,none⟩)) w:=by
  intro b a k n h0 h1
  simp[Instr.indexAt,asIntOf,run_und ht,h0,h1,run_sizeOf hs,add_lit,Instr.sureAddr]
 simp only[evOp] at hq
 split at hq
 ·rename_i k n hv
  have hy:=vInt_ok f h2 hv
  rw[hy]
  split at hq
  ·rename_i hc
   split at hq
   ·rename_i o j hp
    rw[hp] at hx
    cases hq
    cases hx with
    | p _ _ bk ho hm hg=>exact⟨_,hrun bk j k n hc.1 hc.2,hKE _ _ (St.here f.inv (.p _ _ _ ho hm hg))⟩
   ·rename_i cs hp
    rw[hp] at hx
    split at hq
    ·rename_i hlt
     cases hq
     cases hx with
     | d _ _ hx =>
       cases hx with
       | fpc _ bk i cf hne hb hcl hr =>
         refine⟨_,hrun bk i k n hc.1 hc.2,hKE _ _ (St.here f.inv (.d _ _ (.fpc (cs.drop (n.toNat*sz)) bk (i+n.toNat*sz) (fun j=>cf (n.toNat*sz+j)) (fun h=>by have:=congrArg List.length h;simp at this;omega) hb ?_ ?_)))⟩
         ·intro j hj
          have:=hcl (n.toNat*sz+j) (by simp at hj;omega)
          rwa [← Nat.add_assoc] at this
         ·intro j v hv
          rw[List.getElem?_drop] at hv
          exact hr _ v hv
    ·cases hq
   ·cases hq
  ·cases hq
 ·cases hq
theorem op_ixStr (f:Fr P X μ H w e act) {t:TypeId}{x y:Operand}{a b:Ar} (ht:P.underlying t=some .string) (h1:trA P x=some a) (h2:trA P y=some b) {q:Re×Hp}
 (hq:evOp call (.ixStr a b) e H=some q) (hKE:OpEnds X μ H w q K E):∃ c,(Instr.index t (act.eval x) (act.eval y)).run P w=.ok c w∧K c w:=by
 have hx:=f.val h1
 generalize act.eval x=cx at hx ⊢
 simp only[evOp] at hq
 split at hq
 ·rename_i k n hv
  have hy:=vInt_ok f h2 hv
  rw[hy]
  split at hq
  ·rename_i l hp
   rw[hp] at hx
   split at hq
   ·rename_i h0
    split at hq
    ·rename_i c hc
     cases hq
     cases hx with
     | d _ _ hx =>
       cases hx with
       | s =>
         have hget:(ByteArray.mk l.toArray)[n.toNat]? = some c:=by
          have hlt:n.toNat<l.length:=(List.getElem?_eq_some_iff.1 hc).1
          have hsz:n.toNat<(ByteArray.mk l.toArray).size:=by simpa[ByteArray.size] using hlt
          rw[getElem?_pos (ByteArray.mk l.toArray) n.toNat hsz]
          congr 1
          have:=(List.getElem?_eq_some_iff.1 hc).2
          rw[← this];rfl
         refine⟨.int .u8 c.toNat,?_,hKE _ _ (St.here f.inv (.d _ _ (.i _ _)))⟩
         simp only[Instr.index,asIntOf,Sem.run_bind,Sem.run_pure,Result.andThen_ok,run_und ht,h0,if_true,hget]
    ·cases hq
   ·cases hq
  ·cases hq
 ·cases hq
theorem op_ixAg (f:Fr P X μ H w e act) {t el:TypeId}{len sz:Nat}{g:Bool}{x y:Operand}{a b:Ar} (ht:P.underlying t=some (.array len el)) (hg:aggT P el=some g) (hs:sizeT P el=some sz) (h1:trA P x=some a) (h2:trA P y=some b) {q:Re×Hp}
 (hq:evOp call (.ixAg len g sz a b) e H=some q) (hKE:OpEnds X μ H w q K E):∃ c,(Instr.index t (act.eval x) (act.eval y)).run P w=.ok c w∧K c w:=by
 have hx:=f.val h1
 generalize act.eval x=cx at hx ⊢
 have fin:∀ {cs:List V}{v:V}{k:IntKind}{n:Int},(∃ c,cx=.agg c∧HVs (Own X μ H) μ H H.length w cs c)→takeAt g sz (n.toNat*sz) cs=some v→0≤n→n<(len:Int)→OpEnds X μ H w (.val v,H) K E →
  ∃ c,(Instr.index t cx (.int k n)).run P w=.ok c w∧K c w:=by
  rintro cs v k n ⟨c,rfl,hc⟩ hv h0 h1 hK
  obtain⟨c',r1,r2⟩:=takeAt_part (P:=P) hc hv hg (fun _=>hs)
  refine⟨c',?_,hK _ _ (St.here f.inv r2)⟩
  simp only[Instr.index,asIntOf,Sem.run_bind,Sem.run_pure,Result.andThen_ok,run_und ht,h0,h1,and_self,if_true,run_sizeOf hs,r1]
 simp only[evOp] at hq
 split at hq
 ·rename_i k n hv
  have hy:=vInt_ok f h2 hv
  rw[hy]
  split at hq
  ·rename_i hc
   split at hq
   ·rename_i ds hp
    obtain⟨v,hv,rfl⟩:=okO_eq hq
    exact fin (agg_of (.inr ⟨ds,hp,rfl⟩) hx) hv hc.1 hc.2 hKE
   ·rename_i cs hp
    obtain⟨v,hv,rfl⟩:=okO_eq hq
    exact fin (agg_of (.inl hp) hx) hv hc.1 hc.2 hKE
   ·cases hq
  ·cases hq
 ·cases hq
theorem op_ext (f:Fr P X μ H w e act) {x:Operand}{k:Nat}{a:Ar} (h:trA P x=some a) {q:Re×Hp} (hq:evOp call (.ext a k) e H=some q) (hKE:OpEnds X μ H w q K E) :
 ∃ c,(Instr.extract (act.eval x) k).run P w=.ok c w∧K c w:=by
 have hx:=f.val h
 generalize act.eval x=cx at hx ⊢
 simp only[evOp] at hq
 split at hq
 ·rename_i vs hp
  rw[hp] at hx
  obtain⟨v,hv,rfl⟩:=okD_eq hq
  cases hx with
  | d _ _ hx =>
    cases hx with
    | tup _ c ha hr =>
      obtain⟨c',h1,h2⟩:=HDs.get ⟨ha,hr⟩ hv
      exact⟨c',by simp[Instr.extract,h1],hKE _ _ (St.here f.inv (.d _ _ h2))⟩
 ·rename_i vs hp
  rw[hp] at hx
  obtain⟨v,hv,rfl⟩:=okO_eq hq
  cases hx with
  | tup _ c ha hr =>
    have hl:k<c.size:=by rw[ha];exact(List.getElem?_eq_some_iff.1 hv).1
    have:=hr k v hv
    rw[Array.getD_eq_getD_getElem?,Array.getElem?_eq_getElem hl] at this
    exact⟨c[k],by simp[Instr.extract,Array.getElem?_eq_getElem hl],hKE _ _ (St.here f.inv this)⟩
 ·cases hq
theorem op_len (f:Fr P X μ H w e act) {x:Operand}{t:TypeId}{rest:List TypeId}{a:Ar}{ty:TypeId}{str:Bool} (h:trA P x=some a) (ht:if str then P.underlying t=some .string else ∃ el,P.underlying t=some (.slice el)) {q:Re×Hp}
 (hq:evOp call (.len str a) e H=some q) (hKE:OpEnds X μ H w q K E):∃ c,(Builtin.len_ (t::rest).toArray ty #[act.eval x]).run P w=.ok c w∧K c w:=by
 have hx:=f.val h
 generalize act.eval x=cx at hx ⊢
 simp only[evOp] at hq
 split at hq
 ·rename_i l hp
  rw[hp] at hx
  split at hq
  ·rename_i hs
   rw[if_pos hs] at ht
   cases hq
   cases hx with
   | d _ _ hx=>cases hx with
     | s =>
       have hsz:(ByteArray.mk l.toArray).size=l.length:=by simp[ByteArray.size]
       exact⟨.int .i64 l.length,by simp[Builtin.len_,run_und ht,goInt,hsz],hKE _ _ (St.here f.inv (.d _ _ (.i _ _)))⟩
  ·cases hq
 ·rename_i l hp
  rw[hp] at hx
  split at hq
  ·cases hq
  ·rename_i hs
   rw[if_neg hs] at ht
   obtain⟨el,hu⟩:=ht
   cases hq
   cases hx with
   | d _ _ hx =>
     have:∃ ad cap,cx=.slice ad l.length cap:=by cases hx<;>exact⟨_,_,rfl⟩
     obtain⟨ad,cap,rfl⟩:=this
     exact⟨.int .i64 l.length,by simp[Builtin.len_,run_und hu,goInt],hKE _ _ (St.here f.inv (.d _ _ (.i _ _)))⟩
 ·rename_i o n hp
  rw[hp] at hx
  split at hq
  ·cases hq
  ·rename_i hs
   rw[if_neg hs] at ht
   obtain⟨el,hu⟩:=ht
   cases hq
   cases hx with
   | gr _ _ cap ad ho hg=>exact⟨.int .i64 n,by simp[Builtin.len_,run_und hu,goInt],hKE _ _ (St.here f.inv (.d _ _ (.i _ _)))⟩
 ·cases hq
theorem op_mkSl (f:Fr P X μ H w e act) {t el:TypeId}{sz bytes:Nat}{z:List D}{x y:Operand}{a b:Ar} (ht:elemT P t=some el) (hs:sizeT P el=some sz) (hby:bytesT P el=some bytes) (hz:zeroT P el=some z)
 (h1:trA P x=some a) (h2:trA P y=some b) {q:Re×Hp} (hq:evOp call (.mkSl el sz bytes z a b) e H=some q) (hKE:OpEnds X μ H w q K E) :
 ∃ c w',(Instr.makeSlice t (act.eval x) (act.eval y)).run P w=.ok c w'∧K c w':=by
 obtain⟨info,zv,hinfo,hzero,hzd⟩:=zeroT_ok hz
 have hisz:=sizeT_info hinfo hs
 have hiby:=bytesT_info hinfo hby
 simp only[evOp] at hq
 split at hq
 ·rename_i k n k' m hv1 hv2
  rw[vInt_ok f h1 hv1,vInt_ok f h2 hv2]
  unfold cIf at hq
  split at hq
  ·rename_i hc
   obtain⟨rfl,rfl,c1,c2,c3,c4,c5,c6,c7⟩:=hc
   cases hq
   have hrun:=run_make (P:=P) w t el info zv (elemT_ok ht) hinfo hzero .i64 .i64 n m c1 c2 (by rw[hiby,Int.mul_comm];omega) (by omega)
   rw[hisz] at hrun
   refine⟨_,_,hrun,?_⟩
   have hv3:=hzd (Own X μ H) w
   have hvs:zv.cells.size=sz:=by rw[hv3.1,c5]
   have hcs:(madeCells zv.cells (m.toNat*sz)).size=m.toNat*sz:=by simp[madeCells]
   have hget:∀ k,k<n.toNat*sz→(madeCells zv.cells (m.toNat*sz)).getD k undef=zv.cells.getD (k%sz) undef:=by
    intro k hk
    have hmod:k%sz<zv.cells.size:=by rw[hvs];exact Nat.mod_lt _ c6
    have hk':k<m.toNat*sz:=Nat.lt_of_lt_of_le hk (Nat.mul_le_mul_right _ (by omega))
    simp[madeCells,Array.getD_eq_getD_getElem?,hk',hvs,Array.getElem!_eq_getD,Array.getElem?_eq_getElem hmod]
   obtain⟨r1,r2⟩:=zero_row (μ:=μ) (H:=H) (O:=Own X μ H) hv3 c5 c7 hget
   have hle:n.toNat*sz≤m.toNat*sz:=Nat.mul_le_mul_right _ (by omega)
   have:=push_gr f.inv (c:=madeCells zv.cells (m.toNat*sz)) el c6 r2 (by rw[hcs];simpa using hle) r1 w (.inl rfl) (cap:=m.toNat) (by simp;omega) (by rw[hcs];exact Nat.le_refl _)
   simp only[List.length_replicate] at this
   exact hKE _ _ this
  ·cases hq
 ·cases hq
theorem op_mm (f:Fr P X μ H w e act) {isMax:Bool}{xs:Array Operand}{as:List Ar}{ts:Array TypeId}{ty:TypeId} (h:trAs P xs.toList=some as) {q:Re×Hp} (hq:evOp call (.mm isMax as) e H=some q) (hKE:OpEnds X μ H w q K E) :
 ∃ c,(if isMax then Builtin.max_ ts ty (xs.map act.eval) else Builtin.min_ ts ty (xs.map act.eval)).run P w=.ok c w∧K c w:=by
 have hx:=trAs_arr h f.env f.gl (Nat.le_refl _)
 generalize xs.map act.eval=cx at hx ⊢
 simp only[evOp] at hq
 split at hq
 ·rename_i k a k' b hp
  rw[hp] at hx
  split at hq
  ·rename_i hk
   subst hk
   cases hq
   have hl:=hx.1
   have e0:=hx.2 0 _ rfl
   have e1:=hx.2 1 _ rfl
   have hc:cx = #[.int k a,.int k b]:=by
    apply Array.ext'
    have h2:cx.toList.length=2:=by simpa using hl
    match hcl:cx.toList,h2 with
    | [c0,c1],_ =>
      have g0:cx.getD 0 undef=c0:=by rw[Array.getD_eq_getD_getElem?];have:cx[0]? = some c0:=by rw[← Array.getElem?_toList,hcl];rfl
                                     simp[this]
      have g1:cx.getD 1 undef=c1:=by rw[Array.getD_eq_getD_getElem?];have:cx[1]? = some c1:=by rw[← Array.getElem?_toList,hcl];rfl
                                     simp[this]
      rw[g0] at e0;rw[g1] at e1
      cases e0 with
      | d _ _ e0=>cases e0;cases e1 with
        | d _ _ e1=>cases e1;rfl
   subst hc
   cases isMax
   ·exact⟨.int k (if b<a then b else a),by simp[Builtin.min_,Builtin.min2],by have:=hKE (.int k (if b<a then b else a)) w (St.here f.inv (.d _ _ (.i _ _)));exact this⟩
   ·exact⟨.int k (if b>a then b else a),by simp[Builtin.max_,Builtin.max2],by have:=hKE (.int k (if b>a then b else a)) w (St.here f.inv (.d _ _ (.i _ _)));exact this⟩
  ·cases hq
 ·cases hq
theorem frz_ok (hi:Inv X μ H w) {v:V}{c:Value} (hv:HV (Own X μ H) μ H H.length w v c) {q:Re×Hp} (hq:frzV H v=some q) (hKE:OpEnds X μ H w q K E):K c w:=by
 unfold frzV at hq
 split at hq
 ·rename_i o n
  split at hq
  ·rename_i ty sz xs hg
   split at hq
   ·rename_i hn
    split at hq
    ·rename_i ds hds
     cases hq
     have hxd:=allD_some hds
     subst hxd
     have hol:=hget_lt hg
     have hob:ownedO H o:=by unfold ownedO;rw[hg];trivial
     have hown:∀ b,Own X μ (hset H o .dead) b→Own X μ H b∧μ o≠some b:=by
      rintro b (h | ⟨o',ho',hm'⟩)
      ·exact⟨.inl h,fun h'=>hi.xs o b hob h' h⟩
      ·have hne:o'≠o:=fun h=>by subst h;unfold ownedO at ho'; rw[hget_hset_self _ hol] at ho'; exact ho'
       have ho2:ownedO H o':=by unfold ownedO at ho' ⊢; rw[hget_hset_other _ (Ne.symm hne)] at ho'; exact ho'
       exact⟨.inr ⟨o',ho2,hm'⟩,fun h'=>hi.inj o' o b hne ho2 hob hm' h'⟩
     have hx:Ext X μ H w μ (hset H o .dead) w :=
      { size:=Nat.le_refl _,os:=rfl,tape:=rfl,output:=rfl,len:=by rw[hset_length];exact Nat.le_refl _,blk:=fun _ _ _=>rfl,xblk:=fun _ _=>rfl
        own:=fun b _ h=>(hown b h).1,shape:=fun b c e h _ _=>⟨c,e,h,rfl⟩
        mu:=fun o' ho' hg'=>⟨rfl,by
         have hne:o'≠o:=fun h=>by subst h;apply hg'; unfold isGr;rw[hg];trivial
         unfold isGr at hg' ⊢; rw[hget_hset_other _ (Ne.symm hne)];exact hg'⟩
        gr:=fun o' ty' sz' xs' ho' h=>by
         have hne:o'≠o:=fun h'=>by subst h'; rw[hget_hset_self _ hol] at h;cases h
         rw[hget_hset_other _ (Ne.symm hne)] at h;exact⟨xs',h,Nat.le_refl _,fun _=>rfl⟩ }
     have hi':Inv X μ (hset H o .dead) w:=hi.step hx o .dead (hget_hset_self _ hol) (fun o' ho'=>hget_hset_other _ (Ne.symm ho')) (fun _ _=>rfl) (fun _ _ _ _ _=>rfl) trivial (fun b h1 _=>by unfold ownedO at h1;rw[hget_hset_self _ hol] at h1;exact h1.elim)
     refine hKE c w ⟨μ,hi',hx,.d _ _ ?_⟩
     cases hv with
     | gr _ _ cap a h hgr =>
       obtain⟨_,h2⟩:=hgr _ sz _ hg
       obtain⟨hsz,hxs,hblk⟩:=hi.obj o _ hg
       rcases h2 hn with ⟨m0,hn0,ha,hcap⟩ | ⟨b,cs,e,hmu,ha,hnc,hb,hs⟩
       ·subst ha;subst hcap
        have hx0:ds=[]:=List.eq_nil_of_length_eq_zero (by simp at hn;omega)
        subst hx0
        have:n=0:=hn0
        subst this
        exact .ls0
       ·subst ha
        rcases hblk with ⟨m0,_⟩ | ⟨b',c',hm',hb',hl,hr⟩
        ·rw[hmu] at m0;cases m0
        ·rw[hmu] at hm'; cases hm'
         rw[hb] at hb'; cases hb'
         have hml:n=ds.length:=by simp at hn;omega
         rw[hml]
         refine .ls ds b 0 cap sz (fun j=>cs.getD j undef) hsz (fun _ h=>(hown b h).2 hmu) (by omega) ?_ ?_ ?_
         ·intro j hj
          have hj':j<cs.size:=by simp at hl;omega
          rw[Nat.zero_add]
          simp[World.cell?,hb,Array.getD_eq_getD_getElem?,Array.getElem?_eq_getElem hj']
         ·intro i x hx
          have:=(hxs (.d x) (List.mem_map.2 ⟨x,List.mem_of_getElem? hx,rfl⟩)).1
          simpa[V.cells] using this
         ·intro i x j v hx' hv'
          have:=hr i (.d x) j (.d v) (by simp[hx']) (by simp[V.cells,hv'])
          cases this with
          | d _ _ h=>exact h.mono (fun _ _ _=>rfl) (fun b _ h=>(hown b h).1)
    ·cases hq
   ·cases hq
  ·cases hq
 ·cases hq;exact hKE _ _ (St.here hi hv)
 ·cases hq
end
end
section
open Go
section
variable {P:Program}{call:CallF}{X:Cx}{μ:Nat→Option Nat}{H:Hp}{w:World}{e:En}{act:Act}{K E:Value→World→Prop}
theorem exk {s:Sem Value} (h:∃ c,s.run P w=.ok c w∧K c w):Up P K E ((do pure (Next.value (← s)):Sem Next).run P w):=by
 obtain⟨c,h1,h2⟩:=h;exact up_v h1 h2
theorem exk' {s:Sem Value} (h:∃ c w',s.run P w=.ok c w'∧K c w'):Up P K E ((do pure (Next.value (← s)):Sem Next).run P w):=by
 obtain⟨c,w',h1,h2⟩:=h;exact up_v h1 h2
theorem op_call (hcall:CallOk P call) (f:Fr P X μ H w e act) {c:Call}{fo:Operand}{fa:Ar}{as:List Ar}{keep:Bool}{ty:TypeId} (hc:c.callee=.value fo) (h1:trA P fo=some fa) (h2:trAs P c.args.toList=some as)
 (hbody:CallB P call) {q:Re×Hp}
 (hq:evOp call (.call keep fa as) e H=some q) (hKE:OpEnds X μ H w q K E):Up P K E ((do let d ← resolve act.eval c ty;invoke d.target d.args:Sem Next).run P w):=by
 have hf:=f.val h1
 have ha:=trAs_arr h2 f.env f.gl (Nat.le_refl _)
 simp only[evOp] at hq
 have hres:∀ (g:FuncId) (first cap:Array Value),act.eval fo=.func (.func g) first cap→(resolve act.eval c ty).run P w=.ok { target:=.fn (.func g) cap,args:=first++c.args.map act.eval } w:=by
  intro g first cap hv
  simp only[resolve,hc,hv,Deferred.ofValue,Sem.run_pure]
 have go:∀ (g:FuncId) (first cap:Array Value) (vs:List V) (r:Out×Hp),act.eval fo=.func (.func g) first cap→call (.fn g) vs H=some r→fin keep H r=some q →
  HVs (Own X μ H) μ H H.length w vs (first++c.args.map act.eval++cap)→Up P K E ((do let d ← resolve act.eval c ty;invoke d.target d.args:Sem Next).run P w):=by
  intro g first cap vs r hv hr hfin hvs
  obtain⟨fn,hfn,hb,hname⟩:=hbody g vs H r hr
  have hn : (fn.name == "runtime.NumGoroutine") = false := by simpa using hname
  have hb':fn.body.isNone=false:=by cases h:fn.body<;>simp_all
  simp only[Sem.run_bind,hres g first cap hv,Result.andThen_ok,invoke,callFunc,run_program,hfn,hn,hb',Bool.false_eq_true,if_false,Sem.run_pure]
  exact(hcall.fn g vs H r hr X μ w _ f.hp f.inv f.gl hvs).mono fun en w' he=>fin_ok f.inv hfin hKE he
 unfold callV at hq
 split at hq
 ·rename_i g first cap hp
  rw[hp] at hf
  split at hq
  ·rename_i r hr
   generalize hcv:act.eval fo=cv at hf
   cases hf with
   | d _ _ hf =>
     cases hf with
     | fn _ _ _ a b h3 h4 h5 h6 =>
       exact go g a b _ r hcv hr hq (HVs_append (HVs_append (HVs_d.2 ⟨h3,h5⟩) ha) (HVs_d.2 ⟨h4,h6⟩))
  ·cases hq
 ·rename_i g first cap hp
  rw[hp] at hf
  split at hq
  ·rename_i r hr
   generalize hcv:act.eval fo=cv at hf
   cases hf with
   | fn _ _ _ a b h3 h4 h5 h6 =>
     exact go g a b _ r hcv hr hq (HVs_append (HVs_append ⟨h3,h5⟩ ha) ⟨h4,h6⟩)
  ·cases hq
 ·rename_i o hp
  rw[hp] at hf
  split at hq
  ·rename_i r hr
   generalize hcv:act.eval fo=cv at hf
   cases hf with
   | yl _ l ho hm hg =>
     obtain⟨fn,tmps,asg,body,hy,hround⟩:=hcall.yl o _ H r hr X μ w _ l f.hp f.inv f.gl ha hm
     have hres:(resolve act.eval c ty).run P w=.ok { target:=.fn (.yield l) #[],args := #[]++c.args.map act.eval } w:=by
      simp only[resolve,hc,hcv,Deferred.ofValue,Sem.run_pure]
     simp only[Sem.run_bind,hres,Result.andThen_ok,invoke,Array.empty_append,hy]
     exact hround.mono fun en w' he=>fin_ok f.inv hq hKE he
  ·cases hq
 ·cases hq
set_option maxHeartbeats 2000000 in
theorem evOp_ok (hcall:CallOk P call) (hbody:CallB P call)
 (f:Fr P X μ H w e act) {m:Nat}{o:Oper}{so:SOp} (ht:trOp P m o.type o.op=some so) {q:Re×Hp} (hq:evOp call so e H=some q) (hKE:OpEnds X μ H w q K E) :
 Up P K E ((execOp act.eval o).run P w):=by
 obtain⟨dst,op,ty,pos,after,guard⟩:=o
 simp only at ht
 unfold execOp
 dsimp only
 cases op with
 | move x =>
   simp only[trOp] at ht
   split at ht
   ·obtain⟨a,ha,rfl⟩:=Option.map_eq_some_iff.1 ht
    simp only[evOp] at hq
    exact frz_ok f.inv (f.val ha) hq hKE
   ·obtain⟨a,ha,rfl⟩:=Option.map_eq_some_iff.1 ht
    simp only[evOp,ok] at hq;cases hq
    exact op_move f ha hKE
 | assign x =>
   simp only[trOp] at ht
   split at ht
   ·split at ht
    ·rename_i el hel
     split at ht
     ·rename_i n hn
      split at ht
      ·rename_i hn0
       cases ht
       simp only[evOp,ok] at hq;cases hq
       exact hKE _ _ (push_gr_nil f.inv hn0)
      ·cases ht
     ·cases ht
    ·cases ht
   ·obtain⟨a,ha,rfl⟩:=Option.map_eq_some_iff.1 ht
    simp only[evOp,ok] at hq;cases hq
    exact op_move f ha hKE
 | pick c x y =>
   simp only[trOp] at ht
   split at ht
   ·rename_i c' x' y' h1 h2 h3
    cases ht
    exact op_pick f h1 h2 h3 hq hKE
   ·cases ht
 | alloc t =>
   simp only[trOp] at ht
   split at ht
   ·split at ht
    ·rename_i z fs hz _
     split at ht
     ·rename_i k el n _
      cases ht
      simp only[evOp] at hq
      split at hq
      ·rename_i hk
       split at hq
       ·rename_i hn
        simp only[ok] at hq;cases hq
        exact op_allocG (act:=act) f.inv hz hk hn hKE
       ·cases hq
      ·cases hq
     ·cases ht
    ·cases ht
   ·obtain⟨z,hz,rfl⟩:=Option.map_eq_some_iff.1 ht
    simp only[evOp,ok] at hq;cases hq
    exact op_alloc (act:=act) f.inv hz hKE
 | box t x =>
   simp only[trOp] at ht
   obtain⟨a,ha,rfl⟩:=Option.map_eq_some_iff.1 ht
   exact op_box f ha hq hKE
 | build t parts=>exact exk (op_build f ht hq hKE)
 | buildSlice t len parts=>exact exk' (op_bslice f ht hq hKE)
 | insert _ _ _ _=>simp[trOp] at ht
 | load t a =>
   simp only[trOp] at ht
   split at ht
   ·rename_i g n a' h1 h2 h3
    split at ht
    ·cases ht
     simp only[evOp] at hq
     split at hq
     ·rename_i o i ho
      split at hq
      ·rename_i cs hg
       split at hq
       ·rename_i v hv
        have hl:evOp call (.load g (if g then n else 1) a') e H=some (.val v,H):=by simp only[evOp,ho,hg,hv,okO]
        obtain⟨c,r1,r2⟩:=op_load (K:=fun c w'=>K c w') (E:=fun _ _=>True) f h1 h2 h3 hl (fun c w' hs=>by
         obtain⟨μ',i',x',hv'⟩:=hs
         exact frz_ok i' hv' hq (by
          obtain⟨q1,q2⟩:=q
          cases q1 with
          | val v=>exact fun c w' hs'=>hKE c w' (by obtain⟨μ2,a1,a2,a3⟩:=hs'; exact⟨μ2,a1,x'.trans a2,a3⟩)
          | pan v=>exact fun c w' hs'=>hKE c w' (by obtain⟨μ2,a1,a2,a3⟩:=hs'; exact⟨μ2,a1,x'.trans a2,a3⟩)))
        exact exk ⟨c,r1,r2⟩
       ·cases hq
      ·cases hq
     ·cases hq
    ·cases ht
     exact exk (op_load f h1 h2 h3 hq hKE)
   ·cases ht
 | store t a x =>
   simp only[trOp] at ht
   split at ht
   ·rename_i n a' x' h1 h2 h3
    cases ht
    obtain⟨w',r1,r2⟩:=op_store f h1 h2 h3 hq hKE
    exact up_u r1 r2
   ·cases ht
 | ready _=>simp[trOp] at ht
 | waits _=>simp[trOp] at ht
 | nilCheck x =>
   dsimp only
   simp only[trOp] at ht
   obtain⟨a,ha,rfl⟩:=Option.map_eq_some_iff.1 ht
   have hx:=f.val ha
   simp only[evOp,ok] at hq
   have hK:∀ {v:V},q=(.val v,H)→aval e a=v→K (act.eval x) w:=fun h1 h2=>by
    subst h1;exact hKE _ _ (St.here f.inv (h2▸hx))
   split at hq
   ·rename_i o i hp
    have hk:=hK (by cases hq;rfl) hp
    rw[hp] at hx
    generalize act.eval x=cx at hx hk ⊢
    cases hx;exact hk
   ·rename_i o n i off hp
    have hk:=hK (by cases hq;rfl) hp
    rw[hp] at hx
    generalize act.eval x=cx at hx hk ⊢
    cases hx;exact hk
   ·rename_i cs hp
    have hk:=hK (by cases hq;rfl) hp
    rw[hp] at hx
    generalize act.eval x=cx at hx hk ⊢
    cases hx with
    | d _ _ hx=>cases hx;exact hk
   ·rename_i g a' b' hp
    have hk:=hK (by cases hq;rfl) hp
    rw[hp] at hx
    generalize act.eval x=cx at hx hk ⊢
    cases hx with
    | d _ _ hx=>cases hx;exact hk
   ·rename_i g a' b' hp
    have hk:=hK (by cases hq;rfl) hp
    rw[hp] at hx
    generalize act.eval x=cx at hx hk ⊢
    cases hx;exact hk
   ·cases hq
 | binOp op t x y yt =>
   simp only[trOp] at ht
   split at ht
   ·rename_i a b h1 h2
    have plain:∀ {bo:BinOp},some (SOp.bin bo a b)=some so→bo=op→Up P K E ((do pure (Next.value (← (do eqGuard op t x y (act.eval x) (act.eval y);binOp op t (act.eval x) (act.eval y):Sem Value))):Sem Next).run P w):=by
     intro bo h hb;cases h;subst hb;exact exk (op_bin f h1 h2 hq hKE)
    have equ:∀ {neg:Bool},trEq P neg t a b=some so→op=(if neg then .neq else .eql)→Up P K E ((do pure (Next.value (← (do eqGuard op t x y (act.eval x) (act.eval y);binOp op t (act.eval x) (act.eval y):Sem Value))):Sem Next).run P w):=by
     intro neg h ho
     subst ho
     unfold trEq at h
     split at h
     ·exact plain h rfl
     ·exact plain h rfl
     ·rename_i hu;cases h;exact exk (op_eqB f hu h1 h2 hq hKE)
     ·rename_i fs hu
      split at h
      ·rename_i ks hk
       split at h
       ·rename_i hm;cases h;exact exk (op_eqS f hu hk hm h1 h2 hq hKE)
       ·cases h
      ·cases h
     ·cases h
    split at ht
    ·exact equ (neg:=false) ht rfl
    ·exact equ (neg:=true) ht rfl
    ·exact plain ht rfl
   ·cases ht
 | unOp op t x =>
   simp only[trOp] at ht
   obtain⟨a,ha,rfl⟩:=Option.map_eq_some_iff.1 ht
   exact exk (op_un f ha hq hKE)
 | convert src dst x =>
   simp only[trOp] at ht
   split at ht
   ·rename_i k k' a h1 h2 h3
    cases ht
    exact exk (op_conv f h3 h1 h2 hq hKE)
   ·rename_i el a h1 h2 h3
    split at ht
    ·rename_i h4;cases ht;exact exk (op_convBS f h3 h1 h2 h4 hq hKE)
    ·cases ht
   ·cases ht
 | sliceToArrayPointer _ _=>simp[trOp] at ht
 | makeInterface t x =>
   simp only[trOp] at ht
   have hgo:∀ {d:TypeDesc},P.underlying t=some d→(∀ ms,d≠.interface ms)→∀ {a:Ar},trA P x=some a→evOp call (.mkI t a) e H=some q→Up P K E ((do pure (Next.value (← Instr.makeInterface t (act.eval x))):Sem Next).run P w):=by
    intro d hd hni a ha hq
    have hx:=f.val ha
    refine up_v (c:=.iface t (act.eval x)) (w':=w) ?_ ?_
    ·simp only[Instr.makeInterface,Sem.run_bind,run_und hd,Result.andThen_ok]
     cases d<;>first | exact absurd rfl (hni _) | rfl
    ·simp only[evOp] at hq
     split at hq
     ·cases hq
     ·simp only[ok] at hq;cases hq;exact hKE _ _ (St.here f.inv (HV_mkIfc hx))
   split at ht
   ·cases ht
   ·rename_i d hni hd
    obtain⟨a,ha,rfl⟩:=Option.map_eq_some_iff.1 ht
    exact hgo hd (fun ms h=>hni ms h) ha hq
   ·cases ht
 | makeFunc fn a b =>
   cases fn with
   | func g =>
     simp only[trOp] at ht
     split at ht
     ·rename_i a' b' h1 h2
      cases ht
      simp only[evOp,ok] at hq;cases hq
      refine up_v (c:=.func (.func g) (a.map act.eval) (b.map act.eval)) (w':=w) rfl ?_
      exact hKE _ _ (St.here f.inv (HV_mkFn (trAs_arr h1 f.env f.gl (Nat.le_refl _)) (trAs_arr h2 f.env f.gl (Nat.le_refl _))))
     ·cases ht
   | _=>simp[trOp] at ht
 | makeMap _ _=>simp[trOp] at ht
 | makeChan _ _=>simp[trOp] at ht
 | makeSlice t l c =>
   simp only[trOp] at ht
   split at ht
   ·rename_i el hel
    split at ht
    ·rename_i n bs z l' c' h1 h2 h3 h4 h5
     cases ht
     exact exk' (op_mkSl f hel h1 h2 h3 h4 h5 hq hKE)
    ·cases ht
   ·cases ht
 | slice t x lo hi mx =>
   cases mx with
   | some _=>simp[trOp] at ht
   | none =>
     simp only[trOp] at ht
     split at ht
     ·rename_i a lo' hi' h1 h2 h3
      split at ht
      ·rename_i hu;cases ht;exact exk (op_slS f hu h1 h2 h3 hq hKE)
      ·rename_i el hu
       obtain⟨n,hn,rfl⟩:=Option.map_eq_some_iff.1 ht
       exact exk (op_slL f hu hn h1 h2 h3 hq hKE)
      ·cases ht
     ·cases ht
 | fieldAddr s x k =>
   simp only[trOp] at ht
   split at ht
   ·rename_i off ft a h1 h2
    split at ht
    ·rename_i n hn
     split at ht
     ·rename_i hn0;cases ht;exact exk (op_fieldAddr f h1 hn hn0 h2 hq hKE)
     ·cases ht
    ·cases ht
   ·cases ht
 | field s x k =>
   simp only[trOp] at ht
   split at ht
   ·rename_i off ft a h1 h2
    split at ht
    ·rename_i g n hg hn;cases ht;exact exk (op_field f h1 hg hn h2 hq hKE)
    ·cases ht
   ·cases ht
 | indexAddr t x i =>
   simp only[trOp] at ht
   split at ht
   ·rename_i a b h1 h2
    split at ht
    ·rename_i el hu
     split at ht
     ·rename_i n hn
      split at ht
      ·rename_i hn0;cases ht;exact exk (op_ixS f hu hn hn0 h1 h2 hq hKE)
      ·cases ht
     ·cases ht
    ·rename_i len el hu
     split at ht
     ·rename_i n hn
      split at ht
      ·rename_i hn0;cases ht;exact exk (op_ixA f hu hn hn0 h1 h2 hq hKE)
      ·cases ht
     ·cases ht
    ·cases ht
   ·cases ht
 | index t x i =>
   simp only[trOp] at ht
   split at ht
   ·rename_i a b h1 h2
    split at ht
    ·rename_i hu;cases ht;exact exk (op_ixStr f hu h1 h2 hq hKE)
    ·rename_i len el hu
     split at ht
     ·rename_i g n hg hn
      split at ht
      ·cases ht;exact exk (op_ixAg f hu hg hn h1 h2 hq hKE)
      ·cases ht
     ·cases ht
    ·cases ht
   ·cases ht
 | lookup _ _ _ _=>simp[trOp] at ht
 | mapUpdate _ _ _ _=>simp[trOp] at ht
 | mapEntry _ _ _=>simp[trOp] at ht
 | entryStore _ _ _ _=>simp[trOp] at ht
 | range _ _=>simp[trOp] at ht
 | next _ _=>simp[trOp] at ht
 | entry _=>simp[trOp] at ht
 | typeAssert x xT t cm =>
   cases cm with
   | false=>simp[trOp] at ht
   | true =>
     simp only[trOp] at ht
     split at ht
     ·rename_i want a hu hz ha
      cases ht
      obtain⟨i,hi,hiz⟩:∃ i,P.info? t=some i∧i.zero=some .nilIface:=by
       cases hinf:P.info? t with
       | none=>rw[hinf] at hz;cases hz
       | some i=>rw[hinf] at hz;exact⟨i,rfl,hz⟩
      have hx:=f.val ha
      have hhas:∀ t' c,((List.range P.types.size).filter (hasT P want)).contains t'=true→(Instr.typeAssert (.iface t' c) xT t true).run P w=.ok (.tuple #[.iface t' c,.bool true]) w:=by
       intro t' c hc
       simp only[List.contains_iff_mem,List.mem_filter] at hc
       have hb:=hc.2
       unfold hasT at hb
       cases hinf:P.info? t' with
       | none=>rw[hinf] at hb;cases hb
       | some j=>rw[hinf] at hb;exact run_typeAssert_has hu hinf (List.isEmpty_iff.1 hb)
      simp only[evOp] at hq
      generalize hcv:act.eval x=cx at hx
      split at hq
      ·rename_i hp
       simp only[ok] at hq;cases hq
       rw[hp] at hx
       cases hx with
       | d _ _ hx =>
         cases hx with
         | nili =>
           refine exk ⟨.tuple #[.nilIface,.bool false],by rw[hcv];simp[Instr.typeAssert,run_underlying hu,zeroValue,typeInfo,hi,hiz],hKE _ _ (St.here f.inv (.d _ _ (.tup _ _ rfl ?_)))⟩
           intro j v hj
           match j,hj with
           | 0,hj=>cases hj;exact .nili
           | 1,hj=>cases hj;exact .b false
      ·rename_i t' v hp
       split at hq
       ·rename_i hc
        simp only[ok] at hq;cases hq
        rw[hp] at hx
        cases hx with
        | d _ _ hx =>
          cases hx with
          | ifc _ _ c hcv' =>
            refine exk ⟨_,(by rw[hcv];exact hhas t' c hc),hKE _ _ (St.here f.inv (.d _ _ (.tup _ _ rfl ?_)))⟩
            intro j v hj
            match j,hj with
            | 0,hj=>cases hj;exact .ifc _ _ _ hcv'
            | 1,hj=>cases hj;exact .b true
       ·cases hq
      ·rename_i t' v hp
       split at hq
       ·rename_i hc
        simp only[ok] at hq;cases hq
        rw[hp] at hx
        cases hx with
        | ifc _ _ c hcv' =>
          refine exk ⟨_,(by rw[hcv];exact hhas t' c hc),hKE _ _ (St.here f.inv (.tup _ _ rfl ?_))⟩
          intro j v hj
          match j,hj with
          | 0,hj=>cases hj;exact .ifc _ _ _ hcv'
          | 1,hj=>cases hj;exact .d _ _ (.b true)
       ·cases hq
      ·cases hq
     ·cases ht
 | extract x k =>
   simp only[trOp] at ht
   obtain⟨a,ha,rfl⟩:=Option.map_eq_some_iff.1 ht
   exact exk (op_ext f ha hq hKE)
 | call c =>
   dsimp only
   obtain⟨callee,args,argTypes⟩:=c
   simp only[trOp] at ht
   have hrb:∀ b,callee=.builtin b→(resolve act.eval ⟨callee,args,argTypes⟩ ty).run P w=.ok { target:=.builtin b argTypes ty (args.map fun | .const _=>true | _=>false),args:=args.map act.eval } w:=by
    intro b hb;subst hb;rfl
   cases callee with
   | builtin b =>
     have hrun:=hrb b rfl
     cases b with
     | len =>
       simp only at ht
       split at ht
       ·rename_i x t rest hx ht'
        have ha1:args = #[x]:=by apply Array.ext'; simpa using hx
        have ha2:argTypes=(t::rest).toArray:=by apply Array.ext'; simpa using ht'
        subst ha1;subst ha2
        rw[Sem.run_bind,hrun,show (#[x].map act.eval) = #[act.eval x] from by simp]
        show Up P K E ((do pure (Next.value (← Builtin.len_ (t::rest).toArray ty #[act.eval x])):Sem Next).run P w)
        split at ht
        ·rename_i a hu ha
         cases ht
         exact exk (op_len f ha (str:=true) (by simpa using hu) hq hKE)
        ·rename_i el a hu ha
         cases ht
         exact exk (op_len f ha (str:=false) (by simpa using ⟨el,hu⟩) hq hKE)
        ·cases ht
       ·cases ht
     | append =>
       simp only at ht
       split at ht
       ·rename_i sx x t t' hx ht'
        have ha1:args = #[sx,x]:=by apply Array.ext'; simpa using hx
        have ha2:argTypes = #[t,t']:=by apply Array.ext'; simpa using ht'
        subst ha1;subst ha2
        rw[Sem.run_bind,hrun,show (#[sx,x].map act.eval) = #[act.eval sx,act.eval x] from by simp]
        show Up P K E ((do pure (Next.value (← Builtin.append_ #[t,t'] ty #[act.eval sx,act.eval x])):Sem Next).run P w)
        have go:∀ {el n bs z s' x'},elemT P t=some el→(∃ d,P.underlying t'=some d∧(d=.slice el∨d=.string))→sizeT P el=some n→bytesT P el=some bs→zeroT P el=some z→trA P sx=some s'→trA P x=some x' →
         (0<bs∧0<n∧z.length=n)→so=(if m=1 then .appF el n bs s' x' else .app el n bs s' x')→Up P K E ((do pure (Next.value (← Builtin.append_ #[t,t'] ty #[act.eval sx,act.eval x])):Sem Next).run P w):=by
         intro el n bs z s' x' h1 h2 h3 h4 h5 h6 h7 h8 h9
         have key:∀ {q:Re×Hp}{K:Value→World→Prop},evApp el n bs (aval e s') (aval e x') H=some q→OpEnds X μ H w q K E→Up P K E ((do pure (Next.value (← Builtin.append_ #[t,t'] ty #[act.eval sx,act.eval x])):Sem Next).run P w):=by
          intro q K hq hKE
          simp only[evApp] at hq
          split at hq
          ·rename_i o n' ho
           have hs:=f.val h6
           rw[ho] at hs
           split at hq
           ·rename_i ty' sz' xs ys hg he
            unfold cIf at hq
            split at hq
            ·rename_i hc
             obtain⟨c0,c1,c2,c3,c4,c5,c6,c7⟩:=hc
             subst c0;subst c1
             obtain⟨c,w',r1,r2⟩:=append_ok (P:=P) (ty:=ty) f.inv h8.2.1 h1 h2 h3 h4 h5 h8.2.2 h8.1 hg c3 hs he (f.val h7) c5 c6
             cases hq
             exact exk' ⟨c,w',r1,hKE _ _ r2⟩
            ·cases hq
           ·cases hq
          ·cases hq
         split at h9
         ·subst h9
          simp only[evOp] at hq
          generalize hr:evApp el n bs (aval e s') (aval e x') H=r at hq
          cases r with
          | none=>simp[frzR] at hq
          | some r =>
            obtain⟨r1,r2⟩:=r
            cases r1 with
            | pan v =>
              simp only[frzR] at hq;cases hq
              exact key hr hKE
            | val v =>
              simp only[frzR] at hq
              refine key (K:=K) hr fun c w' hst=>?_
              obtain⟨μ1,i1,x1,v1⟩:=hst
              refine frz_ok (E:=E) i1 v1 hq ?_
              obtain⟨q1,q2⟩:=q
              cases q1 with
              | val v'=>exact fun c2 w2 hst2=>hKE c2 w2 (by
               obtain⟨μ2,i2,x2,v2⟩:=hst2
               exact⟨μ2,i2,x1.trans x2,v2⟩)
              | pan v'=>exact fun c2 w2 hst2=>hKE c2 w2 (by
               obtain⟨μ2,i2,x2,v2⟩:=hst2
               exact⟨μ2,i2,x1.trans x2,v2⟩)
         ·subst h9
          simp only[evOp] at hq
          exact key hq hKE
        split at ht
        ·rename_i el el' hel hu
         split at ht
         ·cases ht
         ·rename_i htt
          simp only[ne_eq,Decidable.not_not] at htt
          subst htt
          have hel':=elemT_ok hel
          split at ht
          ·rename_i n bs z s' x' h3 h4 h5 h6 h7
           split at ht
           ·rename_i h8
            cases ht
            exact go hel ⟨_,hel',.inl rfl⟩ h3 h4 h5 h6 h7 h8 rfl
           ·cases ht
          ·cases ht
        ·rename_i el hel hu
         split at ht
         ·rename_i n bs z s' x' h3 h4 h5 h6 h7
          split at ht
          ·rename_i h8
           cases ht
           exact go hel ⟨_,hu,.inr rfl⟩ h3 h4 h5 h6 h7 h8 rfl
          ·cases ht
         ·cases ht
        ·cases ht
       ·cases ht
     | max =>
       simp only at ht
       obtain⟨as,has,rfl⟩:=Option.map_eq_some_iff.1 ht
       rw[Sem.run_bind,hrun]
       show Up P K E ((do pure (Next.value (← Builtin.max_ argTypes ty (args.map act.eval))):Sem Next).run P w)
       exact exk (op_mm f (isMax:=true) (ts:=argTypes) (ty:=ty) has hq hKE)
     | min =>
       simp only at ht
       obtain⟨as,has,rfl⟩:=Option.map_eq_some_iff.1 ht
       rw[Sem.run_bind,hrun]
       show Up P K E ((do pure (Next.value (← Builtin.min_ argTypes ty (args.map act.eval))):Sem Next).run P w)
       exact exk (op_mm f (isMax:=false) (ts:=argTypes) (ty:=ty) has hq hKE)
     | _=>simp at ht
   | value fo =>
     simp only at ht
     split at ht
     ·rename_i fa as h1 h2
      cases ht
      exact op_call hcall f rfl h1 h2 hbody hq hKE
     ·cases ht
   | invoke _ _=>simp at ht
 | go _=>simp[trOp] at ht
 | defer _=>simp[trOp] at ht
 | panic x =>
   simp only[trOp] at ht
   obtain⟨a,ha,rfl⟩:=Option.map_eq_some_iff.1 ht
   have hx:=f.val ha
   simp only[evOp] at hq
   have hrun:∀ t c,act.eval x=.iface t c→((do pure (Next.value (← Instr.panic (act.eval x))):Sem Next).run P w)=.halt (.panic (.iface t c)) w:=by
    intro t c h;simp[h,Instr.panic]
   split at hq
   ·rename_i t v hp
    cases hq
    generalize hcv:act.eval x=cx at hx
    rw[hp] at hx
    have hx':=hx
    cases hx with
    | d _ _ hx =>
      cases hx with
      | ifc _ _ c h=>rw[hrun _ _ hcv];exact hKE _ _ (St.here f.inv hx')
   ·rename_i t v hp
    cases hq
    generalize hcv:act.eval x=cx at hx
    rw[hp] at hx
    have hx':=hx
    cases hx with
    | ifc _ _ c h=>rw[hrun _ _ hcv];exact hKE _ _ (St.here f.inv hx')
   ·cases hq
 | send _ _=>simp[trOp] at ht
 | recv _ _ _=>simp[trOp] at ht
 | select _ _=>simp[trOp] at ht
end
end
end Go.Proofs.YtmiioebapckcoaaGreatDoor
