/- Part 4 of a proof: the small semantics, its soundness, the functions of the program in it, and the law. -/
import Derived.Tactics
import Derived.OrdersIn
import Derived.TacticsIn
import Derived.ScopeJumps
import Derived.RangeFuncIn
import Derived.RangeFuncRecord
import Derived.Test.YtmiioebapckcoaaGreatDoorJc
set_option linter.unusedVariables false
set_option linter.unusedSimpArgs false
namespace Go.Proofs.YtmiioebapckcoaaGreatDoor
section
open Go
section
variable {P:Program}{call:CallF}{X:Cx}{μ:Nat→Option Nat}{H:Hp}{w:World}{e:En}{a:Act}{Q:Exit→Act→World→Prop}
def Marks (w':World) (O:Bs) (b0:Nat) (ds ds0:List Deferred):Prop :=
 ∃ ms:List Nat,ds=ms.map (fun r=>{ target:=.collected r,args := #[] })++ds0∧ms.Nodup∧∀ r∈ms,b0≤r∧¬ O r∧w'.heap[r]? = some (.deferred (some []))
theorem Marks.refl (w':World) (O:Bs) (b0:Nat) (ds:List Deferred):Marks w' O b0 ds ds:=⟨[],rfl,.nil,by simp⟩
theorem Marks.of_eq {w':World}{O:Bs}{b0:Nat}{ds ds0:List Deferred} (h:ds=ds0):Marks w' O b0 ds ds0:=h▸Marks.refl ..
theorem Marks.mono {μ1 μ2:Nat→Option Nat}{H1 H2:Hp}{w1 w2:World}{b0:Nat}{ds ds0:List Deferred} (h:Marks w1 (Own X μ1 H1) b0 ds ds0) (hx:Ext X μ1 H1 w1 μ2 H2 w2):Marks w2 (Own X μ2 H2) b0 ds ds0:=by
 obtain⟨ms,h1,h0,h2⟩:=h
 refine⟨ms,h1,h0,fun r hr=>?_⟩
 obtain⟨g1,g2,g3⟩:=h2 r hr
 exact⟨g1,fun hO=>g2 (hx.own r (lt_of_heap g3) hO),(hx.blk r (lt_of_heap g3) g2).trans g3⟩
theorem Marks.trans {μ1 μ2:Nat→Option Nat}{H1 H2:Hp}{w1 w2:World}{b0:Nat}{ds2 ds1 ds0:List Deferred} (h:Marks w2 (Own X μ2 H2) w1.heap.size ds2 ds1) (k:Marks w1 (Own X μ1 H1) b0 ds1 ds0) (hx:Ext X μ1 H1 w1 μ2 H2 w2) (hb:b0≤w1.heap.size):Marks w2 (Own X μ2 H2) b0 ds2 ds0:=by
 obtain⟨ms,h1,h0,h2⟩:=h
 obtain⟨ns,k1,k0,k2⟩:=k
 refine⟨ms++ns,by rw[h1,k1];simp,List.nodup_append.2 ⟨h0,k0,fun r hr s hs=>?_⟩,fun r hr=>?_⟩
 ·have g1:=(h2 r hr).1
  have g2:=lt_of_heap (k2 s hs).2.2
  omega
 ·rcases List.mem_append.1 hr with hr | hr
  ·obtain⟨g1,g2,g3⟩:=h2 r hr;exact⟨by omega,g2,g3⟩
  ·obtain⟨g1,g2,g3⟩:=k2 r hr
   exact⟨g1,fun hO=>g2 (hx.own r (lt_of_heap g3) hO),(hx.blk r (lt_of_heap g3) g2).trans g3⟩
def At (X:Cx) (μ:Nat→Option Nat) (H:Hp) (w:World) (a:Act) (e':En) (H':Hp) (a':Act) (w':World):Prop :=
 ∃ μ',Inv X μ' H' w'∧Ext X μ H w μ' H' w'∧HE (Own X μ' H') μ' H' H'.length w' e' a'.tmps∧a'.tmps.size=a.tmps.size∧Marks w' (Own X μ' H') w.heap.size a'.defers a.defers
def StM (X:Cx) (μ:Nat→Option Nat) (H:Hp) (w:World) (a:Act) (H':Hp) (v:V) (c:Value) (a':Act) (w':World):Prop :=
 ∃ μ',Inv X μ' H' w'∧Ext X μ H w μ' H' w'∧HV (Own X μ' H') μ' H' H'.length w' v c∧a'.tmps.size=a.tmps.size∧Marks w' (Own X μ' H') w.heap.size a'.defers a.defers
def CEnds (X:Cx) (μ:Nat→Option Nat) (H:Hp) (w:World) (a:Act) (r:Ex×En×Hp) (Q:Exit→Act→World→Prop):Prop :=
 match r with
 | (.nor,e',H')=>∀ a' w',At X μ H w a e' H' a' w'→Q .normal a' w'
 | (.ex id,e',H')=>∀ a' w',At X μ H w a e' H' a' w'→Q (.exit id) a' w'
 | (.go l,e',H')=>∀ a' w',At X μ H w a e' H' a' w'→Q (.goto l) a' w'
 | (.rt,e',H')=>∀ a' w',At X μ H w a e' H' a' w'→Q .ret a' w'
 | (.pn v,_,H')=>∀ a' w' c,StM X μ H w a H' v c a' w'→Q (.panic [{ v:=c,recovered:=false }]) a' w'
theorem At.trans {μ1:Nat→Option Nat}{H1:Hp}{w1:World}{a1:Act} (hx:Ext X μ H w μ1 H1 w1) (hs:a1.tmps.size=a.tmps.size) (hd:Marks w1 (Own X μ1 H1) w.heap.size a1.defers a.defers) {e2:En}{H2:Hp}{a2:Act}{w2:World}
 (h:At X μ1 H1 w1 a1 e2 H2 a2 w2):At X μ H w a e2 H2 a2 w2:=by
 obtain⟨μ2,h1,h2,h3,h4,h5⟩:=h
 exact⟨μ2,h1,hx.trans h2,h3,h4.trans hs,h5.trans hd h2 hx.size⟩
theorem StM.trans {μ1:Nat→Option Nat}{H1:Hp}{w1:World}{a1:Act} (hx:Ext X μ H w μ1 H1 w1) (hs:a1.tmps.size=a.tmps.size) (hd:Marks w1 (Own X μ1 H1) w.heap.size a1.defers a.defers) {v:V}{c:Value}{H2:Hp}{a2:Act}{w2:World}
 (h:StM X μ1 H1 w1 a1 H2 v c a2 w2):StM X μ H w a H2 v c a2 w2:=by
 obtain⟨μ2,h1,h2,h3,h4,h5⟩:=h
 exact⟨μ2,h1,hx.trans h2,h3,h4.trans hs,h5.trans hd h2 hx.size⟩
theorem StM.of_St {v:V}{c:Value}{H':Hp}{w':World}{a':Act} (h:St X μ H w H' v c w') (hs:a'.tmps.size=a.tmps.size) (hd:a'.defers=a.defers):StM X μ H w a H' v c a' w':=by
 obtain⟨μ',h1,h2,h3⟩:=h
 exact⟨μ',h1,h2,h3,hs,Marks.of_eq hd⟩
theorem CEnds.trans {μ1:Nat→Option Nat}{H1:Hp}{w1:World}{a1:Act} (hx:Ext X μ H w μ1 H1 w1) (hs:a1.tmps.size=a.tmps.size) (hd:Marks w1 (Own X μ1 H1) w.heap.size a1.defers a.defers) {r:Ex×En×Hp}
 (h:CEnds X μ H w a r Q):CEnds X μ1 H1 w1 a1 r Q:=by
 obtain⟨x,e',H'⟩:=r
 cases x with
 | pn v=>exact fun a' w' c h1=>h a' w' c (h1.trans hx hs hd)
 | _=>exact fun a' w' h1=>h a' w' (h1.trans hx hs hd)
abbrev FW (ro:Option Nat):Fence:={ Fence.wide with round:=ro }
theorem callsIn_FW {ro:Option Nat}{n:Nat}{f:FuncId}{args:Array Value}{R:Ending→World→Prop}:CallsIn (FW ro) n P f args w R↔Calls P f args w R :=
 Iff.trans (b:=CallsIn Fence.wide n P f args w R) Iff.rfl callsIn_wide
theorem up_upon {ro:Option Nat}{o:Oper}{K:Act→World→Prop}{r:Result Next} (h:Up P (fun c w'=>K (a.put o.dst c) w') (fun c w'=>Q (.panic [{ v:=c,recovered:=false }]) a w') r):o.uponIn (FW ro) 0 P a K Q r:=by
 cases r with
 | ok n w' =>
   cases n with
   | value v=>exact h
   | skip=>exact h
   | enter f args =>
     refine⟨fun h=>by simp[Fence.wide] at h,callsIn_FW.2 (Calls.mono h fun e w'' he=>?_)⟩
     cases e with
     | returned c=>exact he
     | panicked ch=>obtain⟨c,rfl,hc⟩:=he;exact hc
     | outgrown=>exact he.elim
   | round l f tmps asg body =>
     refine⟨fun h=>by simp[Fence.wide] at h,?_⟩
     have h':RoundIn (FW ro) 0 P l f tmps asg body w' (EndK (fun c w'=>K (a.put o.dst c) w') (fun c w'=>Q (.panic [{ v:=c,recovered:=false }]) a w')):=h
     refine h'.mono fun e w'' he=>?_
     cases e with
     | returned c=>exact he
     | panicked ch=>obtain⟨c,rfl,hc⟩:=he;exact hc
     | outgrown=>exact he.elim
   | _=>exact h.elim
 | halt x w'=>cases x<;>exact h
theorem trOp_defer {m:Nat}{ty:TypeId}{op:Op}{so:SOp} (h:trOp P m ty op=some so):∀ c,op≠.defer c:=by
 intro c hc;subst hc;simp[trOp] at h
theorem wanted_ok {ops:Array Oper}{o:Oper}{g:Option (Nat×Bool)} (hg:trGuard ops.toList o.guard=some g) {O:Bs}{N:Nat} (he:HE O μ H N w e a.tmps) {b:Bool} (hb:wantsG e g=some b) :
 Region.wanted o (yielded ops a.tmps)=b:=by
 unfold Region.wanted
 unfold trGuard at hg
 cases hgd:o.guard with
 | none=>rw[hgd] at hg;cases hg;simp[wantsG] at hb;simp[hb]
 | some jw =>
   obtain⟨j,want⟩:=jw
   rw[hgd] at hg
   simp only at hg ⊢
   cases hj:ops.toList[j]? with
   | none=>rw[hj] at hg;cases hg
   | some o' =>
     rw[hj] at hg
     simp only at hg
     cases hd:o'.dst with
     | none=>rw[hd] at hg;cases hg
     | some t =>
       rw[hd] at hg;cases hg
       have hj':ops[j]? = some o':=by simpa using hj
       have ht:=he t
       simp only[wantsG] at hb
       have hy:∀ c,a.tmps.getD t undef=c→yielded ops a.tmps j=match c with | .bool b=>some b | _=>none:=by
        intro c hc
        unfold yielded
        rw[hj']
        simp only[Option.bind_some,hd]
        rw[Array.getD_eq_getD_getElem?] at hc
        cases h:a.tmps[t]? with
        | none=>rw[h] at hc;subst hc;rfl
        | some c'=>rw[h] at hc;simp at hc;subst hc;cases c' <;> rfl
       generalize hc:a.tmps.getD t undef=c at ht
       rw[hy c hc]
       split at hb
       ·rename_i x hx
        rw[hx] at ht
        cases ht with
        | d _ _ ht=>cases ht with
          | b=>cases hb;simp
       ·rename_i x hx
        rw[hx] at ht
        cases ht with
        | d _ _ ht=>cases ht with
          | tup=>cases hb;simp
       ·cases hb
theorem St.undef (hi:Inv X μ H w):St X μ H w H (.d (.tup [])) undef w:=St.here hi (.d _ _ (.tup [] #[] rfl (by simp)))
theorem evG_ok (ro:Option Nat) (hcall:CallOk P call) (hbody:CallB P call)
 (f:Fr P X μ H w e a) {ops:Array Oper}{o:Oper}{so:SO}{m:Nat} (ht:trOp P m o.type o.op=some so.op) (hg:trGuard ops.toList o.guard=some so.guard) {q:Re×Hp} (hq:evG call so e H=some q) {K:Act→World→Prop}
 (hK:OpEnds X μ H w q (fun c w'=>K (a.put o.dst c) w') (fun c w'=>Q (.panic [{ v:=c,recovered:=false }]) a w')) :
 if Region.wanted o (yielded ops a.tmps) then o.wpIn (FW ro) 0 P a w K Q else (∀ f,o.about P w a.eval=some f→(FW ro).fn f)∧K (a.put o.dst undef) w:=by
 unfold evG at hq
 split at hq
 ·rename_i hw
  rw[wanted_ok hg f.env hw,if_pos rfl]
  refine⟨fun _ _=>trivial,?_⟩
  rw[Oper.semAt_eq ro a.eval o (trOp_defer ht)]
  exact up_upon (evOp_ok hcall hbody f ht hq hK)
 ·rename_i hw
  rw[wanted_ok hg f.env hw]
  cases hq
  exact⟨fun _ _=>trivial,hK _ _ (St.undef f.inv)⟩
 ·cases hq
theorem put_size (a:Act) (d:Option Tmp) (v:Value):(a.put d v).tmps.size=a.tmps.size:=by cases d<;>simp[Act.put]
theorem put_defers (a:Act) (d:Option Tmp) (v:Value):(a.put d v).defers=a.defers:=by cases d<;>rfl
theorem trOpers_cons {hs:Hints}{nt id k:Nat}{all os:List Oper}{o:Oper}{l:List SO} (h:trOpers P hs nt id all k (o::os)=some l) :
 ∃ so rest,l=so::rest∧trOp P (hasH hs.other id k) o.type o.op=some so.op∧trGuard all o.guard=some so.guard∧so.dst=o.dst∧(∀ t,o.dst=some t→t<nt)∧trOpers P hs nt id all (k+1) os=some rest:=by
 simp only[trOpers] at h
 split at h
 ·rename_i op g rest h1 h2 h3
  by_cases h4:dstOk nt o.dst=true
  ·rw[if_pos h4] at h
   cases h
   refine⟨_,_,rfl,h1,h2,rfl,fun t ht=>?_,h3⟩
   rw[ht] at h4;simpa[dstOk] using h4
  ·rw[if_neg h4] at h;cases h
 ·cases h
theorem evOps_ok (ro:Option Nat) (hcall:CallOk P call) (hbody:CallB P call)
 {hs:Hints}{nt id:Nat}{ops:Array Oper} (keep:List Nat):∀ {os:List Oper}{k:Nat}{sos:List SO},trOpers P hs nt id ops.toList k os=some sos →
 ∀ {μ:Nat→Option Nat}{H:Hp}{w:World}{e:En}{a:Act},Fr P X μ H w e a→nt≤a.tmps.size→∀ {r:Ex×En×Hp},evOps call sos e H=some r →
 CEnds X μ H w a (match r with | (.nor,e',H')=>(.nor,ekeep keep e',H') | r=>r) Q→wpListIn (FW ro) 0 P ops Q os a w
 | [],k,sos,ht,μ,H,w,e,a,f,hnt,r,hr,hQ=>by
   simp only[trOpers] at ht;cases ht
   simp only[evOps] at hr;cases hr
   exact hQ a w ⟨μ,f.inv,Ext.refl X μ H w,f.env.keep keep,rfl,Marks.refl ..⟩
 | o::os,k,sos,ht,μ,H,w,e,a,f,hnt,r,hr,hQ=>by
   obtain⟨so,rest,rfl,h1,h2,h3,h4,h5⟩:=trOpers_cons ht
   refine wpListIn_step fun K hK=>?_
   simp only[evOps] at hr
   split at hr
   ·rename_i v H' hq
    refine evG_ok ro hcall hbody f h1 h2 hq fun c w' hs=>hK _ _ ?_
    obtain⟨μ',i',x',hv⟩:=hs
    have f':Fr P X μ' H' w' (put e so.dst v) (a.put o.dst c):=⟨f.hp,i',f.gl.mono x',by rw[h3];exact(f.env.mono f.inv x').put (fun t ht=>Nat.lt_of_lt_of_le (h4 t ht) hnt) hv⟩
    exact evOps_ok ro hcall hbody keep h5 f' (by rw[put_size];exact hnt) hr (hQ.trans x' (put_size ..) (Marks.of_eq (put_defers ..)))
   ·rename_i v H' hq
    cases hr
    exact evG_ok ro hcall hbody f h1 h2 hq fun c w' hs=>hQ a w' c (StM.of_St hs rfl rfl)
   ·cases hr
end
end
section
open Go
section
variable {call:CallF}{h h':Hp}{e e':En}
theorem aval_same {x:Ar}{l:List Ar} (hx:x∈l) (he:∀ t∈slotsOf l,eget e t=eget e' t):aval e x=aval e' x:=by
 cases x with
 | t n =>
   refine he n ?_
   clear he
   induction l with
   | nil=>cases hx
   | cons y l ih =>
     rcases List.mem_cons.1 hx with h1 | h1
     ·subst h1;simp[slotsOf]
     ·cases y<;>simp[slotsOf,ih h1]
 | _=>rfl
theorem boundOf_same {most d:Nat}{x:Option Ar} (hx:∀ y∈x.toList,aval e y=aval e' y):boundOf e most d x=boundOf e' most d x:=by
 cases x with
 | none=>rfl
 | some a=>unfold boundOf;dsimp only;rw[hx a (by simp)]
theorem bounds_same {len:Nat}{lo hi:Option Ar} (h1:∀ y∈lo.toList,aval e y=aval e' y) (h2:∀ y∈hi.toList,aval e y=aval e' y):bounds e len lo hi=bounds e' len lo hi:=by
 unfold bounds;rw[boundOf_same h2];split
 ·rfl
 ·rw[boundOf_same h1]
theorem evOp_same {op:SOp} (he:∀ t∈slotsOf op.args,eget e t=eget e' t):evOp call op e h=evOp call op e' h:=by
 have hv:∀ x∈op.args,aval e x=aval e' x:=fun x hx=>aval_same hx he
 clear he
 cases op<;>simp only[SOp.args,List.mem_cons,List.not_mem_nil,or_false,forall_eq_or_imp,forall_eq,List.mem_append,List.mem_map] at hv<;>unfold evOp<;>dsimp only
 case build z parts =>
  have:(parts.map fun (o,n,a)=>(o,n,aval e a))=parts.map fun (o,n,a)=>(o,n,aval e' a):=List.map_congr_left fun p hp=>by dsimp only;rw[hv _ ⟨p,hp,rfl⟩]
  rw[this]
 case buildG ty sz k z parts =>
  have:(parts.map fun (o,n,a)=>(o,n,aval e a))=parts.map fun (o,n,a)=>(o,n,aval e' a):=List.map_congr_left fun p hp=>by dsimp only;rw[hv _ ⟨p,hp,rfl⟩]
  rw[this]
 case bslice own ty sz z len parts =>
  have:(parts.map fun (i,a)=>(i,aval e a))=parts.map fun (i,a)=>(i,aval e' a):=List.map_congr_left fun p hp=>by dsimp only;rw[hv _ ⟨p,hp,rfl⟩]
  rw[this]
 case mkF f a b =>
  rw[List.map_congr_left fun x hx=>hv x (.inl hx),List.map_congr_left fun x hx=>hv x (.inr hx)]
 case mm b as=>rw[List.map_congr_left fun x hx=>hv x hx]
 case call k f as=>rw[hv.1,List.map_congr_left fun x hx=>hv.2 x hx]
 case slS x lo hi =>
  rw[hv.1]
  have:∀ len,bounds e len lo hi=bounds e' len lo hi:=fun len=>bounds_same (fun y hy=>hv.2 y (.inl hy)) (fun y hy=>hv.2 y (.inr hy))
  simp only[this]
 case slL sz x lo hi =>
  rw[hv.1]
  have:∀ len,bounds e len lo hi=bounds e' len lo hi:=fun len=>bounds_same (fun y hy=>hv.2 y (.inl hy)) (fun y hy=>hv.2 y (.inr hy))
  simp only[this]
 all_goals simp only[hv]
theorem wantsG_same {g:Option (Nat×Bool)} (he:∀ t∈(match g with | some (t,_)=>[t] | none=>[]),eget e t=eget e' t):wantsG e g=wantsG e' g:=by
 cases g with
 | none=>rfl
 | some p=>obtain⟨t,w⟩:=p;unfold wantsG;dsimp only;rw[he t (by simp)]
theorem evG_same {so:SO} (he:∀ t∈so.reads,eget e t=eget e' t):evG call so e h=evG call so e' h:=by
 unfold evG
 rw[wantsG_same (fun t ht=>he t (by unfold SO.reads;exact List.mem_append_left _ ht)),evOp_same (fun t ht=>he t (by unfold SO.reads;exact List.mem_append_right _ ht))]
theorem free_heap {op:SOp} (hf:freeOp op=true) {q:Re×Hp} (hq:evOp call op e h=some q):∃ v,q=(.val v,h):=by
 cases op<;>simp only[freeOp,Bool.false_eq_true] at hf<;>simp only[evOp,ok,okO,okD] at hq
 case bslice own ty sz z len parts =>
  cases own with
  | true=>simp at hf
  | false =>
    simp only[Bool.false_eq_true,if_false] at hq
    repeat' split at hq
    all_goals first | cases hq;done | (cases hq;exact⟨_,rfl⟩)
 all_goals repeat' split at hq
 all_goals first | (cases hq;done) | (cases hq;exact⟨_,rfl⟩) | skip
theorem free_other {op:SOp} (hf:freeOp op=true) (hn:heapOp op=false) {v:V} (hq:evOp call op e h=some (.val v,h)) (h':Hp):evOp call op e h'=some (.val v,h'):=by
 cases op<;>simp only[freeOp,heapOp,Bool.false_eq_true,Bool.true_eq_false] at hf hn<;>simp only[evOp,ok,okO,okD] at hq ⊢
 case bslice own ty sz z len parts =>
  cases own with
  | true=>simp at hf
  | false =>
    simp only[Bool.false_eq_true,if_false] at hq ⊢
    split at hq
    ·rename_i xs hx
     split at hq
     ·rename_i hc
      split at hq
      ·rename_i ds hd
       cases hq;simp[hc]
      ·cases hq
     ·cases hq
    ·cases hq
 case mm b as =>
  split at hq
  ·rename_i k a k' b' hp
   split at hq
   ·rename_i hk;cases hq;rw[if_pos hk]
   ·cases hq
  ·cases hq
 all_goals repeat' split at hq
 all_goals first | (cases hq;done) | (cases hq;simp_all;done) | skip
theorem hget_push {o:Nat}{x y:Ob} (hg:hget h o=some x):hget (y::h) o=some x:=by rw[hget_cons_lt _ (hget_lt hg)];exact hg
theorem free_push {op:SOp} (hf:freeOp op=true) {v:V} (hq:evOp call op e h=some (.val v,h)) (y:Ob):evOp call op e (y::h)=some (.val v,y::h):=by
 cases hn:heapOp op with
 | false=>exact free_other hf hn hq _
 | true =>
   cases op<;>simp only[heapOp,Bool.false_eq_true] at hn<;>simp only[evOp,ok,okO,okD] at hq ⊢
   case load g n x =>
    split at hq
    ·rename_i o i hx
     split at hq
     ·rename_i cs hg;rw[hget_push hg];dsimp only;split at hq<;>cases hq;rfl
     ·rename_i cs hg;rw[hget_push hg];dsimp only;split at hq<;>cases hq;rfl
     ·cases hq
    ·split at hq<;>cases hq;rfl
    ·rename_i o m i off hx
     split at hq
     ·rename_i sz xs hg
      rw[hget_push hg]
      dsimp only
      split at hq
      ·rename_i hm
       rw[if_pos hm]
       split at hq
       ·rename_i y' hy;split at hq<;>cases hq;rfl
       ·cases hq
      ·cases hq
     ·cases hq
    ·cases hq
   case ixS sz x i =>
    split at hq
    ·rename_i k n hi
     split at hq
     ·rename_i xs hx
      split at hq
      ·rename_i hc
       simp only[hc]
       split at hq
       ·rename_i y' hy;cases hq;simp
       ·cases hq
      ·cases hq
     ·rename_i o m hx
      split at hq
      ·rename_i sz' xs hg
       rw[hget_push hg]
       dsimp only
       split at hq
       ·rename_i hc;rw[if_pos hc];cases hq;rfl
       ·cases hq
      ·cases hq
     ·cases hq
    ·cases hq
   case convBS x =>
    split at hq
    ·split at hq<;>cases hq;rfl
    ·rename_i o n hx
     split at hq
     ·rename_i xs hg
      rw[hget_push hg]
      show (if xs.length=n then _ else _)=_
      split at hq
      ·rename_i hm
       rw[if_pos hm]
       split at hq
       ·split at hq<;>cases hq;rfl
       ·cases hq
      ·cases hq
     ·cases hq
    ·cases hq
end
end
section
open Go
section
variable {call:CallF}{h h':Hp}{e e':En}
theorem eget_put_other {d:Option Nat}{v:V}{t:Nat} (hd:d≠some t):eget (put e d v) t=eget e t:=by
 cases d with
 | none=>rfl
 | some k=>exact eget_eset_other e v (fun h=>hd (by rw[h]))
theorem eget_put_self {v:V}{t:Nat}:eget (put e (some t) v) t=v:=eget_eset_self e t v
theorem eget_put_same {d:Option Nat}{v:V} (he:∀ t,eget e t=eget e' t) (t:Nat):eget (put e d v) t=eget (put e' d v) t:=by
 by_cases hd:d=some t
 ·subst hd;rw[eget_put_self,eget_put_self]
 ·rw[eget_put_other hd,eget_put_other hd,he]
theorem eget_put_swap {a b:Option Nat}{x y:V} (hab:∀ t,a=some t→b≠some t) (t:Nat):eget (put (put e a x) b y) t=eget (put (put e b y) a x) t:=by
 by_cases hb:b=some t
 ·have ha:a≠some t:=fun h=>hab t h hb
  subst hb
  rw[eget_put_self,eget_put_other ha,eget_put_self]
 ·by_cases ha:a=some t
  ·subst ha;rw[eget_put_other hb,eget_put_self,eget_put_self]
  ·rw[eget_put_other hb,eget_put_other ha,eget_put_other ha,eget_put_other hb]
theorem ekeep_same (l:List Nat) (he:∀ t,eget e t=eget e' t):ekeep l e=ekeep l e':=by
 unfold ekeep;exact List.map_congr_left fun t _=>by rw[he t]
theorem Stays_same {again:List Nat}{past past':List DI} (hp:∀ x,x∈past↔x∈past') (he:∀ t,eget e t=eget e' t):Stays call again past e h↔Stays call again past' e' h:=by
 unfold Stays
 constructor
 ·intro H p h1 h2
  obtain⟨t,a,b⟩:=H p ((hp p).2 h1) h2
  exact⟨t,a,by rw[← he t,← evG_same (fun k _=>he k)];exact b⟩
 ·intro H p h1 h2
  obtain⟨t,a,b⟩:=H p ((hp p).1 h1) h2
  exact⟨t,a,by rw[he t,evG_same (fun k _=>he k)];exact b⟩
theorem evD_same {keep:List Nat}:∀ (ds:List DI) {past past':List DI}{e e':En} (h:Hp),(∀ x,x∈past↔x∈past')→(∀ t,eget e t=eget e' t)→evD call keep past ds e h=evD call keep past' ds e' h
 | [],past,past',e,e',h,hp,he=>by simp only[evD,ekeep_same keep he]
 | d::ds,past,past',e,e',h,hp,he=>by
   simp only[evD]
   rw[evG_same (fun k _=>he k)]
   split
   ·rename_i v h' hq
    have hs:=Stays_same (call:=call) (again:=d.again) (h:=h') hp (eget_put_same (d:=d.so.dst) (v:=v) he)
    have hr:=evD_same (keep:=keep) ds h' (past:=d::past) (past':=d::past') (fun x=>by simp[hp x]) (eget_put_same (d:=d.so.dst) (v:=v) he)
    by_cases hc:h'=h∨Stays call d.again past (put e d.so.dst v) h'
    ·rw[if_pos hc,if_pos (hc.imp id hs.1)];exact hr
    ·rw[if_neg hc,if_neg (fun hc'=>hc (hc'.imp id hs.2))]
   ·rfl
   ·rfl
theorem dstIn_false {o:Option Nat}{l:List Nat} (hd:dstIn o l=false):∀ t∈l,o≠some t:=by
 intro t ht ho
 subst ho
 simp[dstIn] at hd
 exact hd ht
theorem sameDst_false {a b:Option Nat} (hd:sameDst a b=false):∀ t,a=some t→b≠some t:=by
 intro t ha hb
 subst ha;subst hb
 simp[sameDst] at hd
theorem free_heapG {so:SO} (hf:freeOp so.op=true) {q:Re×Hp} (hq:evG call so e h=some q):∃ v,q=(.val v,h):=by
 unfold evG at hq
 split at hq
 ·exact free_heap hf hq
 ·cases hq;exact⟨_,rfl⟩
 ·cases hq
theorem free_otherG {so:SO} (hf:freeOp so.op=true) (hn:heapOp so.op=false) {v:V} (hq:evG call so e h=some (.val v,h)) (h':Hp):evG call so e h'=some (.val v,h'):=by
 unfold evG at hq ⊢
 split at hq
 ·exact free_other hf hn hq h'
 ·cases hq;rfl
 ·cases hq
theorem free_pushG {so:SO} (hf:freeOp so.op=true) {v:V} (hq:evG call so e h=some (.val v,h)) (y:Ob):evG call so e (y::h)=some (.val v,y::h):=by
 unfold evG at hq ⊢
 split at hq
 ·exact free_push hf hq y
 ·cases hq;rfl
 ·cases hq
structure Lets (x i:Nd):Prop where
 kind:x.kind=0
 free:freeOp x.so.op=true
 r1:dstIn x.so.dst i.so.reads=false
 r2:dstIn i.so.dst x.so.reads=false
 d:sameDst x.so.dst i.so.dst=false
 hp:heapN x=true→(∃ t,x.so.dst=some t)∧dstIn x.so.dst x.so.reads=false∧(i.kind=1→x.idx∈i.again)
def Between (x s:Nd):Prop:=heapN x=true→dstIn s.so.dst x.so.reads=false∧sameDst x.so.dst s.so.dst=false
theorem front_aux {keep:List Nat}{i:Nd}{R2:List DI}{r:Ex×En×Hp} (hk:i.kind=1∨∀ e v h',evG call i.so e h=some (.val v,h')→(h'=h∨∃ y,h'=y::h)) :
 ∀ (R1:List Nd) {past:List DI}{e:En},(∀ x∈R1,Lets x i)→R1.Pairwise Between→evD call keep past (R1.map Nd.di++i.di::R2) e h=some r →
 ∃ q,evG call i.so e h=some q∧match q with
  | (.pan v,h')=>r=(.pn v,[],h')
  | (.val v,h')=>(∃ ei,(∀ t,(∀ x∈R1,x.so.dst≠some t)→eget ei t=eget (put e i.so.dst v) t)∧(h'=h∨Stays call i.again (R1.reverse.map Nd.di++past) ei h')) ∧
   evD call keep (i.di::past) (R1.map Nd.di++R2) (put e i.so.dst v) h'=some r
 | [],past,e,_,_,hr=>by
   simp only[List.map_nil,List.nil_append,evD,Nd.di] at hr
   split at hr
   ·rename_i v h' hq
    split at hr
    ·rename_i hc
     exact⟨_,hq,⟨_,fun _ _=>rfl,by simpa using hc⟩,by simpa[Nd.di] using hr⟩
    ·cases hr
   ·rename_i v h' hq
    cases hr;exact⟨_,hq,rfl⟩
   ·cases hr
 | x::R1,past,e,hL,hB,hr=>by
   have hx:=hL x (by simp)
   obtain⟨hB1,hB2⟩:=List.pairwise_cons.1 hB
   simp only[List.map_cons,List.cons_append] at hr
   rw[evD] at hr
   split at hr
   ·rename_i vx hx' hqx
    obtain⟨vx',hvx⟩:=free_heapG (so:=x.di.so) hx.free hqx
    cases hvx
    rw[if_pos (.inl rfl)] at hr
    have hqx:evG call x.so e h=some (.val vx,h):=hqx
    obtain⟨q,hq,hres⟩:=front_aux hk R1 (past:=x.di::past) (e:=put e x.so.dst vx) (fun y hy=>hL y (by simp[hy])) hB2 hr
    have hsame:evG call i.so e h=evG call i.so (put e x.so.dst vx) h:=evG_same fun t ht=>(eget_put_other (dstIn_false hx.r1 t ht)).symm
    refine⟨q,by rw[hsame];exact hq,?_⟩
    obtain⟨q1,hh⟩:=q
    cases q1 with
    | pan v=>exact hres
    | val v =>
      obtain⟨⟨ei,he1,he2⟩,hev⟩:=hres
      refine⟨⟨ei,fun t ht=>?_,?_⟩,?_⟩
      ·rw[he1 t (fun y hy=>ht y (by simp[hy])),eget_put_swap (fun k=>sameDst_false hx.d k),eget_put_other (ht x (by simp))]
      ·refine he2.imp id fun H=>?_
       simpa[List.append_assoc] using H
      ·have hread:∀ t∈x.so.reads,eget (put e i.so.dst v) t=eget e t:=fun t ht=>eget_put_other (dstIn_false hx.r2 t ht)
       have hstay:evG call x.so (put e i.so.dst v) hh=some (.val vx,hh):=by
        by_cases hhh:hh=h
        ·subst hhh
         rw[evG_same hread];exact hqx
        ·cases hn:heapN x with
         | false =>
           have hn':heapOp x.so.op=false:=by simpa[heapN,hx.kind] using hn
           rw[evG_same hread];exact free_otherG hx.free hn' hqx _
         | true =>
           obtain⟨⟨t,hdt⟩,hdr,hag⟩:=hx.hp hn
           rcases hk with hk | hk
           ·rcases he2 with he2 | he2
            ·exact absurd he2 hhh
            ·obtain⟨t',ht',hev'⟩:=he2 x.di (by simp) (hag hk)
             have htt:t'=t:=by have:x.so.dst=some t':=ht'; rw[hdt] at this;cases this;rfl
             subst htt
             have hei:∀ k,(∀ y∈R1,y.so.dst≠some k)→(i.so.dst≠some k)→eget ei k=eget (put e x.so.dst vx) k:=fun k h1 h2=>by rw[he1 k h1,eget_put_other h2]
             have hval:eget ei t'=vx:=by
              rw[hei t' (fun y hy=>sameDst_false ((hB1 y hy) hn).2 t' hdt) (sameDst_false hx.d t' hdt),hdt,eget_put_self]
             have hev2:evG call x.so ei hh=some (.val (eget ei t'),hh):=hev'
             rw[hval] at hev2
             rw[← hev2]
             refine evG_same fun k hk'=>?_
             rw[hread k hk',hei k (fun y hy=>dstIn_false ((hB1 y hy) hn).1 k hk') (dstIn_false hx.r2 k hk'),eget_put_other (dstIn_false hdr k hk')]
           ·rcases hk _ _ _ hq with h1 | ⟨y,h1⟩
            ·exact absurd h1 hhh
            ·subst h1
             rw[evG_same hread];exact free_pushG hx.free hqx y
       have hstay':evG call x.di.so (put e i.so.dst v) hh=some (.val vx,hh):=hstay
       simp only[List.map_cons,List.cons_append]
       rw[evD,hstay']
       simp only[true_or,if_true]
       rw[← hev]
       refine evD_same _ _ (fun z=>?_) (fun t=>?_)
       ·simp only[List.mem_cons];constructor<;>rintro (h | h | h)<;>simp[h]
       ·exact(eget_put_swap (fun k=>sameDst_false hx.d k) t).symm
   ·rename_i v h' hqx
    obtain⟨vx',hvx⟩:=free_heapG (so:=x.di.so) hx.free hqx
    cases hvx
   ·cases hr
theorem front {keep:List Nat}{i:Nd}{R2:List DI}{r:Ex×En×Hp} (hk:i.kind=1∨∀ e v h',evG call i.so e h=some (.val v,h')→(h'=h∨∃ y,h'=y::h))
 (R1:List Nd) {past:List DI}{e:En} (hL:∀ x∈R1,Lets x i) (hB:R1.Pairwise Between) (hr:evD call keep past (R1.map Nd.di++i.di::R2) e h=some r) :
 ∃ q,evG call i.so e h=some q∧match q with
  | (.pan v,h')=>r=(.pn v,[],h')
  | (.val v,h')=>evD call keep (i.di::past) (R1.map Nd.di++R2) (put e i.so.dst v) h'=some r:=by
 obtain⟨q,h1,h2⟩:=front_aux hk R1 hL hB hr
 refine⟨q,h1,?_⟩
 obtain⟨q1,hh⟩:=q
 cases q1 with
 | pan v=>exact h2
 | val v=>exact h2.2
end
end
section
open Go
section
variable {P:Program}{call:CallF}{X:Cx}{μ:Nat→Option Nat}{H:Hp}{w:World}{e:En}{a:Act}{Q:Exit→Act→World→Prop}
theorem HV.sub {O O':Bs}{N:Nat}{w w':World} (hw:∀ b,b<w.heap.size→w'.heap[b]? = w.heap[b]?) (ho:∀ b,b<w.heap.size→O' b→O b) {v:V}{c:Value} (h:HV O μ H N w v c):HV O' μ H N w' v c:=by
 induction h with
 | u c=>exact .u c
 | d x c h=>exact .d x c (h.mono (fun b hb _=>hw b hb) ho)
 | p o i b h hm hg=>exact .p o i b h hm hg
 | gr o n cap a h hg =>
   refine .gr o n cap a h fun ty sz xs he=>?_
   obtain⟨g1,g2⟩:=hg _ sz xs he
   refine⟨g1,fun hl=>?_⟩
   rcases g2 hl with g2 | ⟨b,cs,e,m1,ha,hn,hb,hs⟩
   ·exact .inl g2
   ·exact .inr ⟨b,cs,e,m1,ha,hn,(hw b (lt_of_heap hb)).trans hb,hs⟩
 | gp o n i off b a h hg=>exact .gp o n i off b a h hg
 | yl o l h hm hg=>exact .yl o l h hm hg
 | fn f xs ys a b ha hb _ _ iha ihb=>exact .fn f xs ys a b ha hb iha ihb
 | ifc t v c _ ih=>exact .ifc t v c ih
 | agg cs a ha _ ih=>exact .agg cs a ha ih
 | tup cs a ha _ ih=>exact .tup cs a ha ih
theorem HVs.sub {O O':Bs}{N:Nat}{w w':World} (hw:∀ b,b<w.heap.size→w'.heap[b]? = w.heap[b]?) (ho:∀ b,b<w.heap.size→O' b→O b) {v:List V}{c:Array Value} (h:HVs O μ H N w v c):HVs O' μ H N w' v c :=
 ⟨h.1,fun j v hv=>(h.2 j v hv).sub hw ho⟩
theorem ObOk.sub {P:Program}{O O':Bs}{w w':World} (hw:∀ b,b<w.heap.size→w'.heap[b]? = w.heap[b]?) (ho:∀ b,b<w.heap.size→O' b→O b) {o:Nat}{ob:Ob} (h:ObOk P O μ H w o ob):ObOk P O' μ H w' o ob:=by
 cases ob with
 | box ty cs=>obtain⟨b,c,h1,h2,h3⟩:=h;exact⟨b,c,h1,(hw b (lt_of_heap h2)).trans h2,h3.sub hw ho⟩
 | ro cs=>obtain⟨b,c,e,z,h1,h2,h3,h4⟩:=h;exact⟨b,c,e,z,h1,fun hO=>h2 (ho b (lt_of_heap h3) hO),(hw b (lt_of_heap h3)).trans h3,h4.sub hw ho⟩
 | gr ty sz xs =>
   obtain⟨h0,h1,h2⟩:=h
   refine⟨h0,h1,h2.imp id ?_⟩
   rintro⟨b,c,m,h3,h4,h5⟩
   exact⟨b,c,m,(hw b (lt_of_heap h3)).trans h3,h4,fun i x j v hx hv=>(h5 i x j v hx hv).sub hw ho⟩
 | loop ps e asg body st pend=>obtain⟨l,r,h1,h2,h3,h4⟩:=h;exact⟨l,r,h1,(hw l (lt_of_heap h2)).trans h2,h3,fun t=>(h4 t).sub hw ho⟩
 | dead=>trivial
 | nop=>trivial
theorem HE.sub {O O':Bs}{N:Nat}{w w':World} (hw:∀ b,b<w.heap.size→w'.heap[b]? = w.heap[b]?) (ho:∀ b,b<w.heap.size→O' b→O b) {t:Array Value} (h:HE O μ H N w e t):HE O' μ H N w' e t :=
 fun k=>(h k).sub hw ho
theorem Own.imp {X X':Cx} (hX:∀ b,X b→X' b) {b:Nat} (h:Own X μ H b):Own X' μ H b:=Or.imp (hX b) id h
theorem Inv.less {X X':Cx} (hP:X'.P=X.P) (hX:∀ b,X b→X' b) (h:Inv X' μ H w):Inv X μ H w :=
 ⟨fun o ob hg=>hP▸(h.obj o ob hg).sub (fun _ _=>rfl) (fun _ _ hO=>hO.imp hX),h.inj,fun o b h1 h2 hx=>h.xs o b h1 h2 (hX b hx),fun b hb=>h.low b (hX b hb)⟩
theorem Inv.reserve {X':Cx} (hP:X.P=X'.P) (h:Inv X μ H w) (o:Obj) (hX:∀ b,X' b→X b∨b=w.heap.size):Inv X' μ H (w.alloc o):=by
 have hw:∀ b,b<w.heap.size→(w.alloc o).heap[b]? = w.heap[b]? := fun b hb=>heap_alloc w o b hb
 have ho:∀ b,b<w.heap.size→Own X' μ H b→Own X μ H b:=by
  rintro b hb (hO | hO)
  ·rcases hX b hO with h1 | h1
   ·exact .inl h1
   ·omega
  ·exact .inr hO
 refine⟨fun o' ob hg=>hP▸(h.obj o' ob hg).sub hw ho,h.inj,fun o' b h1 h2 hx=>?_,fun b hb=>?_⟩
 ·rcases hX b hx with h3 | h3
  ·exact h.xs o' b h1 h2 h3
  ·have:=Own_lt h (.inr ⟨o',h1,h2⟩);omega
 ·rcases hX b hb with h3 | h3
  ·have:=h.low b h3;simp;omega
  ·subst h3;simp
theorem Inv.activate {X':Cx}{b0:Nat} (hP:X'.P=X.P) (h:Inv X' μ H w) (hX:∀ b,X b→X' b) (hb0:X' b0) (hn0:¬ X b0) {c:Array Value}{et:TypeId}{z:List D} (hc:w.heap[b0]? = some (.cells c et (0,0))) (hz:∀ O w,HDs O w z c) :
 Inv X (upd μ H.length (some b0)) (.box et (z.map .d)::H) w∧Ext X' μ H w (upd μ H.length (some b0)) (.box et (z.map .d)::H) w:=by
 have hx:Ext X' μ H w (upd μ H.length (some b0)) (.box et (z.map .d)::H) w :=
  { size:=Nat.le_refl _,blk:=fun _ _ _=>rfl,xblk:=fun _ _=>rfl,shape:=fun b c e h1 _ _=>⟨c,e,h1,rfl⟩,len:=by simp,os:=rfl,tape:=rfl,output:=rfl
    own:=by
     rintro b hb (hO | ⟨o,ho,hm⟩)
     ·exact .inl hO
     ·by_cases e:o=H.length
      ·subst e;rw[upd_self] at hm;cases hm;exact .inl hb0
      ·have hlt:o<H.length:=by have:=ownedO_lt ho;simp at this;omega
       rw[upd_other e] at hm
       exact .inr ⟨o,by rw[ownedO_cons hlt] at ho;exact ho,hm⟩
    mu:=fun o ho hg=>⟨upd_other (by omega),by rw[isGr_cons ho];exact hg⟩
    gr:=fun o ty sz xs ho hg=>⟨xs,by rw[hget_cons_lt _ ho] at hg;exact hg,Nat.le_refl _,fun _=>upd_other (by omega)⟩ }
 have hold:∀ {o:Nat},o≠H.length→ownedO (.box et (z.map .d)::H) o→ownedO H o:=fun {o} ho h1=>by
  have hlt:o<H.length:=by have:=ownedO_lt h1;simp at this;omega
  rw[ownedO_cons hlt] at h1;exact h1
 refine⟨⟨fun o ob hg=>?_,fun o o' b hne h1 h2 m1 m2=>?_,fun o b h1 m1 hb=>?_,fun b hb=>h.low b (hX b hb)⟩,hx⟩
 ·by_cases e:o=H.length
  ·subst e
   rw[hget_cons_self] at hg;cases hg
   exact⟨b0,c,upd_self ..,hc,HVs_d.2 (hz _ _)⟩
  ·rw[hget_cons_ne e] at hg
   exact hP▸((h.obj o ob hg).mono h hx hg (upd_other e) (fun _ _ _=>rfl)).sub (fun _ _=>rfl) (fun _ _ hO=>hO.imp hX)
 ·by_cases e:o=H.length
  ·subst e
   rw[upd_self] at m1;cases m1
   rw[upd_other (Ne.symm hne)] at m2
   exact h.xs o' _ (hold (Ne.symm hne) h2) m2 hb0
  ·rw[upd_other e] at m1
   by_cases e':o'=H.length
   ·subst e'
    rw[upd_self] at m2;cases m2
    exact h.xs o _ (hold e h1) m1 hb0
   ·rw[upd_other e'] at m2
    exact h.inj o o' b hne (hold e h1) (hold e' h2) m1 m2
 ·by_cases e:o=H.length
  ·subst e;rw[upd_self] at m1;cases m1;exact hn0 hb
  ·rw[upd_other e] at m1
   exact h.xs o b (hold e h1) m1 (hX b hb)
theorem Ext.from {X':Cx}{μ0 μ':Nat→Option Nat}{H0 H':Hp}{w0 w':World} (h:Ext X μ0 H0 w0 μ H w) (k:Ext X' μ H w μ' H' w') (hX:∀ b,X b→X' b) (hn:∀ b,X' b→X b∨w0.heap.size≤b):Ext X μ0 H0 w0 μ' H' w' where
 size:=Nat.le_trans h.size k.size
 blk b hb ho:=by
  have h1:¬ Own X' μ H b:=by
   rintro (hO | hO)
   ·rcases hn b hO with h1 | h1
    ·exact ho (.inl h1)
    ·omega
   ·exact ho (h.own b hb (.inr hO))
  exact(k.blk b (Nat.lt_of_lt_of_le hb h.size) h1).trans (h.blk b hb ho)
 xblk b hb:=(k.xblk b (hX b hb)).trans (h.xblk b hb)
 own b hb ho:=by
  rcases k.own b (Nat.lt_of_lt_of_le hb h.size) (ho.imp hX) with hO | hO
  ·rcases hn b hO with h1 | h1
   ·exact .inl h1
   ·omega
  ·exact h.own b hb (.inr hO)
 shape b c e hb ho ho2:=by
  have hO:Own X' μ H b:=k.own b (Nat.lt_of_lt_of_le (lt_of_heap hb) h.size) (ho2.imp hX)
  have hO1:Own X μ H b:=by
   rcases hO with hO | hO
   ·rcases hn b hO with h1 | h1
    ·exact .inl h1
    ·have:=lt_of_heap hb;omega
   ·exact .inr hO
  obtain⟨c',e',h1,h2⟩:=h.shape b c e hb ho hO1
  obtain⟨c'',e'',h3,h4⟩:=k.shape b c' e' h1 hO (ho2.imp hX)
  exact⟨c'',e'',h3,by omega⟩
 len:=Nat.le_trans h.len k.len
 mu o ho hg:=by
  obtain⟨h1,h2⟩:=h.mu o ho hg
  obtain⟨h3,h4⟩:=k.mu o (Nat.lt_of_lt_of_le ho h.len) h2
  exact⟨h3.trans h1,h4⟩
 gr o ty sz xs'' ho he:=by
  obtain⟨xs',h1,h2,h3⟩:=k.gr o ty sz xs'' (Nat.lt_of_lt_of_le ho h.len) he
  obtain⟨xs,h4,h5,h6⟩:=h.gr o ty sz xs' ho h1
  exact⟨xs,h4,by omega,fun hl=>(h3 (by omega)).trans (h6 (by omega))⟩
 os:=k.os.trans h.os
 tape:=k.tape.trans h.tape
 output:=k.output.trans h.output
theorem pairsOk_pw:∀ {ns:List Nd},pairsOk ns=true→ns.Pairwise (fun p q=>pairOk p q=true)
 | [],_=>.nil
 | p::ns,h=>by
   simp only[pairsOk,Bool.and_eq_true,List.all_eq_true] at h
   exact .cons h.1 (pairsOk_pw h.2)
theorem lookup_mem {k:Nat}:∀ {l:List (Nat×Nat)}{m:Nat},l.lookup k=some m→(k,m)∈l
 | (a,b)::l,m,h=>by
   simp only[List.lookup] at h
   split at h
   ·rename_i he;cases h;simp at he;subst he;simp
   ·simp[lookup_mem h]
 | [],m,h=>by simp at h
def Closed (ns:List Nd) (S:Nat→Prop):Prop:=∀ d∈ns,S d.idx→∀ k∈d.on,S k
def AncG (ns:List Nd) (d:Nd):Prop:=∀ S,Closed ns S→(∀ k∈d.on,S k)→∀ j,d.anc.testBit j=true→S j
theorem ancOf_ok {acc:List (Nat×Nat)}:∀ {on:List Nat}{m:Nat},ancOf acc on=some m→(∀ k∈on,∃ m',acc.lookup k=some m')∧∀ j,m.testBit j=true→∃ k∈on,j=k∨∃ m',acc.lookup k=some m'∧m'.testBit j=true
 | [],m,h=>by simp[ancOf] at h;subst h;simp
 | k::on,m,h=>by
   simp only[ancOf] at h
   split at h
   ·rename_i m1 r h1 h2
    cases h
    obtain⟨g1,g2⟩:=ancOf_ok h2
    refine⟨fun k' hk'=>?_,fun j hj=>?_⟩
    ·rcases List.mem_cons.1 hk' with rfl | hk'
     ·exact⟨_,h1⟩
     ·exact g1 k' hk'
    ·simp only[Nat.testBit_or,Bool.or_eq_true,Nat.testBit_two_pow,decide_eq_true_eq] at hj
     rcases hj with hj | hj | hj
     ·exact⟨k,by simp,.inr ⟨m1,h1,hj⟩⟩
     ·exact⟨k,by simp,.inl hj.symm⟩
     ·obtain⟨k',h3,h4⟩:=g2 j hj
      exact⟨k',by simp[h3],h4⟩
   ·cases h
theorem ancsOk_ok {ns:List Nd}:∀ {ds:List Nd}{acc:List (Nat×Nat)},(∀ d∈ds,d∈ns)→(∀ k m,(k,m)∈acc→∃ d∈ns,d.idx=k∧d.anc=m∧AncG ns d)→ancsOk acc ds=true →
 ∀ l1 p l2,ds=l1++p::l2→AncG ns p∧∀ k∈p.on,(∃ m,(k,m)∈acc)∨∃ q∈l1,q.idx=k
 | [],acc,_,_,_,l1,p,l2,hd=>by simp at hd
 | d::ds,acc,hm,hacc,h,l1,p,l2,hd=>by
   simp only[ancsOk,Bool.and_eq_true,beq_iff_eq] at h
   obtain⟨h1,h2⟩:=ancOf_ok h.1
   have hg:AncG ns d:=by
    intro S hS hon j hj
    obtain⟨k,hk,hk'⟩:=h2 j hj
    rcases hk' with rfl | ⟨m',hm',hj'⟩
    ·exact hon _ hk
    ·obtain⟨d',hd',hi,ha,hg⟩:=hacc k m' (lookup_mem hm')
     exact hg S hS (hS d' hd' (hi▸hon k hk)) j (ha▸hj')
   cases l1 with
   | nil =>
     simp at hd
     obtain⟨rfl,rfl⟩:=hd
     exact⟨hg,fun k hk=>.inl (by obtain⟨m,hm⟩:=h1 k hk;exact⟨m,lookup_mem hm⟩)⟩
   | cons y l1 =>
     simp at hd
     obtain⟨rfl,rfl⟩:=hd
     have hrec:=ancsOk_ok (ns:=ns) (ds:=l1++p::l2) (acc:=(d.idx,d.anc)::acc) (fun x hx=>hm x (by simp at hx ⊢; simp[hx])) (fun k m hk=>by
      rcases List.mem_cons.1 hk with hk | hk
      ·cases hk;exact⟨d,hm d (by simp),rfl,rfl,hg⟩
      ·exact hacc k m hk) h.2 l1 p l2 rfl
     refine⟨hrec.1,fun k hk=>?_⟩
     rcases hrec.2 k hk with ⟨m,hk'⟩ | ⟨q,hq,hi⟩
     ·rcases List.mem_cons.1 hk' with hk' | hk'
      ·cases hk'; exact .inr ⟨d,by simp,rfl⟩
      ·exact .inl ⟨m,hk'⟩
     ·exact .inr ⟨q,by simp[hq],hi⟩
theorem trN_ok {ops:List Oper}{l:List SO}:∀ {xs:List (Nat×Nat×List Nat)}{ns:List Nd},trN ops l xs=some ns→∀ d∈ns,∃ o,ops[d.idx]? = some o∧l[d.idx]? = some d.so∧d.kind=kindOf d.so.op∧d.on=edgesOf o
 | [],ns,h=>by simp[trN] at h;subst h;simp
 | (j,m,ag)::xs,ns,h=>by
   simp only[trN] at h
   split at h
   ·rename_i o s ns' h1 h2 h3
    cases h
    intro d hd
    rcases List.mem_cons.1 hd with rfl | hd
    ·exact⟨o,h1,h2,rfl,rfl⟩
    ·exact trN_ok h3 d hd
   ·cases h
theorem trOpers_get {hs:Hints}{nt id:Nat}{all:List Oper}:∀ {os:List Oper}{k:Nat}{l:List SO},trOpers P hs nt id all k os=some l→∀ (j:Nat) o so,os[j]? = some o→l[j]? = some so →
 trOp P (hasH hs.other id (k+j)) o.type o.op=some so.op∧trGuard all o.guard=some so.guard∧so.dst=o.dst∧(∀ t,o.dst=some t→t<nt)
 | [],k,l,h,j,o,so,ho,_=>by simp at ho
 | o'::os,k,l,h,j,o,so,ho,hso=>by
   obtain⟨so',rest,rfl,h1,h2,h3,h4,h5⟩:=trOpers_cons h
   cases j with
   | zero=>simp at ho hso;subst ho;subst hso;exact⟨h1,h2,h3,h4⟩
   | succ j =>
     have:=trOpers_get h5 j o so (by simpa using ho) (by simpa using hso)
     rw[show k+1+j=k+(j+1) by omega] at this
     exact this
theorem trOp_alloc {m:Nat}{ty:TypeId}{op:Op}{et:Nat}{z:List D} (h:trOp P m ty op=some (.alloc et z)):op=.alloc et∧zeroT P et=some z:=by
 cases op with
 | alloc t =>
   simp only[trOp] at h
   split at h
   ·(repeat' split at h)<;>simp at h
   ·simp only[Option.map_eq_some_iff] at h;obtain⟨z',h1,h2⟩:=h;cases h2;exact⟨rfl,h1⟩
 | typeAssert x xT t c=>cases c<;>simp only[trOp] at h<;>(repeat' split at h)<;>simp at h
 | makeFunc f a b=>cases f<;>simp only[trOp] at h<;>(repeat' split at h)<;>simp at h
 | slice t x lo hi mx=>cases mx<;>simp only[trOp] at h<;>(repeat' split at h)<;>simp at h
 | _=>simp only[trOp,trEq] at h;(repeat' split at h)<;>simp at h
end
end
section
open Go
def XP (X:Cx) (pend:List (Nd×Nat)):Cx:=⟨fun b=>X b∨∃ p∈pend,p.2=b,X.P⟩
structure DC (P:Program) (nt:Nat) (ops:Array Oper) (ns:List Nd):Prop where
 dec:∀ d∈ns,∃ o m,ops[d.idx]? = some o∧trOp P m o.type o.op=some d.so.op∧trGuard ops.toList o.guard=some d.so.guard∧d.so.dst=o.dst∧(∀ t,o.dst=some t→t<nt)∧d.on=edgesOf o∧d.kind=kindOf d.so.op
 pw:ns.Pairwise (fun p q=>pairOk p q=true)
 one:∀ d∈ns,oneOk d=true
 anc:∀ d∈ns,AncG ns d
 ord:∀ l1 p l2,ns=l1++p::l2→∀ k∈p.on,∃ q∈l1,q.idx=k
 cov:∀ j,j<ops.size→∃ d∈ns,d.idx=j
 len:ns.length=ops.size
structure DSt (P:Program) (X:Cx) (μ0:Nat→Option Nat) (H0:Hp) (w0:World) (a0:Act) (ns R:List Nd) (pend:List (Nd×Nat)) (listed:Array Bool) (μ:Nat→Option Nat) (H:Hp) (w:World) (e:En) (a:Act):Prop where
 fr:Fr P (XP X pend) μ H w e a
 ext:Ext X μ0 H0 w0 μ H w
 sub:R.Sublist ns
 size:a.tmps.size=a0.tmps.size
 dfs:a.defers=a0.defers
 lst:∀ p∈ns,listed.getD p.idx false=true↔(p∈R→∃ b,(p,b)∈pend)
 cl:Closed ns fun k=>listed.getD k false=true
 pd:∀ x b,(x,b)∈pend→x∈R∧x.kind=2∧(∃ t,x.so.dst=some t∧a.tmps.getD t undef=.pointer (some ⟨b,0,none⟩)) ∧
  (∃ (z:List D) (c:Array Value) (et:TypeId),x.so.op=.alloc et z∧w.heap[b]? = some (.cells c et (0,0))∧∀ O w,HDs O w z c)∧w0.heap.size≤b
 u1:∀ x b b',(x,b)∈pend→(x,b')∈pend→b=b'
 u2:∀ x x' b,(x,b)∈pend→(x',b)∈pend→x=x'
 un:∀ p∈R,p.kind=2→∀ t,p.so.dst=some t→eget e t=.u
section
variable {P:Program}{call:CallF}{X:Cx}{μ0 μ:Nat→Option Nat}{H0 H:Hp}{w0 w:World}{e:En}{a0 a:Act}{Q:Exit→Act→World→Prop}{nt:Nat}{ops:Array Oper}{ns R:List Nd}{listed:Array Bool}{pend:List (Nd×Nat)}{keep:List Nat}{r:Ex×En×Hp}
theorem pw_mem {α:Type}{p:α→α→Prop}:∀ {l:List α},l.Pairwise p→∀ {x y:α},x∈l→y∈l→x=y∨p x y∨p y x
 | [],_,x,y,hx,_=>by cases hx
 | z::l,h,x,y,hx,hy=>by
   obtain⟨h1,h2⟩:=List.pairwise_cons.1 h
   rcases List.mem_cons.1 hx with e1 | hx'
   ·rcases List.mem_cons.1 hy with e2 | hy'
    ·exact .inl (e1.trans e2.symm)
    ·subst e1;exact .inr (.inl (h1 y hy'))
   ·rcases List.mem_cons.1 hy with e2 | hy'
    ·subst e2;exact .inr (.inr (h1 x hx'))
    ·exact pw_mem h2 hx' hy'
theorem pairOk_idx {p q:Nd} (h:pairOk p q=true):p.idx≠q.idx:=by
 simp only[pairOk,Bool.and_eq_true,Bool.not_eq_true',beq_eq_false_iff_ne] at h;exact h.1.1.1.1
theorem sameDst_comm (a b:Option Nat):sameDst a b=sameDst b a:=by
 cases a<;>cases b<;>simp[sameDst]
 rename_i x y
 exact Bool.beq_comm
theorem pairOk_alloc {p q:Nd} (h:pairOk p q=true) (hk:p.kind=2∨q.kind=2):sameDst p.so.dst q.so.dst=false:=by
 simp only[pairOk,Bool.and_eq_true,Bool.or_eq_true,Bool.not_eq_true',beq_iff_eq,Bool.or_eq_false_iff,beq_eq_false_iff_ne] at h
 rcases h.1.2 with h1 | h1
 ·rcases hk with hk | hk
  ·exact absurd hk h1.1
  ·exact absurd hk h1.2
 ·exact h1
theorem pairOk_anc {p q:Nd} (h:pairOk p q=true) (hp:p.kind≠0) (hq:q.kind≠2):q.anc.testBit p.idx=true:=by
 simp only[pairOk,Bool.and_eq_true,Bool.or_eq_true,Bool.not_eq_true',beq_iff_eq,Bool.or_eq_false_iff,beq_eq_false_iff_ne] at h
 rcases h.1.1.2 with (h1 | h1) | h1
 ·exact absurd h1 hp
 ·exact absurd h1 hq
 ·exact h1
theorem pairOk_lets {x i:Nd} (h:pairOk x i=true) (hone:oneOk x=true) (hx:x.kind=0) (hk:x.kind=kindOf x.so.op) (hn:i.anc.testBit x.idx=false):Lets x i:=by
 simp only[pairOk,Bool.and_eq_true,Bool.or_eq_true,Bool.not_eq_true',beq_iff_eq,hn,Bool.false_eq_true,false_or,apartN] at h
 obtain⟨⟨⟨⟨_,h1⟩,_⟩,_⟩,h2⟩:=h
 refine⟨hx,?_,h1.1.1,h1.1.2,h1.2,fun hh=>?_⟩
 ·rw[hx] at hk
  unfold kindOf at hk
  split at hk
  ·assumption
  ·split at hk<;>cases hk
 ·simp only[oneOk,Bool.and_eq_true,Bool.or_eq_true,Bool.not_eq_true',hh,Bool.true_eq_false,false_or,Option.isSome_iff_exists] at hone
  refine⟨hone.1.2.1,hone.1.2.2,fun hi=>?_⟩
  rcases h2 with h2 | h2
  ·rw[hh] at h2;cases h2
  ·rcases h2.2 with (h3 | h3) | h3
   ·simp[hi] at h3
   ·cases h3
   ·simpa using h3
theorem pairOk_between {x s:Nd} (h:pairOk x s=true):Between x s:=by
 intro hh
 simp only[pairOk,Bool.and_eq_true,Bool.or_eq_true,Bool.not_eq_true',hh,Bool.true_eq_false,false_or] at h
 exact h.2.1
theorem DC.inj (C:DC P nt ops ns) {p q:Nd} (hp:p∈ns) (hq:q∈ns) (h:p.idx=q.idx):p=q:=by
 rcases pw_mem C.pw hp hq with h1 | h1 | h1
 ·exact h1
 ·exact absurd h (pairOk_idx h1)
 ·exact absurd h.symm (pairOk_idx h1)
theorem DC.dst (C:DC P nt ops ns) {p q:Nd} (hp:p∈ns) (hq:q∈ns) (hne:p≠q) (hk:p.kind=2∨q.kind=2):sameDst p.so.dst q.so.dst=false:=by
 rcases pw_mem C.pw hp hq with h1 | h1 | h1
 ·exact absurd h1 hne
 ·exact pairOk_alloc h1 hk
 ·rw[sameDst_comm];exact pairOk_alloc h1 hk.symm
theorem DC.kind (C:DC P nt ops ns) {p:Nd} (hp:p∈ns):p.kind=kindOf p.so.op:=by
 obtain⟨o,m,_,_,_,_,_,_,h⟩:=C.dec p hp;exact h
theorem DC.guard (C:DC P nt ops ns) {p:Nd} (hp:p∈ns) (hk:p.kind=2):p.so.guard=none∧∃ t,p.so.dst=some t:=by
 have:=C.one p hp
 simp only[oneOk,Bool.and_eq_true,Bool.or_eq_true,Bool.not_eq_true',hk,beq_self_eq_true,Bool.true_eq_false,false_or,Option.isSome_iff_exists,Option.isNone_iff_eq_none] at this
 exact this.2
theorem split_kind:∀ R:List Nd,(∀ x∈R,x.kind=0)∨∃ F x G,R=F++x::G∧(∀ y∈F,y.kind=0)∧x.kind≠0
 | []=>.inl (by simp)
 | x::R=>by
   by_cases hx:x.kind=0
   ·rcases split_kind R with h | ⟨F,y,G,rfl,h1,h2⟩
    ·exact .inl (by simpa[hx] using h)
    ·exact .inr ⟨x::F,y,G,rfl,by simpa[hx] using h1,h2⟩
   ·exact .inr ⟨[],x,R,rfl,by simp,hx⟩
theorem not_mem_rest (C:DC P nt ops ns) {F G:List Nd}{x:Nd} (h:(F++x::G).Sublist ns):x∉F++G:=by
 have hp:=C.pw.sublist h
 intro hm
 obtain⟨h1,h2,h3⟩:=List.pairwise_append.1 hp
 rcases List.mem_append.1 hm with hm | hm
 ·exact pairOk_idx (h3 x hm x (by simp)) rfl
 ·exact pairOk_idx ((List.pairwise_cons.1 h2).1 x hm) rfl
theorem sub_drop {F G:List Nd}{x:Nd} (h:(F++x::G).Sublist ns):(F++G).Sublist ns :=
 List.Sublist.trans (List.Sublist.append (List.Sublist.refl F) (List.sublist_cons_self x G)) h
theorem DSt.lets (C:DC P nt ops ns) {F G:List Nd}{x:Nd} (hsub:(F++x::G).Sublist ns) (hF:∀ y∈F,y.kind=0) (hS:∀ j,x.anc.testBit j=true→listed.getD j false=true) (hl:∀ y∈F,listed.getD y.idx false=false) :
 (∀ y∈F,Lets y x)∧F.Pairwise Between:=by
 have hp:=C.pw.sublist hsub
 obtain⟨h1,h2,h3⟩:=List.pairwise_append.1 hp
 have hmem:∀ y∈F,y∈ns:=fun y hy=>hsub.subset (List.mem_append_left _ hy)
 refine⟨fun y hy=>pairOk_lets (h3 y hy x (by simp)) (C.one y (hmem y hy)) (hF y hy) (C.kind (hmem y hy)) ?_,h1.imp fun h=>pairOk_between h⟩
 cases h:x.anc.testBit y.idx with
 | false=>rfl
 | true=>have:=hS _ h;rw[hl y hy] at this;cases this
theorem evG_alloc {so:SO}{et:Nat}{z:List D} (hg:so.guard=none) (ho:so.op=.alloc et z) (e:En) (h:Hp):evG call so e h=some (.val (.p h.length 0),.box et (z.map .d)::h):=by
 unfold evG;rw[hg,ho];rfl
theorem push_one (C:DC P nt ops ns) (low0:∀ b,X b→b<w0.heap.size) {F G:List Nd}{x:Nd}{b:Nat} (S:DSt P X μ0 H0 w0 a0 ns (F++x::G) pend listed μ H w e a) (hb:(x,b)∈pend) (hF:∀ y∈F,y.kind=0) {past:List DI}
 (hr:evD call keep past ((F++x::G).map Nd.di) e H=some r) :
 ∃ pend' past' e' H' μ',DSt P X μ0 H0 w0 a0 ns (F++G) pend' listed μ' H' w e' a∧evD call keep past' ((F++G).map Nd.di) e' H'=some r∧(∀ y b',(y,b')∈pend→y≠x→(y,b')∈pend'):=by
 obtain⟨hxR,hk2,⟨t,ht,htm⟩,⟨z,c,et,hop,hc,hz⟩,hbw⟩:=S.pd x b hb
 have hxn:x∈ns:=S.sub.subset hxR
 have hnot:=not_mem_rest C S.sub
 obtain⟨hg,_⟩:=C.guard hxn hk2
 have hxl:listed.getD x.idx false=true:=(S.lst x hxn).2 fun _=>⟨b,hb⟩
 have hanc:∀ j,x.anc.testBit j=true→listed.getD j false=true:=C.anc x hxn _ S.cl (S.cl x hxn hxl)
 have hFl:∀ y∈F,listed.getD y.idx false=false:=by
  intro y hy
  cases h:listed.getD y.idx false with
  | false=>rfl
  | true =>
    obtain⟨b',hb'⟩:=(S.lst y (S.sub.subset (List.mem_append_left _ hy))).1 h (List.mem_append_left _ hy)
    have:=(S.pd y b' hb').2.1
    rw[hF y hy] at this;cases this
 obtain⟨hL,hB⟩:=DSt.lets C S.sub hF hanc hFl
 have hk:x.kind=1∨∀ e v h',evG call x.so e H=some (.val v,h')→(h'=H∨∃ y,h'=y::H):=.inr fun e v h' hq=>by
  rw[evG_alloc hg hop] at hq;cases hq;exact .inr ⟨_,rfl⟩
 rw[List.map_append,List.map_cons] at hr
 obtain⟨q,hq,hres⟩:=front hk F hL hB hr
 rw[evG_alloc hg hop] at hq
 cases hq
 rw[ht] at hres
 have hXle:∀ b',XP X (pend.filter (fun p=>p.2 != b)) b'→XP X pend b':=by
  rintro b' (h1 | ⟨p,hp,h1⟩)
  ·exact .inl h1
  ·exact .inr ⟨p,(List.mem_filter.1 hp).1,h1⟩
 have hb0:XP X pend b:=.inr ⟨(x,b),hb,rfl⟩
 have hn0:¬ XP X (pend.filter (fun p=>p.2 != b)) b:=by
  rintro (h1 | ⟨p,hp,h1⟩)
  ·have:=low0 b h1;omega
  ·have:=(List.mem_filter.1 hp).2;simp[h1] at this
 obtain⟨i',x'⟩:=S.fr.inv.activate (X:=XP X (pend.filter (fun p=>p.2 != b))) (by rfl) hXle hb0 hn0 hc hz
 have hmem':∀ y b',(y,b')∈pend→y≠x→(y,b')∈pend.filter (fun p=>p.2 != b):=by
  intro y b' hy hne
  refine List.mem_filter.2 ⟨hy,?_⟩
  have:b'≠b:=fun h=>hne (S.u2 y x b (h▸hy) hb)
  simpa using this
 have hmemb:∀ y b',(y,b')∈pend.filter (fun p=>p.2 != b)→(y,b')∈pend∧y≠x:=by
  intro y b' hy
  obtain⟨h1,h2⟩:=List.mem_filter.1 hy
  refine⟨h1,fun h=>?_⟩
  subst h
  have:=S.u1 y b' b h1 hb
  subst this;simp at h2
 refine⟨pend.filter (fun p=>p.2 != b),x.di::past,put e (some t) (.p H.length 0),.box et (z.map .d)::H,upd μ H.length (some b),⟨⟨S.fr.hp,i',S.fr.gl.mono x',?_⟩,S.ext.from x' (fun b' h=>.inl h) ?_,sub_drop S.sub,S.size,S.dfs,?_,S.cl,?_,?_,?_,?_⟩,by rw[List.map_append];exact hres,hmem'⟩
 ·intro k
  by_cases hkt:k=t
  ·subst hkt
   rw[eget_put_self,htm]
   exact .p _ _ _ (by simp) (upd_self ..) (by unfold isGr;rw[hget_cons_self];exact id)
  ·rw[eget_put_other (fun h=>hkt (by cases h;rfl))]
   exact((S.fr.env.mono S.fr.inv x') k).sub (fun _ _=>rfl) (fun _ _ hO=>hO.imp hXle)
 ·rintro b' (h1 | ⟨p,hp,h1⟩)
  ·exact .inl h1
  ·obtain⟨p1,p2⟩:=p
   exact .inr (h1▸(S.pd p1 p2 hp).2.2.2.2)
 ·intro p hp
  by_cases hpx:p=x
  ·subst hpx
   exact⟨fun _ hm=>absurd hm hnot,fun _=>hxl⟩
  ·rw[S.lst p hp]
   constructor
   ·intro h hm
    obtain⟨b',hb'⟩:=h (by rcases List.mem_append.1 hm with h | h<;>simp[h])
    exact⟨b',hmem' p b' hb' hpx⟩
   ·intro h hm
    have:p∈F++G:=by
     rcases List.mem_append.1 hm with h | h
     ·simp[h]
     ·rcases List.mem_cons.1 h with h | h
      ·exact absurd h hpx
      ·simp[h]
    obtain⟨b',hb'⟩:=h this
    exact⟨b',(hmemb p b' hb').1⟩
 ·intro y b' hy
  obtain⟨h1,hne⟩:=hmemb y b' hy
  obtain⟨g1,g2,g3,g4,g5⟩:=S.pd y b' h1
  refine⟨?_,g2,g3,g4,g5⟩
  rcases List.mem_append.1 g1 with h | h
  ·simp[h]
  ·rcases List.mem_cons.1 h with h | h
   ·exact absurd h hne
   ·simp[h]
 ·exact fun y b1 b2 h1 h2=>S.u1 y b1 b2 (hmemb _ _ h1).1 (hmemb _ _ h2).1
 ·exact fun y y' b1 h1 h2=>S.u2 y y' b1 (hmemb _ _ h1).1 (hmemb _ _ h2).1
 ·intro p hp hk t' ht'
  have hpx:p≠x:=fun h=>hnot (h▸hp)
  have hpR:p∈F++x::G:=by rcases List.mem_append.1 hp with h | h<;>simp[h]
  rw[eget_put_other (fun h=>by
   have:=C.dst (S.sub.subset hpR) hxn hpx (.inl hk)
   exact sameDst_false this t' ht' (by rw[ht];exact h))]
  exact S.un p hpR hk t' ht'
theorem flush (C:DC P nt ops ns) (low0:∀ b,X b→b<w0.heap.size):∀ (n:Nat) {R1 rest:List Nd}{pend:List (Nd×Nat)}{μ:Nat→Option Nat}{H:Hp}{e:En}{past:List DI},R1.length≤n →
 DSt P X μ0 H0 w0 a0 ns (R1++rest) pend listed μ H w e a→(∀ x∈R1,x.kind=0∨∃ b,(x,b)∈pend)→evD call keep past ((R1++rest).map Nd.di) e H=some r →
 ∃ R1' pend' past' e' H' μ',DSt P X μ0 H0 w0 a0 ns (R1'++rest) pend' listed μ' H' w e' a∧(∀ x∈R1',x.kind=0∧x∈R1)∧evD call keep past' ((R1'++rest).map Nd.di) e' H'=some r
 | n,R1,rest,pend,μ,H,e,past,hn,S,hR,hr=>by
   rcases split_kind R1 with h | ⟨F,x,G,rfl,hF,hx⟩
   ·exact⟨R1,pend,past,e,H,μ,S,fun x hx=>⟨h x hx,hx⟩,hr⟩
   ·cases n with
    | zero=>simp at hn
    | succ n =>
      obtain⟨b,hb⟩:=(hR x (by simp)).resolve_left hx
      rw[List.append_assoc,List.cons_append] at S hr
      obtain⟨pend',past',e',H',μ',S',hr',hp'⟩:=push_one C low0 S hb hF hr
      rw[← List.append_assoc] at S' hr'
      have hnot:x∉F++(G++rest):=not_mem_rest C S.sub
      obtain⟨R1',pend'',past'',e'',H'',μ'',S'',h1,h2⟩:=flush C low0 n (R1:=F++G) (by simp at hn ⊢; omega) S' (fun y hy=>by
       have hy':y∈F++x::G:=by rcases List.mem_append.1 hy with h | h<;>simp[h]
       refine(hR y hy').imp id fun ⟨b',hb'⟩=>⟨b',hp' y b' hb' fun h=>?_⟩
       subst h
       refine hnot ?_
       rcases List.mem_append.1 hy with h | h<;>simp[h]) hr'
      refine⟨R1',pend'',past'',e'',H'',μ'',S'',fun y hy=>⟨(h1 y hy).1,?_⟩,h2⟩
      rcases List.mem_append.1 (h1 y hy).2 with h | h<;>simp[h]
end
end
section
open Go
section
variable {P:Program}{call:CallF}{X:Cx}{μ0 μ:Nat→Option Nat}{H0 H:Hp}{w0 w:World}{e:En}{a0 a:Act}{Q:Exit→Act→World→Prop}{nt:Nat}{ops:Array Oper}{ns R:List Nd}{listed:Array Bool}{pend:List (Nd×Nat)}{keep:List Nat}{r:Ex×En×Hp}
theorem getD_set_self {listed:Array Bool}{i:Nat} (h:i<listed.size):(listed.setIfInBounds i true).getD i false=true:=by simp[Array.getD_eq_getD_getElem?,h]
theorem first_un (listed:Array Bool):∀ ns:List Nd,(∀ p∈ns,listed.getD p.idx false=true)∨∃ l1 p l2,ns=l1++p::l2∧(∀ q∈l1,listed.getD q.idx false=true)∧listed.getD p.idx false=false
 | []=>.inl (by simp)
 | x::ns=>by
   cases hx:listed.getD x.idx false with
   | false=>exact .inr ⟨[],x,ns,rfl,by simp,hx⟩
   | true =>
     rcases first_un listed ns with h | ⟨l1,p,l2,rfl,h1,h2⟩
     ·exact .inl fun p hp=>by
       rcases List.mem_cons.1 hp with e1 | hp'
       ·rw[e1];exact hx
       ·exact h p hp'
     ·exact .inr ⟨x::l1,p,l2,rfl,fun q hq=>by
       rcases List.mem_cons.1 hq with e1 | hq'
       ·rw[e1];exact hx
       ·exact h1 q hq',h2⟩
theorem mem_edges {o:Oper}{k:Nat}:k∈edgesOf o↔∃ e∈o.after,Region.binds .any e=true∧e.on=k:=by
 unfold edgesOf
 simp[List.mem_map,List.mem_filter,and_assoc]
theorem DC.lt (C:DC P nt ops ns) {d:Nd} (hd:d∈ns):d.idx<ops.size:=by
 obtain⟨o,m,h,_⟩:=C.dec d hd
 exact(Array.getElem?_eq_some_iff.1 h).1
theorem unlisted {listed:Array Bool}{j:Nat} (h:j<listed.size):listed.getD j true=false↔listed.getD j false=false:=by
 simp[Array.getD_eq_getD_getElem?,h]
theorem all_listed (C:DC P nt ops ns) (hls:listed.size=ops.size) (h:Region.ready .any ops listed=[]):∀ p∈ns,listed.getD p.idx false=true:=by
 rcases first_un listed ns with h1 | ⟨l1,p,l2,rfl,h1,h2⟩
 ·exact h1
 ·exfalso
  have hp:p∈l1++p::l2:=by simp
  obtain⟨o,m,g1,_,_,_,_,g6,_⟩:=C.dec p hp
  have:p.idx∈Region.ready .any ops listed:=by
   rw[mem_ready]
   refine⟨(unlisted (by rw[hls];exact C.lt hp)).2 h2,o,g1,fun e he hb=>?_⟩
   obtain⟨q,hq,hi⟩:=C.ord l1 p l2 rfl e.on (by rw[g6];exact mem_edges.2 ⟨e,he,hb,rfl⟩)
   rw[← hi];exact h1 q hq
  rw[h] at this;cases this
theorem done (C:DC P nt ops ns) (low0:∀ b,X b→b<w0.heap.size) (S:DSt P X μ0 H0 w0 a0 ns R pend listed μ H w e a) {past:List DI} (hr:evD call keep past (R.map Nd.di) e H=some r) (hQ:CEnds X μ0 H0 w0 a0 r Q)
 (hall:∀ p∈ns,listed.getD p.idx false=true):Q .normal a w:=by
 have hp:∀ x∈R,∃ b,(x,b)∈pend:=fun x hx=>(S.lst x (S.sub.subset hx)).1 (hall x (S.sub.subset hx)) hx
 obtain⟨R1',pend',past',e',H',μ',S',h1,h2⟩:=flush C low0 R.length (rest:=[]) (Nat.le_refl _) (by rw[List.append_nil];exact S) (fun x hx=>.inr (hp x hx)) (by rw[List.append_nil];exact hr)
 have hnil:R1'=[]:=by
  cases R1' with
  | nil=>rfl
  | cons y R1' =>
    obtain⟨g1,g2⟩:=h1 y (by simp)
    obtain⟨b,hb⟩:=hp y g2
    have:=(S.pd y b hb).2.1
    rw[g1] at this;cases this
 subst hnil
 simp only[List.append_nil,List.map_nil,evD] at h2
 cases h2
 have hX:∀ b,X b→XP X pend' b:=fun b h=>.inl h
 exact hQ a w ⟨μ',S'.fr.inv.less (by rfl) hX,S'.ext,(S'.fr.env.sub (fun _ _=>rfl) (fun _ _ hO=>hO.imp hX)).keep keep,S'.size,Marks.of_eq S'.dfs⟩
theorem count_less (C:DC P nt ops ns) (hls:listed.size=ops.size) {d:Nd} (hd:d∈ns) (hu:listed.getD d.idx false=false) {k:Nat} (h:ns.countP (fun p => !listed.getD p.idx false)≤k+1) :
 ns.countP (fun p => !(listed.setIfInBounds d.idx true).getD p.idx false)≤k:=by
 obtain⟨l1,l2,rfl⟩:=List.append_of_mem hd
 have hnot:=not_mem_rest C (List.Sublist.refl (l1++d::l2))
 have hlt:d.idx<listed.size:=by rw[hls];exact C.lt hd
 have hsame:∀ p∈l1++l2,(listed.setIfInBounds d.idx true).getD p.idx false=listed.getD p.idx false:=by
  intro p hp
  refine getD_set_ne false fun hi=>?_
  have hpn:p∈l1++d::l2:=by rcases List.mem_append.1 hp with h | h<;>simp[h]
  have:=C.inj hd hpn hi
  subst this;exact hnot hp
 have e1:l1.countP (fun p => !(listed.setIfInBounds d.idx true).getD p.idx false)=l1.countP (fun p => !listed.getD p.idx false):=List.countP_congr fun p hp=>by rw[hsame p (by simp[hp])]
 have e2:l2.countP (fun p => !(listed.setIfInBounds d.idx true).getD p.idx false)=l2.countP (fun p => !listed.getD p.idx false):=List.countP_congr fun p hp=>by rw[hsame p (by simp[hp])]
 rw[List.countP_append,List.countP_cons,e1,e2,getD_set_self hlt]
 rw[List.countP_append,List.countP_cons,hu] at h
 simp at h ⊢
 omega
theorem kindOf_alloc {op:SOp} (h:kindOf op=2):∃ et z,op=.alloc et z:=by
 unfold kindOf at h
 split at h
 ·cases h
 ·split at h
  ·exact⟨_,_,rfl⟩
  ·cases h
theorem kindOf_free {op:SOp} (h:kindOf op=0):freeOp op=true:=by
 unfold kindOf at h
 split at h
 ·assumption
 ·split at h<;>cases h
theorem kindOf_one {op:SOp} (h0:kindOf op≠0) (h2:kindOf op≠2):kindOf op=1:=by
 unfold kindOf at *
 by_cases hf:freeOp op=true
 ·rw[if_pos hf] at h0;exact absurd rfl h0
 ·rw[if_neg hf] at h2 ⊢
  cases op<;>first | rfl | exact absurd rfl h2
theorem guard_none {all:List Oper}{g:Option (Nat×Bool)} (h:trGuard all g=some none):g=none:=by
 unfold trGuard at h
 split at h
 ·rfl
 ·split at h
  ·split at h<;>cases h
  ·cases h
theorem draw_main (ro:Option Nat) (C:DC P nt ops ns) (low0:∀ b,X b→b<w0.heap.size) (hcall:CallOk P call) (hbody:CallB P call)
 (hnt:nt≤a0.tmps.size) (hQ:CEnds X μ0 H0 w0 a0 r Q) :
 ∀ (fuel:Nat) {listed:Array Bool}{μ:Nat→Option Nat}{H:Hp}{w:World}{e:En}{a:Act}{R:List Nd}{pend:List (Nd×Nat)}{past:List DI},DSt P X μ0 H0 w0 a0 ns R pend listed μ H w e a →
  evD call keep past (R.map Nd.di) e H=some r→listed.size=ops.size→ns.countP (fun p => !listed.getD p.idx false)≤fuel→wpAnyIn (FW ro) 0 P .any ops Q fuel listed a w
 | 0,listed,μ,H,w,e,a,R,pend,past,S,hr,hls,hc=>by
   have hall:∀ p∈ns,listed.getD p.idx false=true:=by
    have h0:ns.countP (fun p => !listed.getD p.idx false)=0:=by omega
    intro p hp
    have:=List.countP_eq_zero.1 h0 p hp
    simpa using this
   refine⟨?_,done C low0 S hr hQ hall⟩
   cases hrd:Region.ready .any ops listed with
   | nil=>rfl
   | cons i l =>
     have hi:i∈Region.ready .any ops listed:=by rw[hrd];simp
     obtain⟨h1,o,h2,_⟩:=mem_ready.1 hi
     have hlt:=(Array.getElem?_eq_some_iff.1 h2).1
     obtain⟨d,hd,rfl⟩:=C.cov i hlt
     rw[unlisted (by rw[hls];exact hlt),hall d hd] at h1;cases h1
 | fuel+1,listed,μ,H,w,e,a,R,pend,past,S,hr,hls,hc=>by
   refine⟨fun h=>done C low0 S hr hQ (all_listed C hls h),fun i hi=>?_⟩
   obtain⟨hul,o,ho,hedge⟩:=mem_ready.1 hi
   obtain⟨d,hd,rfl⟩:=C.cov i (Array.getElem?_eq_some_iff.1 ho).1
   obtain⟨o',m,g1,g2,g3,g4,g5,g6,g7⟩:=C.dec d hd
   have hoo:o'=o:=by rw[ho] at g1;cases g1;rfl
   subst hoo
   have hlt:d.idx<listed.size:=by rw[hls];exact C.lt hd
   rw[unlisted hlt] at hul
   have hon:∀ k∈d.on,listed.getD k false=true:=fun k hk=>by
    rw[g6] at hk
    obtain⟨ed,he,hb,rfl⟩:=mem_edges.1 hk
    exact hedge ed he hb
   have hdR:d∈R:=by
    refine Classical.byContradiction fun hn=>?_
    rw[(S.lst d hd).2 fun h=>absurd h hn] at hul;cases hul
   have hdp:∀ b,(d,b)∉pend:=fun b hb=>by
    rw[(S.lst d hd).2 fun _=>⟨b,hb⟩] at hul;cases hul
   have hcnt:=count_less C hls hd hul hc
   have hls':(listed.setIfInBounds d.idx true).size=ops.size:=by simpa using hls
   have hset:∀ k,listed.getD k false=true→(listed.setIfInBounds d.idx true).getD k false=true:=fun k h=>getD_set_true h
   have hself:=getD_set_self hlt
   have hcl:Closed ns fun k=>(listed.setIfInBounds d.idx true).getD k false=true:=by
    intro d' hd' hl k hk
    by_cases hdd:d'=d
    ·subst hdd;exact hset k (hon k hk)
    ·have hne:d.idx≠d'.idx:=fun h=>hdd (C.inj hd' hd h.symm)
     rw[getD_set_ne false hne] at hl
     exact hset k (S.cl d' hd' hl k hk)
   by_cases hk2:d.kind=2
   ·
     obtain⟨ty,z,hz⟩:=kindOf_alloc (g7▸hk2)
     obtain⟨hgd,td,htd⟩:=C.guard hd hk2
     rw[hz] at g2
     obtain⟨hty,hzt⟩:=trOp_alloc g2
     obtain⟨inf,v,h1,h2,h3⟩:=zeroT_ok hzt
     have hg0:o'.guard=none:=guard_none (hgd▸g3)
     have hdst:o'.dst=some td:=by rw[← g4];exact htd
     have hrun:(execOp a.eval o').run P w=.ok (.value (.pointer (some ⟨w.heap.size,0,none⟩))) (w.alloc (.cells v.cells ty)):=by
      unfold execOp;rw[hty];simp[Instr.alloc,zeroValue,typeInfo,h1,h2,newVar,newRow]
     unfold wpOpIn
     simp only[ho,Region.wanted,hg0,if_true]
     refine⟨fun _ _=>trivial,?_⟩
     rw[Oper.semAt_eq ro a.eval o' (by intro c h;rw[hty] at h;cases h),hrun]
     have tsz:td<a.tmps.size:=by rw[S.size];exact Nat.lt_of_lt_of_le (g5 td hdst) hnt
     have hXb:∀ b,XP X ((d,w.heap.size)::pend) b→XP X pend b∨b=w.heap.size:=by
      rintro b (h | ⟨p,hp,h⟩)
      ·exact .inl (.inl h)
      ·rcases List.mem_cons.1 hp with rfl | hp
       ·exact .inr h.symm
       ·exact .inl (.inr ⟨p,hp,h⟩)
     have hwa:∀ b,b<w.heap.size→(w.alloc (.cells v.cells ty)).heap[b]? = w.heap[b]? := fun b hb=>heap_alloc w _ b hb
     have hXle:∀ b,X b→XP X pend b:=fun b h=>.inl h
     have hpl:∀ x b,(x,b)∈pend→b<w.heap.size:=fun x b hb=>by
      obtain⟨_,_,_,⟨_,_,_,_,hh,_⟩,_⟩:=S.pd x b hb
      exact lt_of_heap hh
     refine draw_main ro C low0 hcall hbody hnt hQ fuel (R:=R) (pend:=(d,w.heap.size)::pend) (past:=past) ⟨⟨S.fr.hp,S.fr.inv.reserve (by rfl) _ hXb,S.fr.gl,?_⟩,S.ext.trans (Ext.alloc (S.fr.inv.less (by rfl) hXle) _),S.sub,(put_size ..).trans S.size,(put_defers ..).trans S.dfs,?_,hcl,?_,?_,?_,S.un⟩ hr hls' hcnt
     ·intro k
      by_cases hkt:k=td
      ·subst hkt;rw[S.un d hdR hk2 k htd];exact .u _
      ·have:=S.fr.env.sub (O':=Own (XP X ((d,w.heap.size)::pend)) μ H) hwa (fun b hb hO=>by
        rcases hO with hO | hO
        ·rcases hXb b hO with h | h
         ·exact .inl h
         ·omega
        ·exact .inr hO) k
       rw[hdst]
       simpa[Act.put,Array.getD_eq_getD_getElem?,Array.getElem?_setIfInBounds_ne (Ne.symm hkt)] using this
     ·intro p hp
      by_cases hpd:p=d
      ·subst hpd;exact⟨fun _ _=>⟨w.heap.size,by simp⟩,fun _=>hself⟩
      ·have hne:d.idx≠p.idx:=fun h=>hpd (C.inj hp hd h.symm)
       rw[getD_set_ne false hne,S.lst p hp]
       constructor
       ·intro h hm;obtain⟨b,hb⟩:=h hm;exact⟨b,by simp[hb]⟩
       ·intro h hm
        obtain⟨b,hb⟩:=h hm
        rcases List.mem_cons.1 hb with hb | hb
        ·cases hb;exact absurd rfl hpd
        ·exact⟨b,hb⟩
     ·intro x b hb
      rcases List.mem_cons.1 hb with hb | hb
      ·cases hb
       refine⟨hdR,hk2,⟨td,htd,?_⟩,⟨z,v.cells,ty,hz,heap_alloc_new w _,h3⟩,S.ext.size⟩
       rw[hdst];simp[Act.put,Array.getD_eq_getD_getElem?,tsz]
      ·obtain⟨p1,p2,⟨t,ht,htm⟩,⟨z',c,et,q1,q2,q3⟩,p5⟩:=S.pd x b hb
       have hxd:x≠d:=fun h=>hdp b (h▸hb)
       refine⟨p1,p2,⟨t,ht,?_⟩,⟨z',c,et,q1,(hwa b (lt_of_heap q2)).trans q2,q3⟩,p5⟩
       have hne:td≠t:=fun h=>sameDst_false (C.dst (S.sub.subset p1) hd hxd (.inl p2)) t ht (by rw[htd,h])
       rw[hdst]
       simpa[Act.put,Array.getD_eq_getD_getElem?,Array.getElem?_setIfInBounds_ne hne] using htm
     ·intro x b b' h1 h2
      rcases List.mem_cons.1 h1 with h1 | h1
      ·rcases List.mem_cons.1 h2 with h2 | h2
       ·cases h1;cases h2;rfl
       ·cases h1;exact absurd h2 (hdp b')
      ·rcases List.mem_cons.1 h2 with h2 | h2
       ·cases h2;exact absurd h1 (hdp b)
       ·exact S.u1 x b b' h1 h2
     ·intro x x' b h1 h2
      rcases List.mem_cons.1 h1 with h1 | h1
      ·rcases List.mem_cons.1 h2 with h2 | h2
       ·cases h1;cases h2;rfl
       ·cases h1;have:=hpl x' _ h2;omega
      ·rcases List.mem_cons.1 h2 with h2 | h2
       ·cases h2;have:=hpl x _ h1;omega
       ·exact S.u2 x x' b h1 h2
   ·
     obtain⟨R1,R2,hRR⟩:=List.append_of_mem hdR
     subst hRR
     have hnotd:=not_mem_rest C S.sub
     have hanc:∀ j,d.anc.testBit j=true→listed.getD j false=true:=C.anc d hd _ S.cl hon
     have hpw:=C.pw.sublist S.sub
     have hR1:∀ x∈R1,x.kind=0∨∃ b,(x,b)∈pend:=by
      intro x hx
      by_cases hx0:x.kind=0
      ·exact .inl hx0
      ·have hxn:x∈ns:=S.sub.subset (List.mem_append_left _ hx)
       have hp:=(List.pairwise_append.1 hpw).2.2 x hx d (by simp)
       have hl:=hanc _ (pairOk_anc hp hx0 hk2)
       exact .inr ((S.lst x hxn).1 hl (List.mem_append_left _ hx))
     obtain⟨R1',pend',past',e',H',μ',S',h1,h2⟩:=flush C low0 R1.length (Nat.le_refl _) S hR1 hr
     have hnotd':=not_mem_rest C S'.sub
     have hul':∀ y∈R1',listed.getD y.idx false=false:=by
      intro y hy
      cases h:listed.getD y.idx false with
      | false=>rfl
      | true =>
        obtain⟨b',hb'⟩:=(S'.lst y (S'.sub.subset (List.mem_append_left _ hy))).1 h (List.mem_append_left _ hy)
        have:=(S'.pd y b' hb').2.1
        rw[(h1 y hy).1] at this;cases this
     obtain⟨hL,hB⟩:=DSt.lets C S'.sub (fun y hy=>(h1 y hy).1) hanc hul'
     rw[List.map_append,List.map_cons] at h2
     have hk:d.kind=1∨∀ e v h',evG call d.so e H'=some (.val v,h')→(h'=H'∨∃ y,h'=y::H'):=by
      by_cases hk0:d.kind=0
      ·refine .inr fun e v h' hq=>?_
       obtain⟨v',hv'⟩:=free_heapG (kindOf_free (g7▸hk0)) hq
       cases hv'; exact .inl rfl
      ·exact .inl (by rw[g7];exact kindOf_one (g7▸hk0) (g7▸hk2))
     obtain⟨q,hq,hres⟩:=front hk R1' hL hB h2
     have hdp':∀ b,(d,b)∉pend':=fun b hb=>by
      rw[(S'.lst d hd).2 fun _=>⟨b,hb⟩] at hul;cases hul
     unfold wpOpIn
     simp only[ho]
     have hXle:∀ b,X b→XP X pend' b:=fun b h=>.inl h
     have hXn:∀ b,XP X pend' b→X b∨w0.heap.size≤b:=by
      rintro b' (h1 | ⟨p,hp,h1⟩)
      ·exact .inl h1
      ·obtain⟨p1,p2⟩:=p
       exact .inr (h1▸(S'.pd p1 p2 hp).2.2.2.2)
     have key:=evG_ok (Q:=Q) ro (ops:=ops) (o:=o') (so:=d.so) (m:=m) (K:=wpAnyIn (FW ro) 0 P .any ops Q fuel (listed.setIfInBounds d.idx true)) hcall hbody S'.fr g2 g3 hq ?_
     ·split
      ·rename_i hw;rw[if_pos hw] at key;exact key
      ·rename_i hw;rw[if_neg hw] at key;exact key
     ·obtain⟨q1,H''⟩:=q
      cases q1 with
      | pan v =>
        intro c w' hs
        dsimp only at hres
        subst hres
        obtain⟨μ'',i'',x'',hv⟩:=hs
        exact hQ a w' c ⟨μ'',i''.less (by rfl) hXle,S'.ext.from x'' hXle hXn,hv.sub (fun _ _=>rfl) (fun _ _ hO=>hO.imp hXle),S'.size,Marks.of_eq S'.dfs⟩
      | val v =>
        intro c w' hs
        obtain⟨μ'',i'',x'',hv⟩:=hs
        have hmemR:∀ {p},p∈R1'++R2→p∈R1'++d::R2:=fun {p} hp=>by rcases List.mem_append.1 hp with h | h<;>simp[h]
        refine draw_main ro C low0 hcall hbody hnt hQ fuel (R:=R1'++R2) (pend:=pend') (past:=d.di::past') ⟨⟨S'.fr.hp,i'',S'.fr.gl.mono x'',?_⟩,S'.ext.from x'' hXle hXn,sub_drop S'.sub,(put_size ..).trans S'.size,(put_defers ..).trans S'.dfs,?_,hcl,?_,S'.u1,S'.u2,?_⟩ (by rw[List.map_append];exact hres) hls' hcnt
        ·rw[g4]
         exact(S'.fr.env.mono S'.fr.inv x'').put (fun t ht=>by rw[S'.size];exact Nat.lt_of_lt_of_le (g5 t ht) hnt) hv
        ·intro p hp
         by_cases hpd:p=d
         ·subst hpd;exact⟨fun _ hm=>absurd hm hnotd',fun _=>hself⟩
         ·have hne:d.idx≠p.idx:=fun h=>hpd (C.inj hp hd h.symm)
          rw[getD_set_ne false hne,S'.lst p hp]
          constructor
          ·intro h hm;exact h (hmemR hm)
          ·intro h hm
           refine h ?_
           rcases List.mem_append.1 hm with h | h
           ·simp[h]
           ·rcases List.mem_cons.1 h with h | h
            ·exact absurd h hpd
            ·simp[h]
        ·intro x b hb
         obtain⟨p1,p2,⟨t,ht,htm⟩,⟨z',c',et,q1,q2,q3⟩,p5⟩:=S'.pd x b hb
         have hxd:x≠d:=fun h=>hdp' b (h▸hb)
         refine⟨?_,p2,⟨t,ht,?_⟩,⟨z',c',et,q1,(x''.xblk b (.inr ⟨(x,b),hb,rfl⟩)).trans q2,q3⟩,p5⟩
         ·rcases List.mem_append.1 p1 with h | h
          ·simp[h]
          ·rcases List.mem_cons.1 h with h | h
           ·exact absurd h hxd
           ·simp[h]
         ·have hne:∀ t',o'.dst=some t'→t'≠t:=fun t' h1 h2=>sameDst_false (C.dst (S'.sub.subset p1) hd hxd (.inl p2)) t ht (by rw[g4,h1,h2])
          cases hod:o'.dst with
          | none=>exact htm
          | some t'=>simpa[Act.put,Array.getD_eq_getD_getElem?,Array.getElem?_setIfInBounds_ne (hne t' hod)] using htm
        ·intro p hp hpk t ht
         have hpd:p≠d:=fun h=>hnotd' (h▸hp)
         rw[eget_put_other (sameDst_false (C.dst (S'.sub.subset (hmemR hp)) hd hpd (.inl hpk)) t ht)]
         exact S'.un p (hmemR hp) hpk t ht
end
end
section
open Go
theorem HD.keep {O:Bs}{w w':World} (hw:∀ (b:Nat) c e z,w.heap[b]? = some (.cells c e z)→w'.heap[b]? = w.heap[b]?) {d:D}{c:Value} (h:HD O w d c):HD O w' d c:=by
 have hc:∀ {b a n:Nat}{cf:Nat→Value},cellsAt w b a n cf→cellsAt w' b a n cf:=by
  intro b a n cf h j hj
  have hj':=h j hj
  unfold World.cell? at hj' ⊢
  cases hb:w.heap[b]? with
  | none=>rw[hb] at hj'; simp at hj'
  | some o =>
    cases o with
    | cells c e z=>rw[hw b c e z hb];exact hj'
    | _=>rw[hb] at hj'; simp at hj'
 induction h with
 | b x=>exact .b x
 | i k n=>exact .i k n
 | s l=>exact .s l
 | nilp=>exact .nilp
 | nilf=>exact .nilf
 | nili=>exact .nili
 | ls0=>exact .ls0
 | ls xs b a cap sz cf hsz hb' hcap h1 hx _ ih=>exact .ls xs b a cap sz cf hsz hb' hcap (hc h1) hx ih
 | fpc cs b a cf hn hb' h1 _ ih=>exact .fpc cs b a cf hn hb' (hc h1) ih
 | fn f xs ys a b ha hb' _ _ iha ihb=>exact .fn f xs ys a b ha hb' iha ihb
 | ifc t d c _ ih=>exact .ifc t d c ih
 | agg cs a ha _ ih=>exact .agg cs a ha ih
 | tup cs a ha _ ih=>exact .tup cs a ha ih
section
variable {P:Program}{call:CallF}{X:Cx}{μ:Nat→Option Nat}{H:Hp}{w w':World}{e:En}{a:Act}{Q:Exit→Act→World→Prop}
theorem HV.keep {O:Bs}{N:Nat} (hw:∀ (b:Nat) c e z,w.heap[b]? = some (.cells c e z)→w'.heap[b]? = w.heap[b]?) {v:V}{c:Value} (h:HV O μ H N w v c):HV O μ H N w' v c:=by
 induction h with
 | u c=>exact .u c
 | d x c h=>exact .d x c (h.keep hw)
 | p o i b h hm hg=>exact .p o i b h hm hg
 | gr o n cap a h hg =>
   refine .gr o n cap a h fun ty sz xs he=>?_
   obtain⟨g1,g2⟩:=hg _ sz xs he
   refine⟨g1,fun hl=>(g2 hl).imp id ?_⟩
   rintro⟨b,cs,e,m1,ha,hn,hb,hs⟩
   exact⟨b,cs,e,m1,ha,hn,(hw b _ _ _ hb).trans hb,hs⟩
 | gp o n i off b a h hg=>exact .gp o n i off b a h hg
 | yl o l h hm hg=>exact .yl o l h hm hg
 | fn f xs ys a b ha hb _ _ iha ihb=>exact .fn f xs ys a b ha hb iha ihb
 | ifc t v c _ ih=>exact .ifc t v c ih
 | agg cs a ha _ ih=>exact .agg cs a ha ih
 | tup cs a ha _ ih=>exact .tup cs a ha ih
theorem HVs.keep {O:Bs}{N:Nat} (hw:∀ (b:Nat) c e z,w.heap[b]? = some (.cells c e z)→w'.heap[b]? = w.heap[b]?) {v:List V}{c:Array Value} (h:HVs O μ H N w v c):HVs O μ H N w' v c :=
 ⟨h.1,fun j v hv=>(h.2 j v hv).keep hw⟩
theorem Inv.garb (h:Inv X μ H w) {l:Nat} (hl:¬ Own X μ H l) (hn:∀ c e z,w.heap[l]? ≠ some (.cells c e z)) (hw:∀ k,k≠l→w'.heap[k]? = w.heap[k]?) (hs:w'.heap.size=w.heap.size):Inv X μ H w':=by
 have hc:∀ (b:Nat) c e z,w.heap[b]? = some (.cells c e z)→w'.heap[b]? = w.heap[b]? := fun b c e z hb=>hw b fun hbl=>hn c e z (hbl▸hb)
 refine⟨fun o ob hg=>?_,h.inj,h.xs,fun b hb=>by rw[hs];exact h.low b hb⟩
 have hk:=h.obj o ob hg
 have own:∀ b,ownedO H o→μ o=some b→w'.heap[b]? = w.heap[b]? := fun b h1 h2=>hw b fun hbl=>hl (.inr ⟨o,h1,hbl▸h2⟩)
 cases ob with
 | box ty cs=>obtain⟨b,c,h1,h2,h3⟩:=hk;exact⟨b,c,h1,(hc b _ _ _ h2).trans h2,h3.keep hc⟩
 | ro cs=>obtain⟨b,c,e,z,h1,h2,h3,h4⟩:=hk;exact⟨b,c,e,z,h1,h2,(hc b _ _ _ h3).trans h3,h4.keep hc⟩
 | gr ty sz xs =>
   obtain⟨h0,h1,h2⟩:=hk
   refine⟨h0,h1,h2.imp id ?_⟩
   rintro⟨b,c,m,h3,h4,h5⟩
   exact⟨b,c,m,(hc b _ _ _ h3).trans h3,h4,fun i x j v hx hv=>(h5 i x j v hx hv).keep hc⟩
 | loop ps e asg body st pend =>
   obtain⟨b,r,h1,h2,h3,h4⟩:=hk
   exact⟨b,r,h1,(own b (by unfold ownedO;rw[hg];trivial) h1).trans h2,h3,fun t=>(h4 t).keep hc⟩
 | dead=>trivial
 | nop=>trivial
theorem Ext.garb {μ0:Nat→Option Nat}{H0:Hp}{w0:World} (h:Ext X μ0 H0 w0 μ H w) (hi:Inv X μ0 H0 w0) {l:Nat} (hl:w0.heap.size≤l) (hw:∀ k,k≠l→w'.heap[k]? = w.heap[k]?) (hs:w'.heap.size=w.heap.size) (ho:w'.os=w.os) (ht:w'.tape=w.tape) (hout:w'.output=w.output) :
 Ext X μ0 H0 w0 μ H w' :=
 ⟨by rw[hs];exact h.size,fun b hb hO=>(hw b (by omega)).trans (h.blk b hb hO),fun b hb=>(hw b (by have:=hi.low b hb;omega)).trans (h.xblk b hb),h.own,
  fun b c e hb hO hO2=>by
   obtain⟨c',e',h1,h2⟩:=h.shape b c e hb hO hO2
   exact⟨c',e',(hw b (by have:=lt_of_heap hb;omega)).trans h1,h2⟩,
  h.len,h.mu,h.gr,ho.trans h.os,ht.trans h.tape,hout.trans h.output⟩
theorem stOf_busy {st:Nat} (h:st=0∨st=2):(stOf st==LoopState.busy)=false:=by rcases h with rfl | rfl<;>rfl
theorem range_end (hi:Inv X μ H w) {μ3:Nat→Option Nat}{h2:Hp}{w3:World}{l:Nat} (hi3:Inv X μ3 h2 w3) (hx3:Ext X μ H w μ3 h2 w3) (hle:H.length<h2.length) (hm:μ3 H.length=some l) (hl:w.heap.size≤l)
 {ps:List Nat}{e':En}{asg body:C}{st:Nat}{pend:Option Jp} (hg:hget h2 H.length=some (.loop ps e' asg body st pend)) (hst:st=0∨st=2) (hok:HOk H h2) :
 ∃ w4,(Instr.endLoop l).run P w3=.ok (pend.map jpCode) w4∧Inv X μ3 (trunc H.length h2) w4∧Ext X μ H w μ3 (trunc H.length h2) w4:=by
 obtain⟨l',r,h1,hb,⟨hr1,hr2,_⟩,_⟩:=hi3.obj _ _ hg
 rw[hm] at h1;cases h1
 obtain⟨it,xt⟩:=Inv.trunc hi hi3 hx3 hok
 have hnot:¬ Own X μ3 (trunc H.length h2) l:=by
  rintro (h | ⟨o',ho',hm'⟩)
  ·have:=hi.low l h;omega
  ·have hlt:o'<H.length:=by have:=ownedO_lt ho'; rw[trunc_length] at this;omega
   have ho2:ownedO h2 o':=by unfold ownedO at ho' ⊢; rw[hget_trunc hlt] at ho'; exact ho'
   exact hi3.inj o' H.length l (by omega) ho2 (by unfold ownedO;rw[hg];trivial) hm' hm
 have hlt:=lt_of_heap hb
 have hw:∀ k,k≠l→(w3.putObj l (.loop { r with state:=.exhausted })).heap[k]? = w3.heap[k]? := fun k hk=>World.putObj_heap_other hk
 have hs:(w3.putObj l (.loop { r with state:=.exhausted })).heap.size=w3.heap.size:=by simp[World.putObj]
 refine⟨w3.putObj l (.loop { r with state:=.exhausted }),?_,it.garb hnot (fun c e z h=>by rw[hb] at h;cases h) hw hs,xt.garb hi hl hw hs rfl rfl rfl⟩
 have hbs:(r.state==LoopState.busy)=false:=by rw[hr1];exact stOf_busy hst
 simp only[Instr.endLoop,Sem.run_bind,run_getLoop hb,Result.andThen_ok,hbs,Bool.false_eq_true,if_false,run_setObj_loop _ hb,Sem.run_pure,hr2]
theorem range_ok (hcall:CallOk P call) (hbody:CallB P call) (f:Fr P X μ H w e a) {hs:Hints}{nt:Nat} (hnt:nt≤a.tmps.size) {g:Operand}{g':Ar}{ps:Array Tmp}{asg body:Code}{asg' body':C} (h1:trA P g=some g') (h2:trC P hs nt asg=some asg')
 (h3:trC P hs nt body=some body') (h4:∀ p∈ps.toList,p<nt) (n1:noR asg'=true) (n2:noR body'=true) {r:Ex×En×Hp} (hr:rangeEnd e H (callR call (aval e g') [.yl H.length] (.loop ps.toList e asg' body' 0 none::H))=some r) (hQ:CEnds X μ H w a r Q) :
 (Code.rangeFunc g ps asg body).wpIn (FW none) 0 P Q a w:=by
 refine wpIn_rangeFunc fun fn _=>?_
 let w1:=w.alloc (.deferred (some []))
 let rec':Loop:={ state:=.ready,pending:=none,fn:=fn,tmps:=a.tmps,params:=ps,assign:=asg,body:=body,defers:=w.heap.size }
 let w2:=w1.alloc (.loop rec')
 have i1:Inv X μ H w1:=f.inv.alloc _
 have x1:Ext X μ H w μ H w1:=Ext.alloc f.inv _
 have hs1:w1.heap.size=w.heap.size+1:=by simp[w1]
 have hw12:∀ k,k<w1.heap.size→w2.heap[k]? = w1.heap[k]? := fun k hk=>heap_alloc w1 _ k hk
 have hbb:∀ k,some w1.heap.size=some k→w1.heap.size≤k:=fun k hk=>by cases hk;exact Nat.le_refl _
 have x2:=Ext.push i1 (.loop ps.toList e asg' body' 0 none) (some w1.heap.size) (w':=w2) hw12 (by simp[w2]) rfl rfl rfl hbb
 have i2:=i1.push (.loop ps.toList e asg' body' 0 none) (some w1.heap.size) (w':=w2) hw12 (by simp[w2]) rfl rfl rfl hbb
  ⟨w1.heap.size,rec',upd_self ..,heap_alloc_new w1 _,⟨rfl,rfl,rfl,hs,nt,f.hp▸h2,f.hp▸h3,n1,n2,hnt,h4⟩,(f.env.mono f.inv x1).mono i1 x2⟩
 have gl2:Gl P.globals.size (upd μ H.length (some w1.heap.size)) (.loop ps.toList e asg' body' 0 none::H):=(f.gl.mono x1).mono x2
 have hmk:Marks w1 (Own X μ H) w.heap.size ([{ target:=.collected w.heap.size,args := #[] }]++a.defers) a.defers :=
  ⟨[w.heap.size],rfl,by simp,fun r hr=>by
   simp at hr;subst hr
   exact⟨Nat.le_refl _,fun hO=>by have:=Own_lt f.inv hO;omega,heap_alloc_new w _⟩⟩
 have hyl:HV (Own X (upd μ H.length (some w1.heap.size)) (.loop ps.toList e asg' body' 0 none::H)) (upd μ H.length (some w1.heap.size)) (.loop ps.toList e asg' body' 0 none::H) (Ob.loop ps.toList e asg' body' 0 none::H).length w2 (.yl H.length) (.func (.yield w1.heap.size) #[] #[]) :=
  .yl _ _ (by simp) (upd_self ..) (by unfold isGr;rw[hget_cons_self];exact id)
 have hf:=(((f.val h1).mono (Nat.le_refl _) f.inv x1).more x1.len).mono (Nat.le_refl _) i1 x2
 have hf:=hf.more x2.len
 have henter:(Instr.enterLoop fn a.tmps ps asg body (FW none).round).run P w=.ok (w1.heap.size,[{ target:=.collected w.heap.size,args := #[] }]) w2:=by
  simp only[Instr.enterLoop,Sem.run_bind,run_newObj,Result.andThen_ok,Sem.run_pure]
  rfl
 have key:∀ {q:Re×Hp}{q1:Out×Hp}{en:Ending}{w3:World},fin false (Ob.loop ps.toList e asg' body' 0 none::H) q1=some q→rangeEnd e H (some q)=some r→Ends X (upd μ H.length (some w1.heap.size)) (.loop ps.toList e asg' body' 0 none::H) w2 q1 en w3 →
  rangePost (FW none) 0 P w1.heap.size Q { a with defers:=[{ target:=.collected w.heap.size,args := #[] }]++a.defers } en w3:=by
  intro q q1 en w3 hfin hre hen
  have hK:OpEnds X (upd μ H.length (some w1.heap.size)) (.loop ps.toList e asg' body' 0 none::H) w2 q (fun c w3=>rangePost (FW none) 0 P w1.heap.size Q { a with defers:=[{ target:=.collected w.heap.size,args := #[] }]++a.defers } (.returned c) w3)
   (fun c w3=>Q (.panic [{ v:=c,recovered:=false }]) { a with defers:=[{ target:=.collected w.heap.size,args := #[] }]++a.defers } w3):=by
   obtain⟨re,h2'⟩:=q
   cases re with
   | val v =>
     rintro c w3 ⟨μ3,i3,x3,_⟩
     simp only[rangeEnd] at hre
     split at hre
     ·rename_i ps2 e2 asg2 body2 st pend hg
      split at hre
      ·rename_i hc
       cases hre
       have hle:H.length<h2'.length:=by have:=x3.len;simp at this;omega
       have hm3:μ3 H.length=some w1.heap.size:=((x3.mu H.length (by simp) (by unfold isGr;rw[hget_cons_self];exact id)).1).trans (upd_self ..)
       obtain⟨w4,g1,g2,g3⟩:=range_end (P:=P) i1 i3 (x2.trans x3) hle hm3 (Nat.le_refl _) hg hc.1 hc.2.2
       have hat:At X μ H w a e (trunc H.length h2') { a with defers:=[{ target:=.collected w.heap.size,args := #[] }]++a.defers } w4 :=
        ⟨μ3,g2,x1.trans g3,(f.env.mono f.inv x1).mono i1 g3,rfl,hmk.mono g3⟩
       refine⟨_,w4,g1,?_⟩
       cases pend with
       | none=>exact hQ _ _ hat
       | some j =>
         cases j with
         | rt=>exact wpIn_ret (hQ _ _ hat)
         | ex id=>exact wpIn_exit (hQ _ _ hat)
         | go l=>exact wpIn_goto (hQ _ _ hat)
      ·cases hre
     ·cases hre
   | pan v =>
     rintro c w3 ⟨μ3,i3,x3,hv⟩
     simp only[rangeEnd] at hre
     split at hre
     ·rename_i hc
      cases hre
      obtain⟨it,xt⟩:=Inv.trunc i1 i3 (x2.trans x3) hc.2.2
      have hlen:(trunc H.length h2').length=H.length:=by rw[trunc_length];omega
      exact hQ _ _ _ ⟨μ3,it,x1.trans xt,by rw[hlen];exact hv.trunc hc.1,rfl,hmk.mono xt⟩
     ·cases hre
  have:=fin_ok i2 hfin hK hen
  cases en with
  | returned c=>exact this
  | panicked ch=>obtain⟨c,rfl,hc⟩:=this;exact hc
  | outgrown=>exact this.elim
 have go:∀ (gf:FuncId) (first cap:Array Value) (vs:List V) (r1:Out×Hp),a.eval g=.func (.func gf) first cap→call (.fn gf) vs (.loop ps.toList e asg' body' 0 none::H)=some r1→rangeEnd e H (fin false (.loop ps.toList e asg' body' 0 none::H) r1)=some r →
  HVs (Own X (upd μ H.length (some w1.heap.size)) (.loop ps.toList e asg' body' 0 none::H)) (upd μ H.length (some w1.heap.size)) (.loop ps.toList e asg' body' 0 none::H) (Ob.loop ps.toList e asg' body' 0 none::H).length w2 vs (first ++ #[.func (.yield w1.heap.size) #[] #[]]++cap) →
  ∃ (l:Nat) (mark:List Deferred) (w₁:World) (d:Deferred) (w₁':World) (f:FuncId) (args:Array Value) (w₂:World),
  (Instr.enterLoop fn a.tmps ps asg body (FW none).round).run P w=.ok (l,mark) w₁ ∧
  (resolve a.eval (rangeCall g l) 0).run P w₁=.ok d w₁' ∧
  (∀ f',Target.leads P w₁' d.target d.args=some f'→(FW none).fn f') ∧
  (invoke d.target d.args).run P w₁'=.ok (.enter f args) w₂ ∧
  ((FW none).depth.isSome=true→1≤0) ∧
  CallsIn (FW none) (0-1) P f args w₂ (rangePost (FW none) 0 P l Q { a with defers:=mark++a.defers }):=by
  intro gf first cap vs r1 hv hr1 hre hvs
  obtain⟨fn',hfn,hb,hname⟩:=hbody gf vs _ r1 hr1
  have hn : (fn'.name == "runtime.NumGoroutine") = false := by simpa using hname
  have hb':fn'.body.isNone=false:=by cases h:fn'.body<;>simp_all
  refine⟨w1.heap.size,_,w2,{ target:=.fn (.func gf) cap,args:=first ++ #[.func (.yield w1.heap.size) #[] #[]] },w2,gf,first ++ #[.func (.yield w1.heap.size) #[] #[]]++cap,w2,henter,?_,fun _ _=>trivial,?_,fun h=>by simp[Fence.wide] at h,?_⟩
  ·have hm:(#[Operand.const (.func (.yield w1.heap.size) #[] #[])].map a.eval) = #[.func (.yield w1.heap.size) #[] #[]]:=by simp[Act.eval]
   simp only[resolve,rangeCall,hv,hm,Deferred.ofValue,Sem.run_pure]
  ·simp only[invoke,callFunc,Sem.run_bind,run_program,Result.andThen_ok,hfn,hn,hb',Bool.false_eq_true,if_false,Sem.run_pure]
  ·cases hfin:fin false (.loop ps.toList e asg' body' 0 none::H) r1 with
   | none=>rw[hfin] at hre;simp[rangeEnd] at hre
   | some q =>
     rw[hfin] at hre
     exact callsIn_FW.2 ((hcall.fn gf vs _ r1 hr1 X _ w2 _ f.hp i2 gl2 hvs).mono fun en w3 hen=>key hfin hre hen)
 unfold callR at hr
 generalize hcv:a.eval g=cv at hf
 split at hr
 ·simp[rangeEnd] at hr
 unfold callV at hr
 split at hr
 ·rename_i gf first cap hp
  rw[hp] at hf
  split at hr
  ·rename_i r1 hr1
   cases hf with
   | d _ _ hf=>cases hf with
     | fn _ _ _ fa fb k3 k4 k5 k6=>exact go gf fa fb _ r1 hcv hr1 hr (HVs_append (HVs_append (HVs_d.2 ⟨k3,k5⟩) (HVs_one hyl)) (HVs_d.2 ⟨k4,k6⟩))
  ·simp[rangeEnd] at hr
 ·rename_i gf first cap hp
  rw[hp] at hf
  split at hr
  ·rename_i r1 hr1
   cases hf with
   | fn _ _ _ fa fb k3 k4 k5 k6=>exact go gf fa fb _ r1 hcv hr1 hr (HVs_append (HVs_append ⟨k3,k5⟩ (HVs_one hyl)) ⟨k4,k6⟩)
  ·simp[rangeEnd] at hr
 ·rename_i hno x o hp;exact absurd hp (hno o)
 ·simp[rangeEnd] at hr
end
end
end Go.Proofs.YtmiioebapckcoaaGreatDoor
