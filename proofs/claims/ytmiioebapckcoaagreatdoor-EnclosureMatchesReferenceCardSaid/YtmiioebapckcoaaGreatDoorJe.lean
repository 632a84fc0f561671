/- Part 5 of a proof: the small semantics, its soundness, the functions of the program in it, and the law. -/
import Derived.RecoverIn
import Derived.Test.YtmiioebapckcoaaGreatDoorJd
set_option linter.unusedVariables false
set_option linter.unusedSimpArgs false
namespace Go.Proofs.YtmiioebapckcoaaGreatDoor
section
open Go
section
variable {P:Program}{call:CallF}{X:Cx}{μ:Nat→Option Nat}{H:Hp}{w:World}{e:En}{a:Act}{Q:Exit→Act→World→Prop}
section
variable {F:Fence}{n:Nat}
theorem wpIn_loop_k {c:Code}{J:Nat→Act→World→Prop} (h0:∀ a w,¬ J 0 a w) (hs:∀ k a w,J (k+1) a w→c.wpIn F n P (Exit.then (J k) Q) a w) {k:Nat} (h:J k a w):(Code.loop c).wpIn F n P Q a w:=by
 intro b kk cs hro hb hr
 have key:∀ k a w,J k a w→∃ e a' w',Q e a' w'∧ArrivesIn (Machine.fenced P F) P (lone (b.atR a (.code c::.inLoop c::kk)) cs w) b kk cs e a' w':=by
  intro k
  induction k with
  | zero=>intro a w h;exact absurd h (h0 a w)
  | succ k ih =>
    intro a w hJ
    obtain⟨e,a₁,w₁,hq,harr⟩:=hs k a w hJ b (.inLoop c::kk) cs hro hb hr
    cases e with
    | normal =>
      obtain⟨e₂,a₂,w₂,hq₂,harr₂⟩:=ih a₁ w₁ hq
      exact⟨e₂,a₂,w₂,hq₂,.of_steps (StepsIn.trans harr (.one (fenced_calm hb hr rfl) stepR_inLoop)) harr₂⟩
    | exit id=>exact⟨_,a₁,w₁,hq,.pass (x:=.inLoop c) rfl (fun _ _=>.inl (by simp)) harr⟩
    | goto l=>exact⟨_,a₁,w₁,hq,.pass (x:=.inLoop c) rfl (fun _ _=>.inl (by simp)) harr⟩
    | ret=>exact⟨_,a₁,w₁,hq,.pass (x:=.inLoop c) rfl (fun _ _=>.inl (by simp)) harr⟩
    | panic ch=>exact⟨_,a₁,w₁,hq,.pass (x:=.inLoop c) rfl (fun _ _=>.inl (by simp)) harr⟩
    | outgrown=>exact⟨_,a₁,w₁,hq,.pass (x:=.inLoop c) rfl (fun _ _=>.inl (by simp)) harr⟩
 obtain⟨e,a',w',hq,harr⟩:=key k a w h
 exact⟨e,a',w',hq,.of_steps (.one (fenced_calm hb hr rfl) stepR_loop) harr⟩
theorem stepR_scope {b:Frame}{c:Code}{k:List Item}{cs:List Frame}:step P (lone (b.atR a (.code (.scope c)::k)) cs w)=.next (lone (b.atR a (.code c::.inScope c::k)) cs w) :=
 step_lone_go (by simp[stepG,stepG.exec,Frame.atR])
theorem stepR_inScope {b:Frame}{c:Code}{k:List Item}{cs:List Frame}:step P (lone (b.atR a (.inScope c::k)) cs w)=.next (lone (b.atR a k) cs w) :=
 step_lone_go (by simp[stepG,stepG.exec,Frame.atR])
theorem exitTo_scope (id:Nat) (c:Code) (k:List Item):exitTo id (.inScope c::k)=exitTo id k:=by simp[exitTo]
theorem wpIn_scope_straight {c:Code} (h:c.wpIn F n P (Exit.noGoto Q) a w):(Code.scope c).wpIn F n P Q a w:=by
 intro b k cs hro hb hr
 have h0:(lone (b.atR a (.code (.scope c)::k)) cs w).fenced P F:=fenced_calm hb hr rfl
 obtain⟨e,a₁,w₁,hq,harr⟩:=h b (.inScope c::k) cs hro hb hr
 cases e with
 | normal=>exact⟨.normal,a₁,w₁,hq,.head h0 stepR_scope (StepsIn.trans harr (.one (fenced_calm hb hr rfl) stepR_inScope))⟩
 | exit id=>exact⟨.exit id,a₁,w₁,hq,fun k' hk=>.head h0 stepR_scope (harr.1 k' (by rw[exitTo_scope];exact hk)),
  fun hr' hk=>let ⟨k₁,h1,h2⟩:=harr.2 hr' (by rw[exitTo_scope];exact hk);⟨k₁,h1,.head h0 stepR_scope h2⟩⟩
 | goto l=>exact hq.elim
 | ret=>exact⟨_,a₁,w₁,hq,.of_steps (.one h0 stepR_scope) harr⟩
 | panic ch=>exact⟨_,a₁,w₁,hq,.of_steps (.one h0 stepR_scope) harr⟩
 | outgrown=>exact⟨_,a₁,w₁,hq,.of_steps (.one h0 stepR_scope) harr⟩
theorem wpIn_scope_k {c rest:Code} (l:Nat) {J:Nat→Act→World→Prop} (h0:∀ a w,¬ J 0 a w) (hf:findLabel c l=some rest) {k:Nat}
 (first:c.wpIn F n P (Exit.jump l (J k) Q) a w) (pass:∀ k a w,J (k+1) a w→rest.wpIn F n P (Exit.jump l (J k) Q) a w):(Code.scope c).wpIn F n P Q a w:=by
 intro b kk cs hro hb hr
 have h00:(lone (b.atR a (.code (.scope c)::kk)) cs w).fenced P F:=fenced_calm hb hr rfl
 have hg:gotoIn l (.inScope c::kk)=some (.code rest::.inScope c::kk):=by simp[gotoIn,hf]
 have leave:∀ {m:Machine}{e:Exit}{a₁:Act}{w₁:World},(∀ l',e≠.goto l')→ArrivesIn (Machine.fenced P F) P m b (.inScope c::kk) cs e a₁ w₁→ArrivesIn (Machine.fenced P F) P m b kk cs e a₁ w₁:=by
  intro m e a₁ w₁ hne harr
  cases e with
  | normal=>exact StepsIn.trans harr (.one (fenced_calm hb hr rfl) stepR_inScope)
  | exit id=>exact⟨fun k' hk=>harr.1 k' (by rw[exitTo_scope];exact hk),fun hr' hk=>harr.2 hr' (by rw[exitTo_scope];exact hk)⟩
  | goto l'=>exact absurd rfl (hne l')
  | ret=>exact harr
  | panic ch=>exact harr
  | outgrown=>exact harr
 have key:∀ k a w,J k a w→∃ e a' w',Q e a' w'∧ArrivesIn (Machine.fenced P F) P (lone (b.atR a (.code rest::.inScope c::kk)) cs w) b kk cs e a' w':=by
  intro k
  induction k with
  | zero=>intro a w h;exact absurd h (h0 a w)
  | succ k ih =>
    intro a w hJ
    obtain⟨e,a₁,w₁,hq,harr⟩:=pass k a w hJ b (.inScope c::kk) cs hro hb hr
    cases e with
    | goto l' =>
      obtain⟨rfl,hJ'⟩:=hq
      obtain⟨e₂,a₂,w₂,hq₂,harr₂⟩:=ih a₁ w₁ hJ'
      exact⟨e₂,a₂,w₂,hq₂,.of_steps (harr.1 _ hg) harr₂⟩
    | normal=>exact⟨.normal,a₁,w₁,hq,leave (by simp) harr⟩
    | exit id=>exact⟨_,a₁,w₁,hq,leave (by simp) harr⟩
    | ret=>exact⟨_,a₁,w₁,hq,leave (by simp) harr⟩
    | panic ch=>exact⟨_,a₁,w₁,hq,leave (by simp) harr⟩
    | outgrown=>exact⟨_,a₁,w₁,hq,leave (by simp) harr⟩
 obtain⟨e,a₁,w₁,hq,harr⟩:=first b (.inScope c::kk) cs hro hb hr
 cases e with
 | goto l' =>
   obtain⟨rfl,hJ'⟩:=hq
   obtain⟨e₂,a₂,w₂,hq₂,harr₂⟩:=key _ a₁ w₁ hJ'
   exact⟨e₂,a₂,w₂,hq₂,.of_steps (.head h00 stepR_scope (harr.1 _ hg)) harr₂⟩
 | normal=>exact⟨.normal,a₁,w₁,hq,.of_steps (.one h00 stepR_scope) (leave (by simp) harr)⟩
 | exit id=>exact⟨_,a₁,w₁,hq,.of_steps (.one h00 stepR_scope) (leave (by simp) harr)⟩
 | ret=>exact⟨_,a₁,w₁,hq,.of_steps (.one h00 stepR_scope) (leave (by simp) harr)⟩
 | panic ch=>exact⟨_,a₁,w₁,hq,.of_steps (.one h00 stepR_scope) (leave (by simp) harr)⟩
 | outgrown=>exact⟨_,a₁,w₁,hq,.of_steps (.one h00 stepR_scope) (leave (by simp) harr)⟩
end
theorem eget_kills:∀ {l:List DI}{e:En} (t:Nat),eget (kills l e) t=eget e t∨eget (kills l e) t=.u
 | [],e,t=>.inl rfl
 | d::l,e,t=>by
   unfold kills
   have h1:=eget_kills (l:=l) (e:=if d.kind=2 then put e d.so.dst .u else e) t
   rcases h1 with h1 | h1
   ·rw[h1]
    split
    ·by_cases h:d.so.dst=some t
     ·rw[h,eget_put_self];exact .inr rfl
     ·rw[eget_put_other h];exact .inl rfl
    ·exact .inl rfl
   ·exact .inr h1
theorem kills_u:∀ {l:List DI}{e:En}{d:DI}{t:Nat},d∈l→d.kind=2→d.so.dst=some t→eget (kills l e) t=.u
 | x::l,e,d,t,hd,hk,ht=>by
   unfold kills
   rcases List.mem_cons.1 hd with h | h
   ·subst h
    rcases eget_kills (l:=l) (e:=if d.kind=2 then put e d.so.dst .u else e) t with h1 | h1
    ·rw[h1,if_pos hk,ht,eget_put_self]
    ·exact h1
   ·exact kills_u h hk ht
theorem draw_ctx {hs:Hints}{nt id:Nat}{ops:Array Oper}{l:List SO}{ns:List Nd} (h:trOpers P hs nt id ops.toList 0 ops.toList=some l) (hd:drawIn ops.toList l=some ns):DC P nt ops ns:=by
 unfold drawIn at hd
 split at hd
 ·rename_i ns0 _
  split at hd
  ·rename_i ns' hn
   split at hd
   ·rename_i hok
    cases hd
    simp only[nodesOk,Bool.and_eq_true,List.all_eq_true,beq_iff_eq,List.mem_range] at hok
    obtain⟨⟨⟨⟨h1,h2⟩,h3⟩,h4⟩,h5⟩:=hok
    have hanc:=ancsOk_ok (ns:=ns) (ds:=ns) (acc:=[]) (fun d h=>h) (by simp) h3
    refine⟨fun d hd=>?_,pairsOk_pw h1,h2,fun d hd=>?_,fun l1 p l2 hl k hk=>?_,fun j hj=>?_,by rw[h4];simp⟩
    ·obtain⟨o,g1,g2,g3,g4⟩:=trN_ok hn d hd
     obtain⟨k1,k2,k3,k4⟩:=trOpers_get h d.idx o d.so g1 g2
     exact⟨o,_,by simpa using g1,k1,k2,k3,k4,g4,g3⟩
    ·obtain⟨l1,l2,hl⟩:=List.append_of_mem hd
     exact(hanc l1 d l2 hl).1
    ·rcases (hanc l1 p l2 hl).2 k hk with ⟨m,hm⟩ | h
     ·cases hm
     ·exact h
    ·have:=h5 j (by simpa using hj)
     simp only[List.contains_iff_mem,List.mem_map] at this
     exact this
   ·cases hd
  ·cases hd
 ·cases hd
theorem draw_ok (ro:Option Nat) (hcall:CallOk P call) (hbody:CallB P call) (hmix:P.follows .mixedOrders=true)
 {hs:Hints}{nt id:Nat}{ops:Array Oper}{l:List SO}{ns:List Nd} (h:trOpers P hs nt id ops.toList 0 ops.toList=some l) (hd:drawIn ops.toList l=some ns) (f:Fr P X μ H w e a) (hnt:nt≤a.tmps.size) {keep:List Nat}{r:Ex×En×Hp}
 (hr:evD call keep [] (ns.map Nd.di) (kills (ns.map Nd.di) e) H=some r) (hQ:CEnds X μ H w a r Q):(Code.region id ops true).wpIn (FW ro) 0 P Q a w:=by
 have C:=draw_ctx h hd
 refine wpIn_region_any hmix ?_
 have hx:Ext X μ H w μ H { w with drawn:=w.drawn+1 }:=Ext.drew X μ H w
 have i':Inv X μ H { w with drawn:=w.drawn+1 }:=f.inv.drew
 have hX:XP X []=X:=by cases X;simp[XP]
 refine draw_main ro C (w0:={ w with drawn:=w.drawn+1 }) (a0:=a) (fun b hb=>i'.low b hb) hcall hbody hnt (hQ.trans hx rfl (Marks.refl ..)) ops.size (R:=ns) (pend:=[]) (past:=[]) ⟨⟨f.hp,by rw[hX];exact i',f.gl,?_⟩,Ext.refl ..,List.Sublist.refl _,rfl,rfl,?_,?_,?_,?_,?_,?_⟩ hr (by simp) ?_
 ·rw[hX]
  intro t
  rcases eget_kills (l:=ns.map Nd.di) (e:=e) t with h1 | h1
  ·rw[h1];exact(f.env.mono f.inv hx) t
  ·rw[h1];exact .u _
 ·intro p hp
  have hlt:=C.lt hp
  constructor
  ·intro h;simp[Array.getD_eq_getD_getElem?,hlt] at h
  ·intro h;obtain⟨b,hb⟩:=h hp;cases hb
 ·intro d hd' hl;have hlt:=C.lt hd'; simp[Array.getD_eq_getD_getElem?,hlt] at hl
 ·intro x b hb;cases hb
 ·intro x b b' hb;cases hb
 ·intro x x' b hb;cases hb
 ·intro p hp hk t ht
  exact kills_u (d:=p.di) (List.mem_map.2 ⟨p,hp,rfl⟩) hk ht
 ·rw[← C.len];exact List.countP_le_length
def CodeOk (P:Program) (nt:Nat) (nr:Bool) (ev:En→Hp→Option (Ex×En×Hp)) (c:Code):Prop :=
 ∀ (ro:Option Nat),(nr=true∨ro=none)→∀ (X:Cx) (μ:Nat→Option Nat) (H:Hp) (w:World) (e:En) (a:Act) (Q:Exit→Act→World→Prop) (r:Ex×En×Hp),Fr P X μ H w e a→nt≤a.tmps.size→ev e H=some r→CEnds X μ H w a r Q→c.wpIn (FW ro) 0 P Q a w
theorem CEnds.at {e':En}{H':Hp}{w':World}{a':Act}{r:Ex×En×Hp} (h:At X μ H w a e' H' a' w') (hQ:CEnds X μ H w a r Q):∃ μ',(∀ {P:Program},X.P=P→Gl P.globals.size μ H→Fr P X μ' H' w' e' a')∧CEnds X μ' H' w' a' r Q∧a'.tmps.size=a.tmps.size:=by
 obtain⟨μ',h1,h2,h3,h4,h5⟩:=h
 exact⟨μ',fun hp hg=>⟨hp,h1,hg.mono h2,h3⟩,hQ.trans h2 h4 h5,h4⟩
theorem CodeOk.seq {nt:Nat}{nr nr1 nr2:Bool}{ev ev1 ev2:En→Hp→Option (Ex×En×Hp)}{x y:Code} (hnr:nr=true→nr1=true∧nr2=true) (h1:CodeOk P nt nr1 ev1 x) (h2:CodeOk P nt nr2 ev2 y)
 (hev:∀ e h r,ev e h=some r→(∃ e' h',ev1 e h=some (.nor,e',h')∧ev2 e' h'=some r)∨(ev1 e h=some r∧∀ e' h',r≠(.nor,e',h'))):CodeOk P nt nr ev (.seq x y):=by
 intro ro hro X μ H w e a Q r f hnt hr hQ
 refine wpIn_seq ?_
 rcases hev e H r hr with ⟨e',h',he,hr'⟩ | ⟨hr',hn⟩
 ·refine h1 ro (hro.imp_left fun h=>(hnr h).1) X μ H w e a _ _ f hnt he fun a' w' hat=>?_
  obtain⟨μ',g1,g2,g3⟩:=CEnds.at hat hQ
  exact h2 ro (hro.imp_left fun h=>(hnr h).2) X μ' h' w' e' a' Q r (g1 f.hp f.gl) (g3▸hnt) hr' g2
 ·refine h1 ro (hro.imp_left fun h=>(hnr h).1) X μ H w e a _ r f hnt hr' ?_
  obtain⟨x,e',H'⟩:=r
  cases x with
  | nor=>exact absurd rfl (hn e' H')
  | _=>exact hQ
theorem CodeOk.mono {nt:Nat}{nr:Bool}{ev ev':En→Hp→Option (Ex×En×Hp)}{c:Code} (h:CodeOk P nt nr ev c) (he:∀ e h r,ev' e h=some r→ev e h=some r):CodeOk P nt nr ev' c :=
 fun ro hro X μ H w e a Q r f hnt hr hQ=>h ro hro X μ H w e a Q r f hnt (he e H r hr) hQ
theorem CodeOk.weak {nt:Nat}{nr nr':Bool}{ev:En→Hp→Option (Ex×En×Hp)}{c:Code} (h:CodeOk P nt nr ev c) (hn:nr'=true→nr=true):CodeOk P nt nr' ev c :=
 fun ro hro=>h ro (hro.imp_left hn)
theorem evC_ok (hcall:CallOk P call) (hbody:CallB P call) (hmix:P.follows .mixedOrders=true) {hs:Hints}{nt:Nat} (n:Nat) :
 ∀ (c:Code) {cc:C},trC P hs nt c=some cc→CodeOk P nt (noR cc) (evC call n cc none) c ∧
  ∀ l,(hasL cc l=false→findLabel c l=none)∧(hasL cc l=true→∃ rest,findLabel c l=some rest∧CodeOk P nt (noR cc) (evC call n cc (some l)) rest):=by
 have nolab:∀ {c:Code}{cc:C},(∀ l,hasL cc l=false)→(∀ l,findLabel c l=none)→∀ l,(hasL cc l=false→findLabel c l=none)∧(hasL cc l=true→∃ rest,findLabel c l=some rest∧CodeOk P nt (noR cc) (evC call n cc (some l)) rest):=by
  intro c cc h1 h2 l
  exact⟨fun _=>h2 l,fun h=>by rw[h1 l] at h;cases h⟩
 intro c
 induction c with
 | skip =>
   intro cc ht;simp only[trC] at ht;cases ht
   refine⟨?_,nolab (fun _=>rfl) (fun _=>rfl)⟩
   intro ro hro X μ H w e a Q r f hnt hr hQ
   simp only[evC] at hr;cases hr
   exact wpIn_skip (hQ a w ⟨μ,f.inv,Ext.refl ..,f.env,rfl,Marks.refl ..⟩)
 | region id ops draw =>
   intro cc ht
   simp only[trC] at ht
   split at ht
   ·rename_i l hl
    cases draw with
    | true =>
      simp only[if_true] at ht
      split at ht
      ·rename_i ns hns
       cases ht
       refine⟨?_,nolab (fun _=>rfl) (fun _=>rfl)⟩
       intro ro hro X μ H w e a Q r f hnt hr hQ
       simp only[evC] at hr
       exact draw_ok ro hcall hbody hmix hl hns f hnt hr hQ
      ·cases ht
    | false =>
      simp only[Bool.false_eq_true,if_false] at ht
      cases ht
      refine⟨?_,nolab (fun _=>rfl) (fun _=>rfl)⟩
      intro ro hro X μ H w e a Q r f hnt hr hQ
      simp only[evC] at hr
      refine wpIn_region_list ?_
      split at hr
      ·rename_i e' h' he
       cases hr
       exact evOps_ok ro hcall hbody _ hl f hnt he hQ
      ·rename_i hn
       refine evOps_ok ro hcall hbody (lookupK hs.keep id) hl f hnt hr ?_
       obtain⟨x,e',H'⟩:=r
       cases x with
       | nor=>exact absurd hr (hn e' H')
       | _=>exact hQ
   ·cases ht
 | seq x y ihx ihy =>
   intro cc ht
   simp only[trC] at ht
   split at ht
   ·rename_i cx cy hx hy
    cases ht
    obtain⟨x1,x2⟩:=ihx hx
    obtain⟨y1,y2⟩:=ihy hy
    refine⟨CodeOk.seq (by simp[noR]) x1 y1 fun e h r hr=>?_,fun l=>⟨fun hl=>?_,fun hl=>?_⟩⟩
    ·simp only[evC] at hr
     split at hr
     ·rename_i e' h' he;exact .inl ⟨e',h',he,hr⟩
     ·rename_i hn;exact .inr ⟨hr,fun e' h' hh=>hn e' h' (by rw[hr,hh])⟩
    ·simp only[hasL,Bool.or_eq_false_iff] at hl
     simp only[findLabel,(x2 l).1 hl.1,(y2 l).1 hl.2]
    ·by_cases hlx:hasL cx l=true
     ·obtain⟨rest,h1,h2⟩:=(x2 l).2 hlx
      refine⟨.seq rest y,by simp only[findLabel,h1],CodeOk.seq (by simp[noR]) h2 y1 fun e h r hr=>?_⟩
      simp only[evC,hlx,if_true] at hr
      split at hr
      ·rename_i e' h' he;exact .inl ⟨e',h',he,hr⟩
      ·rename_i hn;exact .inr ⟨hr,fun e' h' hh=>hn e' h' (by rw[hr,hh])⟩
     ·have hlx':hasL cx l=false:=by simpa using hlx
      have hly:hasL cy l=true:=by simpa[hasL,hlx'] using hl
      obtain⟨rest,h1,h2⟩:=(y2 l).2 hly
      refine⟨rest,by simp only[findLabel,(x2 l).1 hlx',h1],(h2.weak (nr':=noR (.seq cx cy)) (by simp[noR])).mono fun e h r hr=>?_⟩
      simpa only[evC,hlx',Bool.false_eq_true,if_false] using hr
   ·cases ht
 | cond c x y ihx ihy =>
   intro cc ht
   simp only[trC] at ht
   split at ht
   ·rename_i c' cx cy hc hx hy
    cases ht
    refine⟨?_,nolab (fun _=>rfl) (fun _=>rfl)⟩
    intro ro hro X μ H w e a Q r f hnt hr hQ
    simp only[evC] at hr
    split at hr
    ·rename_i t hv
     have hcv:=f.val hc
     rw[hv] at hcv
     generalize hcx:a.eval c=cv at hcv
     cases hcv with
     | d _ _ hcv =>
       cases hcv with
       | b =>
         refine wpIn_cond hcx ?_
         cases t
         ·exact(ihy hy).1 ro (hro.imp_left fun h=>by simp[noR] at h;exact h.2) X μ H w e a Q r f hnt (by simpa using hr) hQ
         ·exact(ihx hx).1 ro (hro.imp_left fun h=>by simp[noR] at h;simp[h]) X μ H w e a Q r f hnt (by simpa using hr) hQ
    ·cases hr
   ·cases ht
 | block id x ihx =>
   intro cc ht
   simp only[trC] at ht
   obtain⟨cx,hx,rfl⟩:=Option.map_eq_some_iff.1 ht
   refine⟨?_,nolab (fun _=>rfl) (fun _=>rfl)⟩
   intro ro hro X μ H w e a Q r f hnt hr hQ
   simp only[evC] at hr
   refine wpIn_block ?_
   split at hr
   ·rename_i id' e' h' he
    refine(ihx hx).1 ro (hro.imp_left fun h=>by simp[noR] at h;simp[h]) X μ H w e a _ _ f hnt he fun a' w' hat=>?_
    simp only[Exit.inBlock]
    split at hr
    ·rename_i hid;cases hr;rw[if_pos hid];exact hQ a' w' hat
    ·rename_i hid;cases hr;rw[if_neg hid];exact hQ a' w' hat
   ·rename_i hn
    refine(ihx hx).1 ro (hro.imp_left fun h=>by simp[noR] at h;simp[h]) X μ H w e a _ r f hnt hr ?_
    obtain⟨x,e',H'⟩:=r
    cases x with
    | ex id'=>exact absurd hr (hn id' e' H')
    | _=>exact hQ
 | loop x ihx =>
   intro cc ht
   simp only[trC] at ht
   obtain⟨cx,hx,rfl⟩:=Option.map_eq_some_iff.1 ht
   refine⟨?_,nolab (fun _=>rfl) (fun _=>rfl)⟩
   intro ro hro X μ H w e a Q r f hnt hr hQ
   simp only[evC] at hr
   refine wpIn_loop_k (J:=fun k a' w'=>∃ e' H',iter (evC call n cx none) k e' H'=some r∧At X μ H w a e' H' a' w') (fun a' w' ⟨e',H',h,_⟩=>by simp[iter] at h) (fun k a' w' ⟨e',H',h,hat⟩=>?_) (k:=n)
    ⟨e,H,hr,μ,f.inv,Ext.refl ..,f.env,rfl,Marks.refl ..⟩
   obtain⟨μ',g1,g2,g3⟩:=CEnds.at hat hQ
   have hat':=hat
   obtain⟨μ'',q1,q2,q3,q4,q5⟩:=hat'
   simp only[iter] at h
   split at h
   ·rename_i e'' H'' he
    exact(ihx hx).1 ro (hro.imp_left fun h=>by simp[noR] at h;simp[h]) X μ'' H' w' e' a' _ _ ⟨f.hp,q1,f.gl.mono q2,q3⟩ (q4▸hnt) he fun a2 w2 hat2=>⟨e'',H'',h,hat2.trans q2 q4 q5⟩
   ·rename_i hn
    refine(ihx hx).1 ro (hro.imp_left fun h=>by simp[noR] at h;simp[h]) X μ'' H' w' e' a' _ r ⟨f.hp,q1,f.gl.mono q2,q3⟩ (q4▸hnt) h ?_
    have hQ':=hQ.trans q2 q4 q5
    obtain⟨x,e2,H2⟩:=r
    cases x with
    | nor=>exact absurd h (hn e2 H2)
    | _=>exact hQ'
 | exit id =>
   intro cc ht;simp only[trC] at ht;cases ht
   refine⟨?_,nolab (fun _=>rfl) (fun _=>rfl)⟩
   intro ro hro X μ H w e a Q r f hnt hr hQ
   simp only[evC] at hr;cases hr
   exact wpIn_exit (hQ a w ⟨μ,f.inv,Ext.refl ..,f.env,rfl,Marks.refl ..⟩)
 | ret =>
   intro cc ht;simp only[trC] at ht;cases ht
   refine⟨?_,nolab (fun _=>rfl) (fun _=>rfl)⟩
   intro ro hro X μ H w e a Q r f hnt hr hQ
   simp only[evC] at hr;cases hr
   exact wpIn_ret (hQ a w ⟨μ,f.inv,Ext.refl ..,f.env,rfl,Marks.refl ..⟩)
 | goto l =>
   intro cc ht;simp only[trC] at ht;cases ht
   refine⟨?_,nolab (fun _=>rfl) (fun _=>rfl)⟩
   intro ro hro X μ H w e a Q r f hnt hr hQ
   simp only[evC] at hr;cases hr
   exact wpIn_goto (hQ a w ⟨μ,f.inv,Ext.refl ..,f.env,rfl,Marks.refl ..⟩)
 | label l =>
   intro cc ht;simp only[trC] at ht;cases ht
   refine⟨?_,fun l'=>⟨fun h=>?_,fun h=>?_⟩⟩
   ·intro ro hro X μ H w e a Q r f hnt hr hQ
    simp only[evC] at hr;cases hr
    exact wpIn_label (hQ a w ⟨μ,f.inv,Ext.refl ..,f.env,rfl,Marks.refl ..⟩)
   ·simp only[hasL] at h;simp only[findLabel,h];rfl
   ·simp only[hasL] at h
    refine⟨.skip,by simp only[findLabel,h];rfl,?_⟩
    intro ro hro X μ H w e a Q r f hnt hr hQ
    simp only[evC] at hr;cases hr
    exact wpIn_skip (hQ a w ⟨μ,f.inv,Ext.refl ..,f.env,rfl,Marks.refl ..⟩)
 | scope x ihx =>
   intro cc ht
   simp only[trC] at ht
   obtain⟨cx,hx,rfl⟩:=Option.map_eq_some_iff.1 ht
   refine⟨?_,nolab (fun _=>rfl) (fun _=>rfl)⟩
   intro ro hro X μ H w e a Q r f hnt hr hQ
   simp only[evC] at hr
   obtain⟨x1,x2⟩:=ihx hx
   split at hr
   ·rename_i l e' h' he
    split at hr
    ·rename_i hl
     obtain⟨rest,hf,hrest⟩:=(x2 l).2 hl
     refine wpIn_scope_k l (J:=fun k a' w'=>∃ e' H',jumps l (evC call n cx (some l)) k e' H'=some r∧At X μ H w a e' H' a' w') (fun a' w' ⟨e',H',h,_⟩=>by simp[jumps] at h) hf (k:=n) ?_ ?_
     ·exact x1 ro (hro.imp_left fun h=>by simpa[noR] using h) X μ H w e a _ _ f hnt he fun a' w' hat=>⟨rfl,e',h',hr,hat⟩
     ·rintro k a' w' ⟨e2,H2,h,μ2,q1,q2,q3,q4,q5⟩
      simp only[jumps] at h
      split at h
      ·rename_i l' e3 H3 he3
       split at h
       ·rename_i hll
        subst hll
        exact hrest ro (hro.imp_left fun h=>by simpa[noR] using h) X μ2 H2 w' e2 a' _ _ ⟨f.hp,q1,f.gl.mono q2,q3⟩ (q4▸hnt) he3 fun a2 w2 hat2=>⟨rfl,e3,H3,h,hat2.trans q2 q4 q5⟩
       ·cases h
      ·rename_i hn
       refine hrest ro (hro.imp_left fun h=>by simpa[noR] using h) X μ2 H2 w' e2 a' _ r ⟨f.hp,q1,f.gl.mono q2,q3⟩ (q4▸hnt) h ?_
       have hQ':=hQ.trans q2 q4 q5
       obtain⟨x,e4,H4⟩:=r
       cases x with
       | go l'=>exact absurd h (hn l' e4 H4)
       | _=>exact hQ'
    ·cases hr
   ·rename_i hn
    refine wpIn_scope_straight (x1 ro (hro.imp_left fun h=>by simpa[noR] using h) X μ H w e a _ r f hnt hr ?_)
    obtain⟨x,e',H'⟩:=r
    cases x with
    | go l=>exact absurd hr (hn l e' H')
    | _=>exact hQ
 | rangeFunc g ps x y _ _ =>
   intro cc ht
   simp only[trC] at ht
   split at ht
   ·rename_i g' cx cy h1 h2 h3
    split at ht
    ·rename_i hps
     cases ht
     simp only[Bool.and_eq_true,List.all_eq_true,decide_eq_true_eq] at hps
     refine⟨?_,nolab (fun _=>rfl) (fun _=>rfl)⟩
     intro ro hro X μ H w e a Q r f hnt hr hQ
     have hro':ro=none:=hro.resolve_left (by simp[noR])
     subst hro'
     simp only[evC] at hr
     exact range_ok hcall hbody f hnt h1 h2 h3 hps.1.1 hps.1.2 hps.2 hr hQ
    ·cases ht
   ·cases ht
 | refuse _=>intro cc ht;simp[trC] at ht
end
end
section
open Go
section
variable {P:Program}{call:CallF}{X:Cx}{μ:Nat→Option Nat}{H:Hp}{w:World}{e:En}{a:Act}
def resultOf (tmps:Array Value):ResultVar→Sem Value
 | .tmp t=>pure (tmps.getD t undef)
 | .cell a t=>do loadVar t (← asAddr (tmps.getD a undef))
theorem trRes_cons {nt:Nat}{r:ResultVar}{rs:List ResultVar}{l:List RV} (h:trRes P nt (r::rs)=some l):∃ rv l',l=rv::l'∧trRes P nt rs=some l':=by
 cases r<;>simp only[trRes] at h<;>split at h
 ·split at h
  ·cases h;rename_i h1 _;exact⟨_,_,rfl,h1⟩
  ·cases h
 ·cases h
 ·split at h
  ·cases h;rename_i h1 _ _ _;exact⟨_,_,rfl,h1⟩
  ·cases h
 ·cases h
theorem resV_ok (f:Fr P X μ H w e a) {nt:Nat}{rs:List ResultVar}{r:ResultVar}{rv:RV}{l:List RV} (ht:trRes P nt (r::rs)=some (rv::l)) {v:V} (hv:resV e H rv=some v) :
 ∃ c,(resultOf a.tmps r).run P w=.ok c w∧HV (Own X μ H) μ H H.length w v c:=by
 cases r with
 | tmp t =>
   simp only[trRes] at ht
   split at ht
   ·split at ht
    ·cases ht
     simp only[resV] at hv
     split at hv
     ·cases hv
     ·cases hv;exact⟨_,rfl,f.env t⟩
    ·cases ht
   ·cases ht
 | cell t ty =>
   simp only[trRes] at ht
   split at ht
   ·rename_i l' g n h1 h2 h3
    split at ht
    ·cases ht
     simp only[resV] at hv
     split at hv
     ·rename_i o i ho
      split at hv
      ·rename_i cs hg
       have hx:=f.env t
       rw[ho] at hx
       generalize hcx:a.tmps.getD t undef=cx at hx
       cases hx with
       | p _ _ b ho' hm hgr =>
         obtain⟨b',c,g1,g2,g3⟩:=f.inv.obj o _ hg
         rw[hm] at g1;cases g1
         obtain⟨c',r1,r2⟩:=win_load (P:=P) (Win.of_block g2 g3) hv h2 (fun h=>by rw[if_pos h];exact h3)
         rw[Nat.zero_add] at r1
         refine⟨c',?_,r2⟩
         show (do loadVar ty (← asAddr (a.tmps.getD t undef)):Sem Value).run P w=_
         rw[hcx]
         exact r1
      ·cases hv
     ·cases hv
    ·cases ht
   ·cases ht
theorem resAll_ok (f:Fr P X μ H w e a) {nt:Nat}:∀ {rs:List ResultVar}{l:List RV}{vs:List V},trRes P nt rs=some l→resAll e H l=some vs →
 ∃ cs:List Value,(rs.mapM (resultOf a.tmps)).run P w=.ok cs w∧cs.length=vs.length∧∀ (j:Nat) v,vs[j]? = some v→∃ c,cs[j]? = some c∧HV (Own X μ H) μ H H.length w v c
 | [],l,vs,ht,hr=>by
   simp only[trRes] at ht;cases ht
   simp only[resAll] at hr;cases hr
   exact⟨[],by simp,rfl,by simp⟩
 | r::rs,l,vs,ht,hr=>by
   obtain⟨rv,l',rfl,hl'⟩:=trRes_cons ht
   simp only[resAll] at hr
   split at hr
   ·rename_i v vs' h1 h2
    cases hr
    obtain⟨c,c1,c2⟩:=resV_ok f ht h1
    obtain⟨cs,d1,d2,d3⟩:=resAll_ok f hl' h2
    refine⟨c::cs,?_,by simp[d2],fun j v hv=>?_⟩
    ·simp only[List.mapM_cons,Sem.run_bind,c1,Result.andThen_ok,d1,Sem.run_pure]
    ·cases j with
     | zero=>simp at hv;subst hv;exact⟨c,rfl,c2⟩
     | succ j=>exact d3 j v (by simpa using hv)
   ·cases hr
theorem resOf_all {l:List RV}{v:V} (h:resOf e H l=some v):∃ vs,resAll e H l=some vs∧(l.length=1→vs=[v])∧(l.length≠1→v=mkTup vs):=by
 unfold resOf at h
 split at h
 ·rename_i r
  exact⟨[v],by simp[resAll,h],fun _=>rfl,fun h=>absurd rfl h⟩
 ·rename_i hn
  split at h
  ·rename_i vs hvs
   cases h
   refine⟨vs,hvs,fun hl=>?_,fun _=>rfl⟩
   match l,hl with
   | [r],_=>exact absurd rfl (hn r)
  ·cases h
theorem trRes_length {nt:Nat}:∀ {rs:List ResultVar}{l:List RV},trRes P nt rs=some l→l.length=rs.length
 | [],l,h=>by simp only[trRes] at h;cases h;rfl
 | r::rs,l,h=>by
   obtain⟨rv,l',rfl,hl'⟩:=trRes_cons h
   simp[trRes_length hl']
theorem resAll_length:∀ {l:List RV}{vs:List V},resAll e H l=some vs→vs.length=l.length
 | [],vs,h=>by simp only[resAll] at h;cases h;rfl
 | r::l,vs,h=>by
   simp only[resAll] at h
   split at h
   ·rename_i h1 h2;cases h;simp[resAll_length h2]
   ·cases h
theorem results_ok (f:Fr P X μ H w e a) {fn:Func}{nt:Nat}{l:List RV} (ht:trRes P nt fn.results.toList=some l) {v:V} (hr:resOf e H l=some v) :
 ∃ c,(results fn a.tmps).run P w=.ok c w∧HV (Own X μ H) μ H H.length w v c:=by
 obtain⟨vs,h1,h2,h3⟩:=resOf_all hr
 obtain⟨cs,d1,d2,d3⟩:=resAll_ok f ht h1
 have hlen:cs.length=l.length:=by rw[d2];exact resAll_length h1
 have hm:(fn.results.mapM (resultOf a.tmps)).run P w=.ok cs.toArray w:=by
  rw[Array.mapM_eq_mapM_toList,Sem.run_map,d1];rfl
 have hres:(results fn a.tmps).run P w=.ok (if h:cs.toArray.size=1 then cs.toArray[0] else .tuple cs.toArray) w:=by
  have:results fn a.tmps=(do let vs ← fn.results.mapM (resultOf a.tmps);pure (if h:vs.size=1 then vs[0] else .tuple vs)):=by
   unfold results
   congr 2
  rw[this,Sem.run_bind,hm,Result.andThen_ok,Sem.run_pure]
 rw[hres]
 by_cases h1':l.length=1
 ·have hv:=h2 h1'
  subst hv
  obtain⟨c,hc,hcv⟩:=d3 0 v (by simp)
  refine⟨c,?_,hcv⟩
  match cs,hlen,hc with
  | [c'],_,hc=>simp at hc;subst hc;simp
  | [],hl,_=>simp at hl;omega
  | _::_::_,hl,_=>simp at hl;omega
 ·have hv:=h3 h1'
  subst hv
  refine⟨.tuple cs.toArray,by simp[hlen,h1'],HV_mkTup ⟨by simp[d2],fun j v hv=>?_⟩⟩
  obtain⟨c,hc,hcv⟩:=d3 j v hv
  rw[Array.getD_eq_getD_getElem?]
  simpa[hc] using hcv
theorem eget_enter {args:List V} (t:Nat):eget (enter args) t=(args[t]?).getD .u:=by
 have key:∀ (l:List V) (k t:Nat),eget ((l.zipIdx k).map fun (v,i)=>(i,v)) t=if k≤t then (l[t-k]?).getD .u else .u:=by
  intro l
  induction l with
  | nil=>intro k t;simp[eget]
  | cons v l ih =>
    intro k t
    simp only[zC,List.map_cons,eget]
    split
    ·rename_i h;subst h;simp
    ·rename_i h
     rw[ih]
     by_cases hk:k≤t
     ·rw[if_pos hk,if_pos (by omega),show t-k=(t-(k+1))+1 by omega];rfl
     ·rw[if_neg hk,if_neg (by omega)]
 have:=key args 0 t
 simpa[enter] using this
end
def Named (P : Program) (f : FuncId) : Prop := ∃ fn, P.funcs[f]? = some fn ∧ fn.body.isSome = true ∧ fn.name ≠ "runtime.NumGoroutine"
structure SOk (P:Program) (S:Sp):Prop where
 F : ∀ f sf, S.F f = some sf → ∃ fn hs, P.funcs[f]? = some fn ∧ (trF P hs fn = some sf ∨ trFD P hs fn = some sf) ∧ fn.name ≠ "runtime.NumGoroutine"
 D : ∀ f df, S.D f = some df → ∃ fn hs, P.funcs[f]? = some fn ∧ trDF P hs fn = some df ∧ fn.name ≠ "runtime.NumGoroutine"
 orc:∀ f ds x,S.orc f ds=some x→Named P f ∧
  ∀ X μ H w cargs,X.P=P→Inv X μ H w→Gl P.globals.size μ H→HVs (Own X μ H) μ H H.length w (ds.map .d) cargs→Calls P f cargs w (Ends X μ H w (.ret (.d x),H))
 X:∀ f g,S.X f=some g→Named P f∧∀ call,CallOk P call→CallB P call→∀ args H r,g call args H=some r →
  ∀ X μ w cargs,X.P=P→Inv X μ H w→Gl P.globals.size μ H→HVs (Own X μ H) μ H H.length w args cargs→Calls P f cargs w (Ends X μ H w r)
theorem trF_ok {P:Program}{hs:Hints}{fn:Func}{sf:SF} (h:trF P hs fn=some sf):∃ c,fn.body=some c∧trC P hs fn.ntmps c=some sf.body∧trRes P fn.ntmps fn.results.toList=some sf.res∧sf.dfr=none:=by
 unfold trF at h
 split at h
 ·rename_i c hc
  split at h
  ·rename_i x r h1 h2
   cases h
   exact⟨c,hc,h1,h2,rfl⟩
  ·cases h
 ·cases h
theorem trFD_ok {P:Program}{hs:Hints}{fn:Func}{sf:SF} (h:trFD P hs fn=some sf):∃ c x d,fn.body=some c∧trD P hs fn.ntmps (cellSlots sf.res) c=some (x,d)∧trRes P fn.ntmps fn.results.toList=some sf.res∧sf.body=x∧sf.dfr=some d:=by
 unfold trFD at h
 split at h
 ·rename_i c hc
  split at h
  ·rename_i r hr
   split at h
   ·rename_i x d hd
    cases h
    exact⟨c,x,d,hc,hd,hr,rfl,rfl⟩
   ·cases h
  ·cases h
 ·cases h
theorem callN_body {P:Program}{S:Sp} (hS:SOk P S) (n:Nat):CallB P (callN S n):=by
 intro g a h r hr
 cases n with
 | zero=>simp[callN] at hr
 | succ n =>
   simp only[callN] at hr
   split at hr
   ·rename_i x hx
    unfold orcOf at hx
    split at hx
    ·exact(hS.orc _ _ _ hx).1
    ·cases hx
   ·split at hr
    ·rename_i g hg;exact(hS.X _ _ hg).1
    ·split at hr
     ·cases hr
     ·rename_i sf hsf
      obtain⟨fn,hs,h1,h2,h3⟩:=hS.F _ _ hsf
      rcases h2 with h2 | h2
      ·obtain⟨c,hc,_⟩:=trF_ok h2
       exact⟨fn,h1,by rw[hc];rfl,h3⟩
      ·obtain⟨c,x,d,hc,_⟩:=trFD_ok h2
       exact⟨fn,h1,by rw[hc];rfl,h3⟩
section
variable {P:Program}{call:CallF}{X:Cx}{μ μ':Nat→Option Nat}{H H':Hp}{w w':World}{e:En}{a:Act}
theorem leave_marks {fn:Func}{tmps:Array Value}{R:Ending→World→Prop}{u:FrameMode} (hu:u≠.run) (hi0:Inv X μ H w):∀ {ds:List Deferred}{w':World},Inv X μ' H' w'→Ext X μ H w μ' H' w'→Marks w' (Own X μ' H') w.heap.size ds [] →
 (∀ w'',Inv X μ' H' w''→Ext X μ H w μ' H' w''→(∀ (b:Nat) c e z,w'.heap[b]? = some (.cells c e z)→w''.heap[b]? = w'.heap[b]?)→LeavesInM Fence.wide 0 P fn tmps R [] u w'')→LeavesInM Fence.wide 0 P fn tmps R ds u w':=by
 intro ds w' hi hx ⟨ms,hds,hnd,hms⟩ hk
 rw[List.append_nil] at hds
 subst hds
 induction ms generalizing w' with
 | nil=>exact hk w' hi hx fun _ _ _ _ _=>rfl
 | cons r ms ih =>
   obtain⟨g1,g2,g3⟩:=hms r (by simp)
   obtain⟨n1,n2⟩:=List.nodup_cons.1 hnd
   refine⟨hu,.inl ⟨r,w'.putObj r (.deferred none),rfl,run_takeDeferred g3,?_⟩⟩
   have hw:∀ k,k≠r→(w'.putObj r (.deferred none)).heap[k]? = w'.heap[k]? := fun k hk=>World.putObj_heap_other hk
   have hs:(w'.putObj r (.deferred none)).heap.size=w'.heap.size:=by simp
   have hc:∀ (b:Nat) c e z,w'.heap[b]? = some (.cells c e z)→(w'.putObj r (.deferred none)).heap[b]? = w'.heap[b]? := fun b c e z hb=>hw b fun h=>by rw[h,g3] at hb;cases hb
   refine ih (hi.garb g2 (fun c e z h=>by rw[g3] at h;cases h) hw hs) (hx.garb hi0 g1 hw hs rfl rfl rfl) n2 (fun s hsm=>?_) fun w'' i'' x'' c''=>hk w'' i'' x'' fun b c e z hb=>?_
   ·obtain⟨k1,k2,k3⟩:=hms s (by simp[hsm])
    exact⟨k1,k2,(hw s fun h=>n1 (h▸hsm)).trans k3⟩
   ·rw[c'' b c e z ((hc b c e z hb).trans hb),hc b c e z hb]
theorem loop_turn (hi:Inv X μ H w) {o l:Nat}{ps:List Nat}{el:En}{asg body:C}{st st':Nat}{pd pd':Option Jp} (hg:hget H o=some (.loop ps el asg body st pd)) (hm:μ o=some l) {r r':Loop} (hb:w.heap[l]? = some (.loop r))
 (hr:LoopOk X.P ps asg body st' pd' r') (ht:r'.tmps=r.tmps) :
 Inv X μ (hset H o (.loop ps el asg body st' pd')) (w.putObj l (.loop r'))∧Ext X μ H w μ (hset H o (.loop ps el asg body st' pd')) (w.putObj l (.loop r')):=by
 have hol:=hget_lt hg
 have hob:ownedO H o:=by unfold ownedO;rw[hg];trivial
 have hw:∀ k,k≠l→(w.putObj l (.loop r')).heap[k]? = w.heap[k]? := fun k hk=>World.putObj_heap_other hk
 have hown:∀ b,Own X μ (hset H o (.loop ps el asg body st' pd')) b→Own X μ H b:=by
  rintro b (h | ⟨o',ho',hm'⟩)
  ·exact .inl h
  ·by_cases e:o'=o
   ·subst e;exact .inr ⟨o',hob,hm'⟩
   ·exact .inr ⟨o',by unfold ownedO at ho' ⊢; rw[hget_hset_other _ (Ne.symm e)] at ho'; exact ho',hm'⟩
 have hx:Ext X μ H w μ (hset H o (.loop ps el asg body st' pd')) (w.putObj l (.loop r')) :=
  { size:=by simp,os:=rfl,tape:=rfl,output:=rfl,len:=by rw[hset_length];exact Nat.le_refl _
    blk:=fun b _ hO=>hw b fun h=>hO (.inr ⟨o,hob,h▸hm⟩)
    xblk:=fun b hb'=>hw b fun h=>hi.xs o b hob (h▸hm) hb'
    own:=fun b _ h=>hown b h
    shape:=fun b c e h _ _=>⟨c,e,(hw b fun h'=>by rw[h',hb] at h;cases h).trans h,rfl⟩
    mu:=fun o' ho' hg'=>⟨rfl,by
     by_cases e:o'=o
     ·subst e;unfold isGr;rw[hget_hset_self _ hol];exact id
     ·unfold isGr at hg' ⊢; rw[hget_hset_other _ (Ne.symm e)];exact hg'⟩
    gr:=fun o' ty sz xs ho' h=>by
     by_cases e:o'=o
     ·subst e;rw[hget_hset_self _ hol] at h;cases h
     ·rw[hget_hset_other _ (Ne.symm e)] at h;exact⟨xs,h,Nat.le_refl _,fun _=>rfl⟩ }
 obtain⟨l',r0,h1,h2,h3,h4⟩:=hi.obj o _ hg
 rw[hm] at h1;cases h1
 rw[hb] at h2;cases h2
 refine⟨hi.step hx o _ (hget_hset_self _ hol) (fun o' ho'=>hget_hset_other _ (Ne.symm ho')) (fun _ _=>rfl) (fun o' b ho' k1 k2=>hw b fun h=>hi.inj o' o b ho' k1 hob k2 (h▸hm)) ?_ ?_,hx⟩
 ·refine⟨l,r',hm,World.putObj_heap_same (lt_of_heap hb),hr,fun t=>?_⟩
  rw[ht,hset_length]
  have:=((h4 t).mono (Nat.le_refl _) hi hx)
  exact this
 ·intro b _ hmb
  rw[hm] at hmb;cases hmb
  exact⟨hi.xs o l hob hm,fun o' ho' k1 k2=>hi.inj o' o l ho' k1 hob k2 hm⟩
end
end
section
open Go
def Same (T:List Nat) (a a':Act):Prop:=a'.defers=a.defers∧∀ t∈T,a'.tmps.getD t undef=a.tmps.getD t undef
theorem Same.refl (T:List Nat) (a:Act):Same T a a:=⟨rfl,fun _ _=>rfl⟩
theorem Same.trans {T:List Nat}{a b c:Act} (h:Same T a b) (k:Same T b c):Same T a c:=⟨k.1.trans h.1,fun t ht=>(k.2 t ht).trans (h.2 t ht)⟩
theorem Same.put {T:List Nat}{a:Act}{so:SO} (h:dstFree T so=true) (v:Value):Same T a (a.put so.dst v):=by
 refine⟨put_defers ..,fun t ht=>?_⟩
 unfold dstFree at h
 cases hd:so.dst with
 | none=>rfl
 | some d =>
   rw[hd] at h
   have hne:d≠t:=fun e=>by subst e;simp[ht] at h
   simp[Act.put,Array.getD_eq_getD_getElem?,Array.getElem?_setIfInBounds,hne]
section
variable {P:Program}{call:CallF}{X:Cx}{μ:Nat→Option Nat}{H:Hp}{w:World}{e:En}{a:Act}{Q:Exit→Act→World→Prop}
theorem CEnds.imp {Q':Exit→Act→World→Prop} (hQ:∀ x a' w',Q x a' w'→Q' x a' w') {r:Ex×En×Hp} (h:CEnds X μ H w a r Q):CEnds X μ H w a r Q':=by
 obtain⟨x,e',H'⟩:=r
 cases x with
 | pn v=>exact fun a' w' c h1=>hQ _ _ _ (h a' w' c h1)
 | _=>exact fun a' w' h1=>hQ _ _ _ (h a' w' h1)
theorem evOps_tail (ro:Option Nat) (T:List Nat) (hcall:CallOk P call) (hbody:CallB P call) {hs:Hints}{nt id:Nat}{ops:Array Oper} (tail:List Oper):∀ {os:List Oper}{k:Nat}{sos:List SO},trOpers P hs nt id ops.toList k os=some sos→sos.all (dstFree T)=true →
 ∀ {μ:Nat→Option Nat}{H:Hp}{w:World}{e:En}{a:Act},Fr P X μ H w e a→nt≤a.tmps.size→∀ {r:Ex×En×Hp},evOps call sos e H=some r →
 (∀ e' H',r=(.nor,e',H')→∀ a' w',At X μ H w a e' H' a' w'→Same T a a'→wpListIn (FW ro) 0 P ops Q tail a' w') →
 (∀ v e' H',r=(.pn v,e',H')→∀ a' w' c,StM X μ H w a H' v c a' w'→Same T a a'→Q (.panic [{ v:=c,recovered:=false }]) a' w')→wpListIn (FW ro) 0 P ops Q (os++tail) a w
 | [],k,sos,ht,hd,μ,H,w,e,a,f,hnt,r,hr,hQ,hE=>by
   simp only[trOpers] at ht;cases ht
   simp only[evOps] at hr;cases hr
   exact hQ e H rfl a w ⟨μ,f.inv,Ext.refl X μ H w,f.env,rfl,Marks.refl ..⟩ (Same.refl _ _)
 | o::os,k,sos,ht,hd,μ,H,w,e,a,f,hnt,r,hr,hQ,hE=>by
   obtain⟨so,rest,rfl,h1,h2,h3,h4,h5⟩:=trOpers_cons ht
   simp only[List.all_cons,Bool.and_eq_true] at hd
   refine wpListIn_step fun K hK=>?_
   simp only[evOps] at hr
   split at hr
   ·rename_i v H' hq
    refine evG_ok ro hcall hbody f h1 h2 hq fun c w' hs=>hK _ _ ?_
    obtain⟨μ',i',x',hv⟩:=hs
    have f':Fr P X μ' H' w' (put e so.dst v) (a.put o.dst c):=⟨f.hp,i',f.gl.mono x',by rw[h3];exact(f.env.mono f.inv x').put (fun t ht=>Nat.lt_of_lt_of_le (h4 t ht) hnt) hv⟩
    have hsame:Same T a (a.put o.dst c):=by rw[← h3];exact Same.put hd.1 c
    exact evOps_tail ro T hcall hbody tail h5 hd.2 f' (by rw[put_size];exact hnt) hr
     (fun e2 H2 h a2 w2 hat hsm=>hQ e2 H2 h a2 w2 (hat.trans x' (put_size ..) (Marks.of_eq (put_defers ..))) (hsame.trans hsm))
     (fun v2 e2 H2 h a2 w2 c2 hst hsm=>hE v2 e2 H2 h a2 w2 c2 (hst.trans x' (put_size ..) (Marks.of_eq (put_defers ..))) (hsame.trans hsm))
   ·rename_i v H' hq
    cases hr
    exact evG_ok ro hcall hbody f h1 h2 hq fun c w' hs=>hE v e H' rfl a w' c (StM.of_St hs rfl rfl) (Same.refl _ _)
   ·cases hr
theorem evC_plain (T:List Nat) (hcall:CallOk P call) (hbody:CallB P call) {hs:Hints}{nt:Nat} (n:Nat) :
 ∀ (c:Code) {cc:C},trC P hs nt c=some cc→plain T cc=true→∀ (ro:Option Nat) (X:Cx) (μ:Nat→Option Nat) (H:Hp) (w:World) (e:En) (a:Act) (Q:Exit→Act→World→Prop) (r:Ex×En×Hp),
  Fr P X μ H w e a→nt≤a.tmps.size→evC call n cc none e H=some r→CEnds X μ H w a r (fun x a' w'=>Same T a a'→Q x a' w')→c.wpIn (FW ro) 0 P Q a w:=by
 intro c
 induction c with
 | skip =>
   intro cc ht hp ro X μ H w e a Q r f hnt hr hQ
   simp only[trC] at ht;cases ht
   simp only[evC] at hr;cases hr
   exact wpIn_skip (hQ a w ⟨μ,f.inv,Ext.refl ..,f.env,rfl,Marks.refl ..⟩ (Same.refl _ _))
 | exit id =>
   intro cc ht hp ro X μ H w e a Q r f hnt hr hQ
   simp only[trC] at ht;cases ht
   simp only[evC] at hr;cases hr
   exact wpIn_exit (hQ a w ⟨μ,f.inv,Ext.refl ..,f.env,rfl,Marks.refl ..⟩ (Same.refl _ _))
 | ret =>
   intro cc ht hp ro X μ H w e a Q r f hnt hr hQ
   simp only[trC] at ht;cases ht
   simp only[evC] at hr;cases hr
   exact wpIn_ret (hQ a w ⟨μ,f.inv,Ext.refl ..,f.env,rfl,Marks.refl ..⟩ (Same.refl _ _))
 | region id ops draw =>
   intro cc ht hp ro X μ H w e a Q r f hnt hr hQ
   simp only[trC] at ht
   split at ht
   ·rename_i l hl
    cases draw with
    | true =>
      simp only[if_true] at ht
      split at ht
      ·cases ht;simp[plain] at hp
      ·cases ht
    | false =>
      simp only[Bool.false_eq_true,if_false] at ht
      cases ht
      simp only[plain] at hp
      simp only[evC] at hr
      refine wpIn_region_list ?_
      rw[← List.append_nil ops.toList]
      split at hr
      ·rename_i e' h' he
       cases hr
       refine evOps_tail ro T hcall hbody [] hl hp f hnt he (fun e2 H2 h2 a' w' hat hsm=>?_) (fun v e2 H2 h2=>by cases h2)
       cases h2
       obtain⟨μ',q1,q2,q3,q4,q5⟩:=hat
       exact hQ a' w' ⟨μ',q1,q2,q3.keep _,q4,q5⟩ hsm
      ·rename_i hn
       refine evOps_tail ro T hcall hbody [] hl hp f hnt hr (fun e2 H2 h2=>by subst h2;exact absurd hr (hn e2 H2)) (fun v e2 H2 h2 a' w' c hst hsm=>?_)
       subst h2
       exact hQ a' w' c hst hsm
   ·cases ht
 | seq x y ihx ihy =>
   intro cc ht hp ro X μ H w e a Q r f hnt hr hQ
   simp only[trC] at ht
   split at ht
   ·rename_i cx cy hx hy
    cases ht
    simp only[plain,Bool.and_eq_true] at hp
    simp only[evC] at hr
    refine wpIn_seq ?_
    split at hr
    ·rename_i e' h' he
     refine ihx hx hp.1 ro X μ H w e a _ _ f hnt he fun a' w' hat hsm=>?_
     obtain⟨μ',g1,g2,g3⟩:=CEnds.at hat hQ
     exact ihy hy hp.2 ro X μ' h' w' e' a' Q r (g1 f.hp f.gl) (g3▸hnt) hr (g2.imp fun x a2 w2 hq hsm2=>hq (hsm.trans hsm2))
    ·rename_i hn
     refine ihx hx hp.1 ro X μ H w e a _ r f hnt hr ?_
     obtain⟨x,e',H'⟩:=r
     cases x with
     | nor=>exact absurd hr (hn e' H')
     | _=>exact hQ
   ·cases ht
 | cond c x y ihx ihy =>
   intro cc ht hp ro X μ H w e a Q r f hnt hr hQ
   simp only[trC] at ht
   split at ht
   ·rename_i c' cx cy hc hx hy
    cases ht
    simp only[plain,Bool.and_eq_true] at hp
    simp only[evC] at hr
    split at hr
    ·rename_i t hv
     have hcv:=f.val hc
     rw[hv] at hcv
     generalize hcx:a.eval c=cv at hcv
     cases hcv with
     | d _ _ hcv =>
       cases hcv with
       | b =>
         refine wpIn_cond hcx ?_
         cases t
         ·exact ihy hy hp.2 ro X μ H w e a Q r f hnt (by simpa using hr) hQ
         ·exact ihx hx hp.1 ro X μ H w e a Q r f hnt (by simpa using hr) hQ
    ·cases hr
   ·cases ht
 | block id x ihx =>
   intro cc ht hp ro X μ H w e a Q r f hnt hr hQ
   simp only[trC] at ht
   obtain⟨cx,hx,rfl⟩:=Option.map_eq_some_iff.1 ht
   simp only[plain] at hp
   simp only[evC] at hr
   refine wpIn_block ?_
   split at hr
   ·rename_i id' e' h' he
    refine ihx hx hp ro X μ H w e a _ _ f hnt he fun a' w' hat hsm=>?_
    simp only[Exit.inBlock]
    split at hr
    ·rename_i hid;cases hr;rw[if_pos hid];exact hQ a' w' hat hsm
    ·rename_i hid;cases hr;rw[if_neg hid];exact hQ a' w' hat hsm
   ·rename_i hn
    refine ihx hx hp ro X μ H w e a _ r f hnt hr ?_
    obtain⟨x,e',H'⟩:=r
    cases x with
    | ex id'=>exact absurd hr (hn id' e' H')
    | _=>exact hQ
 | loop _ _=>intro cc ht hp;simp only[trC] at ht;obtain⟨_,_,rfl⟩:=Option.map_eq_some_iff.1 ht;simp[plain] at hp
 | scope _ _=>intro cc ht hp;simp only[trC] at ht;obtain⟨_,_,rfl⟩:=Option.map_eq_some_iff.1 ht;simp[plain] at hp
 | goto _=>intro cc ht hp;simp only[trC] at ht;cases ht;simp[plain] at hp
 | label _=>intro cc ht hp;simp only[trC] at ht;cases ht;simp[plain] at hp
 | rangeFunc _ _ _ _ _ _ =>
   intro cc ht hp
   simp only[trC] at ht
   split at ht
   ·split at ht
    ·cases ht;simp[plain] at hp
    ·cases ht
   ·cases ht
 | refuse _=>intro cc ht;simp[trC] at ht
end
end
section
open Go
section
variable {n:Nat}{P:Program}{Q:Exit→Act→List Frame→World→Prop}{a:Act}{cs:List Frame}{w:World}
theorem wpSIn_recover {id:Nat}{ops:Array Oper}{o:Oper}{os:List Oper}{c:Call}{v:Value}{cs':List Frame} (ho:ops.toList=o::os) (hop:o.op=.call c) (hc:c.callee=.builtin .recover) (hg:o.guard=none)
 (hrec:recoverD cs=some (v,cs')∨(recoverD cs=none∧v=.nilIface∧cs'=cs)) (h:wpListIn (FW none) n P ops (fun e a' w'=>Q e a' cs' w') os (a.put o.dst v) w):(Code.region id ops false).wpSIn (FW none) n P Q a cs w:=by
 intro b k hb hr hF hroom
 have hlen:cs'.length=cs.length:=by
  rcases hrec with h1 | ⟨_,_,h1⟩
  ·exact recoverD_length h1
  ·rw[h1]
 have h0:ops[0]? = some o:=by rw[← Array.getElem?_toList,ho];rfl
 have hl:wpOpsIn (FW none) n P ops (fun e a' w'=>Q e a' cs' w') (List.range' 1 os.length) (a.put o.dst v) w:=by
  rw[wpOpsIn_eq_wpListIn os 1 (fun j=>by rw[← Array.getElem?_toList,ho,Nat.add_comm];rfl)];exact h
 obtain⟨e,a',w',hq,harr⟩:=wp_opsIn _ _ _ hl b k cs' hr hF (hlen▸hroom)
 have hsize:List.range ops.size=0::List.range' 1 os.length:=by
  rw[← Array.length_toList,ho,List.range_eq_range',List.length_cons,List.range'_succ]
 have hw:Region.wanted o (yielded ops a.tmps)=true:=by simp[Region.wanted,hg]
 have hgs:=stepGR_op (P:=P) (b:=b) (k:=k) (cs:=cs) (w:=w) (rest:=List.range' 1 os.length) h0 hw
 rw[hr,Oper.semAt_none] at hgs
 have hfin:∀ v,(b.atR a (.inRegion ops (0::List.range' 1 os.length)::k)).finish v=b.atR (a.put o.dst v) (.inRegion ops (List.range' 1 os.length)::k):=by
  intro v;rw[Frame.finish_atR,h0];rfl
 have hk:(b.atR a (.inRegion ops (0::List.range' 1 os.length)::k)).kind=.deferred:=hb
 have htr:=tryRecover_deferred hk cs
 have hrun:(execOp a.eval o).run P w=.ok .recover w:=by
  unfold execOp;rw[hop];dsimp only
  simp[resolve,hc,invoke,builtin]
 have h00:(lone (b.atR a (.inRegion ops (0::List.range' 1 os.length)::k)) cs w).fenced P (FW none):=fenced_oper hF hroom h0 (fun _ _=>trivial)
 refine⟨e,a',cs',w',hlen,hq,.of_steps (.one (fenced_calm hF hroom rfl) stepR_region) ?_⟩
 rw[hsize]
 refine .of_steps (.one h00 (step_lone_go ?_)) harr
 rw[hgs,← hfin]
 rcases hrec with h1 | ⟨h1,rfl,rfl⟩
 ·simp only[Frame.atR,hr] at htr ⊢
  simp[stepG.apply,hrun,htr,h1]
 ·simp only[Frame.atR,hr] at htr ⊢
  simp[stepG.apply,hrun,htr,h1]
end
section
variable {P:Program}{call:CallF}{X:Cx}{μ:Nat→Option Nat}{H:Hp}{w:World}{e:En}{a:Act}{Q:Exit→Act→World→Prop}
theorem trDF_ok {hs:Hints}{fn:Func}{df:DF} (h:trDF P hs fn=some df):∃ id ops rest o os c,fn.body=some (.seq (.region id ops false) rest)∧ops.toList=o::os∧o.op=.call c∧c.callee=.builtin .recover∧o.guard=none∧o.dst=some df.dst ∧
 trOpers P hs fn.ntmps id ops.toList 1 os=some df.ops∧trC P hs fn.ntmps rest=some df.rest∧plain [] df.rest=true∧trRes P fn.ntmps fn.results.toList=some []∧df.dst<fn.ntmps:=by
 unfold trDF at h
 split at h
 ·rename_i id ops rest hb
  split at h
  ·rename_i o os ho
   split at h
   ·rename_i c t h1 h2 h3
    split at h
    ·rename_i h4
     split at h
     ·rename_i l r h5 h6 h7
      split at h
      ·rename_i h8
       cases h
       exact⟨id,ops,rest,o,os,c,hb,ho,h1,h4,h2,h3,h5,h6,h8.2,h7,h8.1⟩
      ·cases h
     ·cases h
    ·cases h
   ·cases h
  ·cases h
 ·cases h
theorem dstFree_nil (l:List SO):l.all (dstFree [])=true:=by
 refine List.all_eq_true.2 fun o _=>?_
 unfold dstFree;split<;>rfl
def Found (X:Cx) (μ:Nat→Option Nat) (H:Hp) (w:World) (pv:Option V) (u:FrameMode):Prop:=match pv with
 | none=>u=.returning
 | some v=>∃ c,u=.panicking [{ v:=c,recovered:=false }]∧HV (Own X μ H) μ H H.length w v c
theorem runD_ok {S : Sp} (hD : ∀ f df, S.D f = some df → ∃ fn hs, P.funcs[f]? = some fn ∧ trDF P hs fn = some df ∧ fn.name ≠ "runtime.NumGoroutine") (hcall : CallOk P call) (hbody : CallB P call) (n : Nat) {g : FuncId} {args : List V} {pv : Option V} {H' : Hp}
 (hr:runD S call (fun c e h=>evC call n c none e h) g args pv H=some H') {cargs:Array Value}{u:FrameMode} (hp:X.P=P) (hi:Inv X μ H w) (hg:Gl P.globals.size μ H) (hargs:HVs (Own X μ H) μ H H.length w args cargs) (hu:Found X μ H w pv u) :
 CallsDIn (FW none) 0 P g cargs u w fun e u' w'=>(∃ c,e=.returned c)∧settle u'=.returning∧∃ μ',Inv X μ' H' w'∧Ext X μ H w μ' H' w':=by
 unfold runD at hr
 split at hr
 ·rename_i df hdf
  obtain⟨fn,hs,hf,htr,hname⟩:=hD _ _ hdf
  obtain⟨id,ops,rest,o,os,c,hb,ho,hop,hc,hgd,hdst,t1,t2,hpl,t3,hlt⟩:=trDF_ok htr
  split at hr
  ·rename_i e1 h1 hops
   refine callsDIn_of_wpSIn hf hb trivial fun c₀ cs hm=>wpSIn_seq ?_
   obtain⟨x,hx⟩:∃ x,(match pv with | none=>V.d D.nili | some v=>v)=x:=⟨_,rfl⟩
   have hops:evOps call df.ops (eset (enter args) df.dst x) H=some (.nor,e1,h1):=by rw[← hx];exact hops
   obtain⟨v,cs',u',hrec,hv,hcs,hset⟩:∃ v cs' u',(recoverD (c₀::cs)=some (v,cs')∨(recoverD (c₀::cs)=none∧v=.nilIface∧cs'=c₀::cs))∧HV (Own X μ H) μ H H.length w x v∧cs'={ c₀ with mode:=u' }::cs∧settle u'=.returning:=by
    cases pv with
    | none =>
      subst hx
      have hu':u=.returning:=hu
      subst hu'
      refine⟨.nilIface,c₀::cs,.returning,.inr ⟨by simp[recoverD,hm],rfl,rfl⟩,.d _ _ .nili,by cases c₀;simp_all,rfl⟩
    | some y =>
      subst hx
      obtain⟨cv,hcu,hcv⟩:=hu
      subst hcu
      exact⟨cv,{ c₀ with mode:=.panicking [{ v:=cv,recovered:=true }] }::cs,.panicking [{ v:=cv,recovered:=true }],.inl (by simp[recoverD,hm]),hcv,rfl,by simp[settle]⟩
   refine wpSIn_recover ho hop hc hgd hrec ?_
   have hfr0:Fr P X μ H w (enter args) { tmps:=cargs++Array.replicate (fn.ntmps-cargs.size) undef,defers:=[] }:=by
    refine⟨hp,hi,hg,fun t=>?_⟩
    rw[eget_enter]
    cases ht:args[t]? with
    | none=>exact .u _
    | some v =>
      have:=hargs.2 t v ht
      have hlt:t<cargs.size:=by rw[hargs.1];exact(List.getElem?_eq_some_iff.1 ht).1
      simpa[Array.getD_eq_getD_getElem?,Array.getElem?_append,hlt] using this
   have hnt:fn.ntmps≤(cargs++Array.replicate (fn.ntmps-cargs.size) undef).size:=by simp;omega
   have hfr:Fr P X μ H w (eset (enter args) df.dst x) (({ tmps:=cargs++Array.replicate (fn.ntmps-cargs.size) undef,defers:=[] }:Act).put o.dst v):=by
    refine⟨hp,hi,hg,?_⟩
    have:=HE.put (act:={ tmps:=cargs++Array.replicate (fn.ntmps-cargs.size) undef,defers:=[] }) hfr0.env (dst:=o.dst) (fun t ht=>by rw[hdst] at ht;cases ht;exact Nat.lt_of_lt_of_le hlt hnt) hv
    rw[hdst] at this ⊢
    exact this
   rw[← List.append_nil os]
   refine evOps_tail none [] hcall hbody [] t1 (dstFree_nil _) hfr (by rw[put_size];exact hnt) hops (fun e2 H2 hq a' w' hat hsm=>?_) (fun v' e2 H2 hq=>by cases hq)
   cases hq
   have hat0:=hat
   obtain⟨μ1,i1,x1,he1,hs1,hm1⟩:=hat
   show rest.wpSIn (FW none) 0 P _ a' cs' w'
   refine wpSIn_of_wpIn rfl ?_
   have fin:∀ {e3:En}{h3:Hp},h3=H'→∀ a2 w2,At X μ1 h1 w' a' e3 h3 a2 w2→Same [] a' a2→a2.defers=[]∧∃ u',cs'={ c₀ with mode:=u' }::cs∧∃ v,(results fn a2.tmps).run P w2=.ok v w2∧((∃ c,Ending.returned v=.returned c)∧settle u'=.returning∧∃ μ',Inv X μ' H' w2∧Ext X μ H w μ' H' w2):=by
    intro e3 h3 hh a2 w2 hat2 hsm2
    subst hh
    obtain⟨μ2,i2,x2,he2,hs2,hm2⟩:=hat2
    obtain⟨cc,hc1,_⟩:=results_ok (e:=e3) (a:=a2) ⟨hp,i2,hg.mono (x1.trans x2),he2⟩ t3 (v:=mkTup []) rfl
    exact⟨hsm2.1.trans (hsm.1.trans (put_defers ..)),u',hcs,cc,hc1,⟨_,rfl⟩,hset,μ2,i2,x1.trans x2⟩
   split at hr
   ·rename_i e3 h3 hev
    cases hr
    exact evC_plain [] hcall hbody n rest t2 hpl none X μ1 h1 w' (ekeep df.keep e1) a' _ _ ⟨hp,i1,hg.mono x1,he1.keep _⟩ (by rw[hs1,put_size];exact hnt) hev fun a2 w2 hat2 hsm2=>fin rfl a2 w2 hat2 hsm2
   ·rename_i e3 h3 hev
    cases hr
    exact evC_plain [] hcall hbody n rest t2 hpl none X μ1 h1 w' (ekeep df.keep e1) a' _ _ ⟨hp,i1,hg.mono x1,he1.keep _⟩ (by rw[hs1,put_size];exact hnt) hev fun a2 w2 hat2 hsm2=>fin rfl a2 w2 hat2 hsm2
   ·cases hr
  ·cases hr
 ·cases hr
def tgt:V→List V→Option (FuncId×List V)
 | .d (.fn g first cap),args=>some (g,first.map .d++args++cap.map .d)
 | .fn g first cap,args=>some (g,first++args++cap)
 | _,_=>none
theorem callD_tgt {S:Sp}{ev:C→En→Hp→Option (Ex×En×Hp)}{f:V}{args:List V}{pv:Option V}{h:Hp}{H':Hp} (hc:callD S call ev f args pv h=some H'):∃ g vs,tgt f args=some (g,vs)∧runD S call ev g vs pv h=some H':=by
 unfold callD at hc
 split at hc
 ·exact⟨_,_,rfl,hc⟩
 ·exact⟨_,_,rfl,hc⟩
 ·cases hc
def IsDfd (X:Cx) (μ:Nat→Option Nat) (H:Hp) (w:World) (fv:V) (args:List V) (d:Deferred):Prop :=
 ∀ g vs,tgt fv args=some (g,vs)→∃ cap dargs,d={ target:=.fn (.func g) cap,args:=dargs }∧HVs (Own X μ H) μ H H.length w vs (dargs++cap)
theorem dfrReg_ok {hs:Hints}{nt id:Nat}{ops:List Oper}{l:List SO}{f:Ar}{as:List Ar} (h:dfrReg P hs nt id ops=some (l,f,as)) :
 ∃ os o c fo,ops=os++[o]∧o.op=.defer c∧o.guard=none∧o.dst=none∧c.callee=.value fo∧trOpers P hs nt id ops 0 os=some l∧trA P fo=some f∧trAs P c.args.toList=some as:=by
 unfold dfrReg at h
 split at h
 ·rename_i o rev hrev
  split at h
  ·rename_i c h1 h2 h3
   split at h
   ·rename_i fo h4
    split at h
    ·rename_i h5 h6 h7
     cases h
     refine⟨rev.reverse,o,c,fo,?_,h1,h2,h3,h4,h5,h6,h7⟩
     have:=congrArg List.reverse hrev
     simpa using this
    ·cases h
   ·cases h
  ·cases h
 ·cases h
theorem trD_ok (T:List Nat) (hcall:CallOk P call) (hbody:CallB P call) {hs:Hints}{nt:Nat} (n:Nat):∀ (c:Code) {pre:C}{d:Df},trD P hs nt T c=some (pre,d) →
 ∀ {X:Cx}{μ:Nat→Option Nat}{H:Hp}{w:World}{e:En}{a:Act}{Q:Exit→Act→World→Prop},Fr P X μ H w e a→nt≤a.tmps.size→∀ {e1:En}{H1:Hp}{e2:En}{H2:Hp}{r:Ex×En×Hp},evC call n pre none e H=some (.nor,e1,H1)→evOps call d.ops e1 H1=some (.nor,e2,H2)→evC call n d.rest none e2 H2=some r→(∃ g vs,tgt (aval e2 d.fn) (d.args.map (aval e2))=some (g,vs)) →
 (∀ μ2 a2 w2 dfd,Fr P X μ2 H2 w2 e2 a2→Ext X μ H w μ2 H2 w2→a2.tmps.size=a.tmps.size→a2.defers=dfd::a.defers→IsDfd X μ2 H2 w2 (aval e2 d.fn) (d.args.map (aval e2)) dfd→CEnds X μ2 H2 w2 a2 r (fun x a' w'=>Same T a2 a'→Q x a' w')) →
 c.wpIn (FW none) 0 P Q a w:=by
 intro c
 induction c with
 | seq x y ihx ihy =>
   intro pre d ht X μ H w e a Q f hnt e1 H1 e2 H2 r hpre hops hrest htgt hQ
   simp only[trD] at ht
   split at ht
   ·rename_i p hp
    cases ht
    split at hp
    ·rename_i id ops
     split at hp
     ·rename_i l fa as hreg
      split at hp
      ·rename_i cr hcr
       split at hp
       ·rename_i hpl
        cases hp
        simp only[evC] at hpre
        cases hpre
        obtain⟨os,o,cc,fo,hos,hop,hgd,hdst,hcal,t1,t2,t3⟩:=dfrReg_ok hreg
        refine wpIn_seq (wpIn_region_list ?_)
        rw[hos]
        refine evOps_tail none [] hcall hbody [o] t1 (dstFree_nil _) f hnt hops (fun e3 H3 hq a' w' hat hsm=>?_) (fun v e3 H3 hq=>by cases hq)
        cases hq
        obtain⟨μ1,i1,x1,he1,hs1,hm1⟩:=hat
        have f1:Fr P X μ1 H2 w' e2 a':=⟨f.hp,i1,f.gl.mono x1,he1⟩
        refine wpListIn_plain hgd fun K hK=>⟨fun _ _=>trivial,?_⟩
        show o.uponIn (FW none) 0 P a' K (Exit.then (y.wpIn (FW none) 0 P Q) Q) ((Oper.semAt none a'.eval o).run P w')
        rw[Oper.semAt_none]
        generalize hQ':(Exit.then (y.wpIn (FW none) 0 P Q) Q)=Q' at hK
        have hfv:=f1.val t2
        have hav:=trAs_arr t3 f1.env f1.gl (Nat.le_refl _)
        have huse:∀ (g:FuncId) (first cap:Array Value),a'.eval fo=.func (.func g) first cap→(∀ g' vs,tgt (aval e2 fa) (as.map (aval e2))=some (g',vs)→g'=g∧HVs (Own X μ1 H2) μ1 H2 H2.length w' vs (first++cc.args.map a'.eval++cap))→o.uponIn (FW none) 0 P a' K Q' ((execOp a'.eval o).run P w'):=by
         intro g first cap hcv hvs
         have hrun:(execOp a'.eval o).run P w'=.ok (.defer { target:=.fn (.func g) cap,args:=first++cc.args.map a'.eval }) w':=by
          unfold execOp;rw[hop];dsimp only
          simp[resolve,hcal,hcv,Deferred.ofValue]
         rw[hrun]
         refine hK _ _ ?_
         subst hQ'
         show y.wpIn (FW none) 0 P Q _ w'
         have f2:Fr P X μ1 H2 w' e2 (({ a' with defers:={ target:=.fn (.func g) cap,args:=first++cc.args.map a'.eval }::a'.defers }:Act).put o.dst undef):=by rw[hdst];exact⟨f1.hp,f1.inv,f1.gl,f1.env⟩
         have hde:(({ a' with defers:={ target:=.fn (.func g) cap,args:=first++cc.args.map a'.eval }::a'.defers }:Act).put o.dst undef).defers={ target:=.fn (.func g) cap,args:=first++cc.args.map a'.eval }::a.defers:=by rw[put_defers,← hsm.1]
         refine evC_plain T hcall hbody n y hcr hpl none X μ1 H2 w' e2 _ _ r f2 (by rw[put_size];show nt≤a'.tmps.size;rw[hs1];exact hnt) hrest ?_
         refine hQ μ1 _ w' _ f2 x1 (by rw[put_size];exact hs1) hde fun g' vs hg'=>?_
         obtain⟨rfl,h2⟩:=hvs g' vs hg'
         exact⟨_,_,rfl,h2⟩
        obtain⟨g,vs,htg⟩:=htgt
        unfold tgt at htg
        split at htg
        ·rename_i args0 g0 first cap hp
         rw[hp] at hfv
         generalize hcv:a'.eval fo=cv at hfv
         cases hfv with
         | d _ _ h =>
           cases h with
           | fn _ _ _ a b h3 h4 h5 h6 =>
             refine huse g0 a b hcv fun g' vs hg'=>?_
             rw[hp] at hg'; simp only[tgt] at hg'; cases hg'
             exact⟨rfl,HVs_append (HVs_append (HVs_d.2 ⟨h3,h5⟩) hav) (HVs_d.2 ⟨h4,h6⟩)⟩
        ·rename_i args0 g0 first cap hp
         rw[hp] at hfv
         generalize hcv:a'.eval fo=cv at hfv
         cases hfv with
         | fn _ _ _ a b h3 h4 h5 h6 =>
           refine huse g0 a b hcv fun g' vs hg'=>?_
           rw[hp] at hg'; simp only[tgt] at hg'; cases hg'
           exact⟨rfl,HVs_append (HVs_append ⟨h3,h5⟩ hav) ⟨h4,h6⟩⟩
        ·cases htg
       ·cases hp
      ·cases hp
     ·cases hp
    ·cases hp
   ·split at ht
    ·rename_i ca p' dd hca hdd
     split at ht
     ·rename_i hpl
      cases ht
      simp only[evC] at hpre
      refine wpIn_seq ?_
      split at hpre
      ·rename_i e' h' he
       refine evC_plain [] hcall hbody n x hca hpl none X μ H w e a _ _ f hnt he fun a' w' hat hsm=>?_
       obtain⟨μ1,i1,x1,he1,hs1,hm1⟩:=hat
       refine ihy hdd ⟨f.hp,i1,f.gl.mono x1,he1⟩ (by rw[hs1];exact hnt) hpre hops hrest htgt fun μ2 a2 w2 dfd f2 x2 s2 d2 isd=>?_
       exact hQ μ2 a2 w2 dfd f2 (x1.trans x2) (s2.trans hs1) (by rw[d2,hsm.1]) isd
      ·rename_i hn
       exact absurd hpre (by intro hh;exact hn _ _ hh)
     ·cases ht
    ·cases ht
 | _=>intro pre d ht;simp[trD] at ht
theorem eget_ekeep_mem:∀ (l:List Nat) (e:En) (t:Nat),eget (ekeep l e) t=if t∈l then eget e t else .u
 | [],e,t=>rfl
 | k::l,e,t=>by
   have ih:=eget_ekeep_mem l e t
   unfold ekeep at ih ⊢
   simp only[List.map_cons,eget]
   by_cases h:t=k
   ·subst h;simp
   ·rw[if_neg h,ih];simp[h]
theorem resAll_keep:∀ {rs:List RV}{T:List Nat}{e:En}{h:Hp},allCell rs=true→(∀ t∈cellSlots rs,t∈T)→resAll (ekeep T e) h rs=resAll e h rs∧(∀ r∈rs,resV (ekeep T e) h r=resV e h r)
 | [],T,e,h,_,_=>⟨rfl,by simp⟩
 | .t _::rs,T,e,h,ha,_=>by simp[allCell] at ha
 | .cell n g sz::rs,T,e,h,ha,hT=>by
   have h1:resV (ekeep T e) h (.cell n g sz)=resV e h (.cell n g sz):=by
    simp only[resV]
    rw[eget_ekeep_mem,if_pos (hT n (by simp[cellSlots]))]
   obtain⟨i1,i2⟩:=resAll_keep (rs:=rs) (T:=T) (e:=e) (h:=h) (by simpa[allCell] using ha) (fun t ht=>hT t (by simp[cellSlots,ht]))
   refine⟨by simp only[resAll,h1,i1],fun r hr=>?_⟩
   rcases List.mem_cons.1 hr with rfl | hr
   ·exact h1
   ·exact i2 r hr
theorem resOf_keep {rs:List RV}{e:En}{h:Hp} (ha:allCell rs=true):resOf (ekeep (cellSlots rs) e) h rs=resOf e h rs:=by
 obtain⟨h1,h2⟩:=resAll_keep (rs:=rs) (T:=cellSlots rs) (e:=e) (h:=h) ha (fun _ h=>h)
 unfold resOf
 split
 ·rename_i r;exact h2 r (by simp)
 ·rw[h1]
theorem IsDfd.mono {μ':Nat→Option Nat}{H':Hp}{w':World}{fv:V}{args:List V}{d:Deferred} (h:IsDfd X μ H w fv args d) (hi:Inv X μ H w) (hx:Ext X μ H w μ' H' w'):IsDfd X μ' H' w' fv args d:=fun g vs ht=>by
 obtain⟨cap,dargs,h1,h2⟩:=h g vs ht
 exact⟨cap,dargs,h1,h2.mono hi hx⟩
theorem retOf_some {e:En}{res:List RV}{x:Option Hp}{r:Out×Hp} (h:retOf e res x=some r):∃ H' v,x=some H'∧resOf e H' res=some v∧r=(.ret v,H'):=by
 unfold retOf at h
 split at h
 ·split at h
  ·rename_i H' v hv;cases h;exact⟨_,_,rfl,hv,rfl⟩
  ·cases h
 ·cases h
theorem leave_dfr {S : Sp} (hD : ∀ f df, S.D f = some df → ∃ fn hs, P.funcs[f]? = some fn ∧ trDF P hs fn = some df ∧ fn.name ≠ "runtime.NumGoroutine") (hcall : CallOk P call) (hbody : CallB P call) (n : Nat) {fn : Func} {nt : Nat} {res : List RV} (ht : trRes P nt fn.results.toList = some res)
 {μ3:Nat→Option Nat}{H3 H':Hp}{w3:World}{er:En}{a3:Act} (f3:Fr P X μ3 H3 w3 er a3) (hx:Ext X μ H w μ3 H3 w3) {fv:V}{args:List V}{d:Deferred} (hd:IsDfd X μ3 H3 w3 fv args d) {pv:Option V}
 (hc:callD S call (fun c e h=>evC call n c none e h) fv args pv H3=some H') {u:FrameMode} (hu:Found X μ3 H3 w3 pv u) (hrun:u≠.run) {v:V} (hv:resOf er H' res=some v) :
 LeavesIn (FW none) 0 P fn a3.tmps (Ends X μ H w (.ret v,H')) [d] u w3:=by
 obtain⟨g,vs,htg,hr⟩:=callD_tgt hc
 obtain⟨cap,dargs,rfl,hvs⟩:=hd g vs htg
 have hnamed : ∃ fn', P.funcs[g]? = some fn' ∧ fn'.body.isNone = false ∧ (fn'.name == "runtime.NumGoroutine") = false := by
  have hr':=hr
  unfold runD at hr'
  split at hr'
  ·rename_i df hdf
   obtain⟨fn',hs,h1,h2,h3⟩:=hD _ _ hdf
   obtain⟨_,_,_,_,_,_,h4,_⟩:=trDF_ok h2
   exact⟨fn',h1,by rw[h4];rfl,by simpa using h3⟩
  ·cases hr'
 obtain⟨fn',n1,n2,n3⟩:=hnamed
 have hinv:(invoke (.fn (.func g) cap) dargs).run P w3=.ok (.enter g (dargs++cap)) w3:=by
  simp only[invoke,callFunc,Sem.run_bind,Result.andThen_ok,run_program,n1,n2,n3,Bool.false_eq_true,if_false,Sem.run_pure]
 refine leavesIn_cons hrun (by simp[Fence.wide]) hinv (fun _ _=>trivial) ?_
 refine(runD_ok hD hcall hbody n hr f3.hp f3.inv f3.gl hvs hu).mono ?_
 rintro e u' w' ⟨⟨c,rfl⟩,hset,μ',i',x'⟩
 show LeavesIn (FW none) 0 P fn a3.tmps _ [] (settle u') w'
 rw[hset]
 obtain⟨cc,c1,c2⟩:=results_ok (e:=er) (a:=a3) ⟨f3.hp,i',f3.gl.mono x',f3.env.mono f3.inv x'⟩ ht hv
 exact⟨cc,c1,cc,rfl,μ',i',hx.trans x',c2⟩
theorem callFD_ok {S : Sp} (hD : ∀ f df, S.D f = some df → ∃ fn hs, P.funcs[f]? = some fn ∧ trDF P hs fn = some df ∧ fn.name ≠ "runtime.NumGoroutine") (hcall : CallOk P call) (hbody : CallB P call) (n : Nat) {hs : Hints} {f : FuncId} {fn : Func} {sf : SF} (h1 : P.funcs[f]? = some fn) (h2 : trFD P hs fn = some sf)
 {args:List V}{cargs:Array Value}{r:Out×Hp} (hr:bodyOf S call (fun c e h=>evC call n c none e h) sf args H=some r) (hp:X.P=P) (hi:Inv X μ H w) (hg:Gl P.globals.size μ H) (hargs:HVs (Own X μ H) μ H H.length w args cargs):Calls P f cargs w (Ends X μ H w r):=by
 obtain⟨c,x,d,hc,htr,hres,hb,hdf⟩:=trFD_ok h2
 have hfr:Fr P X μ H w (enter args) { tmps:=cargs++Array.replicate (fn.ntmps-cargs.size) undef,defers:=[] }:=by
  refine⟨hp,hi,hg,fun t=>?_⟩
  rw[eget_enter]
  cases ht:args[t]? with
  | none=>exact .u _
  | some v =>
    have:=hargs.2 t v ht
    have hlt:t<cargs.size:=by rw[hargs.1];exact(List.getElem?_eq_some_iff.1 ht).1
    simpa[Array.getD_eq_getD_getElem?,Array.getElem?_append,hlt] using this
 have hnt:fn.ntmps≤(cargs++Array.replicate (fn.ntmps-cargs.size) undef).size:=by simp;omega
 refine callsIn_wide.1 (callsIn_of_wp_defers (F:=Fence.wide) (n:=0) h1 hc trivial ?_)
 simp only[bodyOf,hdf] at hr
 split at hr
 ·rename_i e1 H1 hpre
  rw[hb] at hpre
  split at hr
  ·rename_i e2 H2 hops
   split at hr
   ·rename_i e3 H3 hrest
    obtain⟨H',v,hcd,hv,rfl⟩:=retOf_some hr
    obtain⟨g,vs,htg,_⟩:=callD_tgt hcd
    refine trD_ok (cellSlots sf.res) hcall hbody n c htr hfr hnt hpre hops hrest ⟨g,vs,htg⟩ fun μ2 a2 w2 dfd f2 x2 s2 d2 isd=>?_
    intro a' w' hat hsm
    obtain⟨μ3,i3,x3,he3,hs3,hm3⟩:=hat
    show LeavesIn (FW none) 0 P fn a'.tmps _ a'.defers .returning w'
    rw[hsm.1,d2]
    exact leave_dfr hD hcall hbody n hres ⟨hp,i3,f2.gl.mono x3,he3⟩ (x2.trans x3) (isd.mono f2.inv x3) hcd rfl (by simp) hv
   ·rename_i e3 H3 hrest
    obtain⟨H',v,hcd,hv,rfl⟩:=retOf_some hr
    obtain⟨g,vs,htg,_⟩:=callD_tgt hcd
    refine trD_ok (cellSlots sf.res) hcall hbody n c htr hfr hnt hpre hops hrest ⟨g,vs,htg⟩ fun μ2 a2 w2 dfd f2 x2 s2 d2 isd=>?_
    intro a' w' hat hsm
    obtain⟨μ3,i3,x3,he3,hs3,hm3⟩:=hat
    show LeavesIn (FW none) 0 P fn a'.tmps _ a'.defers .returning w'
    rw[hsm.1,d2]
    exact leave_dfr hD hcall hbody n hres ⟨hp,i3,f2.gl.mono x3,he3⟩ (x2.trans x3) (isd.mono f2.inv x3) hcd rfl (by simp) hv
   ·rename_i pv e3 H3 hrest
    split at hr
    ·rename_i hcell
     obtain⟨H',v,hcd,hv,rfl⟩:=retOf_some hr
     obtain⟨g,vs,htg,_⟩:=callD_tgt hcd
     refine trD_ok (cellSlots sf.res) hcall hbody n c htr hfr hnt hpre hops hrest ⟨g,vs,htg⟩ fun μ2 a2 w2 dfd f2 x2 s2 d2 isd=>?_
     intro a' w' cv hst hsm
     obtain⟨μ3,i3,x3,hcv,hs3,hm3⟩:=hst
     show LeavesIn (FW none) 0 P fn a'.tmps _ a'.defers (.panicking [{ v:=cv,recovered:=false }]) w'
     rw[hsm.1,d2]
     refine leave_dfr (er:=ekeep (cellSlots sf.res) e2) hD hcall hbody n hres ⟨hp,i3,f2.gl.mono x3,fun t=>?_⟩ (x2.trans x3) (isd.mono f2.inv x3) hcd ⟨cv,rfl,hcv⟩ (by simp) (by rw[resOf_keep hcell];exact hv)
     rw[eget_ekeep_mem]
     split
     ·rename_i ht;rw[hsm.2 t ht];exact(f2.env.mono f2.inv x3) t
     ·exact .u _
    ·cases hr
   ·cases hr
  ·cases hr
 ·cases hr
end
end
section
open Go
theorem HE.keep' {O:Bs}{μ:Nat→Option Nat}{H:Hp}{N:Nat}{w w':World}{e:En}{t:Array Value} (hw:∀ (b:Nat) c e z,w.heap[b]? = some (.cells c e z)→w'.heap[b]? = w.heap[b]?) (h:HE O μ H N w e t):HE O μ H N w' e t:=fun k=>(h k).keep hw
theorem getD_fold (ps:List Tmp):∀ {vs:List V}{as:List Value}{e:En}{tmps:Array Value}{O:Bs}{μ:Nat→Option Nat}{H:Hp}{N:Nat}{w:World},vs.length=ps.length→as.length=ps.length→(∀ p∈ps,p<tmps.size)→HE O μ H N w e tmps →
 (∀ (j:Nat) v,vs[j]? = some v→∃ c,as[j]? = some c∧HV O μ H N w v c)→HE O μ H N w (putsE e ps vs) ((ps.zip as).foldl (fun tmps (p:Tmp×Value)=>tmps.setIfInBounds p.1 p.2) tmps)∧((ps.zip as).foldl (fun tmps (p:Tmp×Value)=>tmps.setIfInBounds p.1 p.2) tmps).size=tmps.size:=by
 induction ps with
 | nil =>
   intro vs as e tmps O μ H N w h1 h2 h3 h4 h5
   cases vs with
   | nil=>exact⟨h4,rfl⟩
   | cons _ _=>simp at h1
 | cons p ps ih =>
   intro vs as e tmps O μ H N w h1 h2 h3 h4 h5
   cases vs with
   | nil=>simp at h1
   | cons v vs =>
     cases as with
     | nil=>simp at h2
     | cons c as =>
       obtain⟨c',hc',hv⟩:=h5 0 v rfl
       simp at hc'; subst hc'
       have hput:HE O μ H N w (eset e p v) (tmps.setIfInBounds p c):=by
        have:=HE.put (act:={ tmps:=tmps,defers:=[] }) h4 (dst:=some p) (fun t ht=>by cases ht;exact h3 p (by simp)) hv
        exact this
       obtain⟨g1,g2⟩:=ih (vs:=vs) (as:=as) (e:=eset e p v) (tmps:=tmps.setIfInBounds p c) (by simpa using h1) (by simpa using h2) (fun q hq=>by simpa using h3 q (by simp[hq])) hput (fun j v hv=>h5 (j+1) v hv)
       exact⟨g1,by rw[List.zip_cons_cons,List.foldl_cons,g2];simp⟩
theorem callN_ok {P:Program}{S:Sp} (hS:SOk P S) (hmix:P.follows .mixedOrders=true):∀ n,CallOk P (callN S n)
 | 0=>⟨fun f args H r h=>by simp[callN] at h,fun o args H r h=>by simp[callN] at h⟩
 | n+1=>by
   have hrec:=callN_ok hS hmix n
   refine⟨?_,?_⟩
   ·intro f args H r hr X μ w cargs hp hi hg hargs
    simp only[callN] at hr
    split at hr
    ·rename_i x hx
     cases hr
     unfold orcOf at hx
     split at hx
     ·rename_i ds hds
      have:=allD_some hds
      subst this
      exact(hS.orc _ _ _ hx).2 X μ H w cargs hp hi hg hargs
     ·cases hx
    ·split at hr
     ·rename_i g hg'
      exact(hS.X _ _ hg').2 _ hrec (callN_body hS n) args H r hr X μ w cargs hp hi hg hargs
     ·split at hr
      ·cases hr
      ·rename_i sf hsf
       obtain⟨fn,hs,h1,h2,h3⟩:=hS.F _ _ hsf
       refine h2.elim (fun h2=>?_) (fun h2=>callFD_ok hS.D hrec (callN_body hS n) n h1 h2 hr hp hi hg hargs)
       obtain⟨c,hc,hbody,hres,hdf⟩:=trF_ok h2
       refine callsIn_wide.1 (callsIn_of_wp_marks (F:=Fence.wide) (n:=0) h1 hc trivial ?_)
       have hE:=(evC_ok hrec (callN_body hS n) hmix (hs:=hs) (nt:=fn.ntmps) n c hbody).1
       have hfr:Fr P X μ H w (enter args) { tmps:=cargs++Array.replicate (fn.ntmps-cargs.size) undef,defers:=[] }:=by
        refine⟨hp,hi,hg,fun t=>?_⟩
        rw[eget_enter]
        cases ht:args[t]? with
        | none=>exact .u _
        | some v =>
          have:=hargs.2 t v ht
          have hlt:t<cargs.size:=by rw[hargs.1];exact(List.getElem?_eq_some_iff.1 ht).1
          simpa[Array.getD_eq_getD_getElem?,Array.getElem?_append,hlt] using this
       have hnt:fn.ntmps≤(cargs++Array.replicate (fn.ntmps-cargs.size) undef).size:=by simp;omega
       have fin:∀ {e' H' v},resOf e' H' sf.res=some v→r=(.ret v,H')→∀ a' w',At X μ H w { tmps:=cargs++Array.replicate (fn.ntmps-cargs.size) undef,defers:=[] } e' H' a' w' →
        LeavesInM Fence.wide 0 P fn a'.tmps (Ends X μ H w r) a'.defers .returning w':=by
        rintro e' H' v hv rfl a' w' ⟨μ',q1,q2,q3,q4,q5⟩
        refine leave_marks (by simp) hi q1 q2 q5 fun w'' i'' x'' c''=>?_
        obtain⟨c,c1,c2⟩:=results_ok (e:=e') (a:=a') ⟨hp,i'',hg.mono x'',q3.keep' c''⟩ hres hv
        exact⟨c,c1,c,rfl,μ',i'',x'',c2⟩
       simp only[bodyOf,hdf] at hr
       unfold outOf at hr
       split at hr
       ·rename_i e' H' he
        split at hr
        ·rename_i v hv
         cases hr
         exact hE none (.inr rfl) X μ H w _ _ _ _ hfr hnt he fun a' w' hat=>fin hv rfl a' w' hat
        ·cases hr
       ·rename_i e' H' he
        split at hr
        ·rename_i v hv
         cases hr
         exact hE none (.inr rfl) X μ H w _ _ _ _ hfr hnt he fun a' w' hat=>fin hv rfl a' w' hat
        ·cases hr
       ·rename_i v e' H' he
        cases hr
        refine hE none (.inr rfl) X μ H w _ _ _ _ hfr hnt he fun a' w' c hs=>?_
        obtain⟨μ',q1,q2,q3,q4,q5⟩:=hs
        exact leave_marks (by simp) hi q1 q2 q5 fun w'' i'' x'' c''=>⟨c,rfl,μ',i'',x'',q3.keep c''⟩
       ·cases hr
   ·intro o args H r hr X μ w cargs l hp hi hg hargs hm
    simp only[callN,roundOf] at hr
    split at hr
    ·rename_i ps el asg body hgo
     split at hr
     ·rename_i hlen
      obtain⟨l',rec0,m1,hb,hlo,hel⟩:=hi.obj o _ hgo
      rw[hm] at m1;cases m1
      obtain⟨l1,l2,l3,hs,nt,t1,t2,nr1,nr2,hnt,hps⟩:=hlo
      have hsz:cargs.size=rec0.params.size:=by rw[hargs.1,hlen,← l3];simp
      refine⟨_,_,_,_,run_yield hb hsz,?_⟩
      have hfold:=getD_fold ps (vs:=args) (as:=cargs.toList) (e:=el) (tmps:=rec0.tmps) (O:=Own X μ H) (μ:=μ) (H:=H) (N:=H.length) (w:=w) hlen (by rw[Array.length_toList,hargs.1,hlen]) (fun p hp=>Nat.lt_of_lt_of_le (hps p hp) hnt) hel
       (fun j v hv=>by
        have:=hargs.2 j v hv
        have hlt:j<cargs.size:=by rw[hargs.1];exact(List.getElem?_eq_some_iff.1 hv).1
        refine⟨cargs[j],by simp[hlt],?_⟩
        simpa[Array.getD_eq_getD_getElem?,hlt] using this)
      have hzip:(rec0.params.zip cargs).foldl (fun tmps (p:Tmp×Value)=>tmps.setIfInBounds p.1 p.2) rec0.tmps=(ps.zip cargs.toList).foldl (fun tmps (p:Tmp×Value)=>tmps.setIfInBounds p.1 p.2) rec0.tmps:=by
       rw[← Array.foldl_toList,Array.toList_zip,l3]
      rw[← hzip] at hfold
      rw[hp] at t1 t2
      have hA:=(evC_ok hrec (callN_body hS n) hmix (hs:=hs) (nt:=nt) n rec0.assign t1).1
      have hB:=(evC_ok hrec (callN_body hS n) hmix (hs:=hs) (nt:=nt) n rec0.body t2).1
      refine roundIn_of_wpIn (F:=Fence.wide) trivial ?_
      have hfr:Fr P X μ H w (putsE el ps args) { tmps:=(rec0.params.zip cargs).foldl (fun tmps (p:Tmp×Value)=>tmps.setIfInBounds p.1 p.2) rec0.tmps,defers:=[] }:=⟨hp,hi,hg,hfold.1⟩
      have hng:¬ isGr H o:=by unfold isGr;rw[hgo];exact id
      split at hr
      ·rename_i e2 h2 he2
       split at hr
       ·rename_i h3 hset3
        refine hA (some l) (.inl nr1) X μ H w _ _ _ _ hfr (by rw[hfold.2];exact hnt) he2 fun a' w' hat=>?_
        obtain⟨μ2,q1,q2,q3,q4,q5⟩:=hat
        have hm2:μ2 o=some l:=(q2.mu o (hget_lt hgo) hng).1.trans hm
        unfold setSt at hset3
        split at hset3
        ·rename_i ps2 el2 asg2 body2 st2 hg2
         split at hset3
         ·rename_i hst2
          cases hset3
          subst hst2
          obtain⟨l',rec2,m2,hb2,hlo2,hel2⟩:=q1.obj o _ hg2
          rw[hm2] at m2;cases m2
          obtain⟨s1,s2,s3,srest⟩:=hlo2
          obtain⟨i3,x3⟩:=loop_turn (st':=1) (pd':=none) (r':={ rec2 with state:=.busy }) q1 hg2 hm2 hb2 ⟨rfl,s2,s3,srest⟩ rfl
          refine⟨_,run_beginRound hb2 s1,?_⟩
          have x03:=q2.trans x3
          have hfr3:Fr P X μ2 (hset h2 o (.loop ps2 el2 asg2 body2 1 none)) (w'.putObj l (.loop { rec2 with state:=.busy })) e2 a':=⟨hp,i3,hg.mono x03,by have:=q3.mono q1 x3;exact this⟩
          have hend:∀ {e4 h4 h5 a4 w4}{to_:Nat}{pd:Option Jp}{jump:Option Code},At X μ2 (hset h2 o (.loop ps2 el2 asg2 body2 1 none)) (w'.putObj l (.loop { rec2 with state:=.busy })) a' e4 h4 a4 w4→setSt h4 o 1 to_ pd=some h5 →
           jump=pd.map jpCode→(if jump.isNone then LoopState.ready else LoopState.done)=stOf to_ →
           ∃ v w5,(Instr.endRound l jump).run P w4=.ok v w5∧Ends X μ H w (.ret (.d (.b jump.isNone)),h5) (.returned v) w5:=by
           intro e4 h4 h5 a4 w4 to_ pd jump hat4 hset5 hj hst
           obtain⟨μ4,p1,p2,p3,p4,p5⟩:=hat4
           have hgr3:hget (hset h2 o (.loop ps2 el2 asg2 body2 1 none)) o=some (.loop ps2 el2 asg2 body2 1 none):=hget_hset_self _ (hget_lt hg2)
           have hm4:μ4 o=some l:=(p2.mu o (by rw[hset_length];exact hget_lt hg2) (by unfold isGr;rw[hgr3];exact id)).1.trans hm2
           unfold setSt at hset5
           split at hset5
           ·rename_i ps4 el4 asg4 body4 st4 hg4
            split at hset5
            ·rename_i hst4
             cases hset5
             obtain⟨l',rec4,m4,hb4,hlo4,hel4⟩:=p1.obj o _ hg4
             rw[hm4] at m4;cases m4
             obtain⟨u1,u2,u3,urest⟩:=hlo4
             obtain⟨i5,x5⟩:=loop_turn (st':=to_) (pd':=pd) (r':={ rec4 with state:=if jump.isNone then .ready else .done,pending:=jump }) p1 hg4 hm4 hb4 ⟨hst,hj,u3,urest⟩ rfl
             exact⟨_,_,run_endRound jump hb4,_,rfl,μ4,i5,(x03.trans p2).trans x5,.d _ _ (.b _)⟩
            ·cases hset5
           ·cases hset5
          split at hr
          ·rename_i e4 h4 he4
           split at hr
           ·rename_i h5 hset5
            cases hr
            refine hB (some l) (.inl nr2) X μ2 _ _ _ _ _ _ hfr3 (by rw[q4];show nt≤((rec0.params.zip cargs).foldl _ rec0.tmps).size;rw[hfold.2];exact hnt) he4 fun a4 w4 hat4=>?_
            exact hend (jump:=none) hat4 hset5 rfl rfl
           ·cases hr
          ·cases hr
          ·rename_i x e4 h4 hnn hnp he4
           split at hr
           ·rename_i h5 hset5
            cases hr
            refine hB (some l) (.inl nr2) X μ2 _ _ _ _ _ _ hfr3 (by rw[q4];show nt≤((rec0.params.zip cargs).foldl _ rec0.tmps).size;rw[hfold.2];exact hnt) he4 ?_
            cases x with
            | nor=>exact absurd rfl (hnn)
            | pn v=>exact absurd rfl (hnp v)
            | rt=>exact fun a4 w4 hat4=>hend (jump:=some .ret) hat4 hset5 rfl rfl
            | ex id=>exact fun a4 w4 hat4=>hend (jump:=some (.exit id)) hat4 hset5 rfl rfl
            | go t=>exact fun a4 w4 hat4=>hend (jump:=some (.goto t)) hat4 hset5 rfl rfl
           ·cases hr
          ·cases hr
         ·cases hset3
        ·cases hset3
       ·cases hr
      ·cases hr
     ·cases hr
    ·cases hr
end
end Go.Proofs.YtmiioebapckcoaaGreatDoor
