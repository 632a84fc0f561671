/- Part 6 of a proof: the small semantics, its soundness, the functions of the program in it, and the law. -/
import Derived.Test.YtmiioebapckcoaaGreatDoorJe
set_option linter.unusedVariables false
set_option linter.unusedSimpArgs false
namespace Go.Proofs.YtmiioebapckcoaaGreatDoor
section
open Go
def Le {α:Type} (x y:Option α):Prop:=∀ r,x=some r→y=some r
theorem Le.refl {α:Type} (x:Option α):Le x x:=fun _ h=>h
def CallLe (c c':CallF):Prop:=∀ f a h,Le (c f a h) (c' f a h)
section
variable {c c':CallF} (hc:CallLe c c')
include hc
theorem callV_mono {keep:Bool}{f:V}{args:List V}{h:Hp}:Le (callV c keep f args h) (callV c' keep f args h):=by
 intro r hr
 unfold callV at hr ⊢
 split at hr
 ·split at hr
  ·rename_i r' h1;rw[hc _ _ _ _ h1];exact hr
  ·cases hr
 ·split at hr
  ·rename_i r' h1;rw[hc _ _ _ _ h1];exact hr
  ·cases hr
 ·split at hr
  ·rename_i r' h1;rw[hc _ _ _ _ h1];exact hr
  ·cases hr
 ·cases hr
theorem callR_mono {f:V}{args:List V}{h:Hp}:Le (callR c f args h) (callR c' f args h):=by
 intro r hr
 unfold callR at hr ⊢
 split at hr
 ·cases hr
 ·exact callV_mono hc r hr
theorem evOp_mono {op:SOp}{e:En}{h:Hp}:Le (evOp c op e h) (evOp c' op e h):=by
 intro r hr
 cases op
 case call keep f as=>exact callV_mono hc r hr
 all_goals exact hr
theorem evG_mono {o:SO}{e:En}{h:Hp}:Le (evG c o e h) (evG c' o e h):=by
 intro r hr
 unfold evG at hr ⊢
 split at hr
 ·exact evOp_mono hc r hr
 ·exact hr
 ·cases hr
theorem evOps_mono:∀ {ops:List SO}{e:En}{h:Hp},Le (evOps c ops e h) (evOps c' ops e h)
 | [],e,h=>Le.refl _
 | o::ops,e,h=>by
   intro r hr
   rw[evOps] at hr ⊢
   split at hr
   ·rename_i v h' h1;rw[evG_mono hc _ h1];exact evOps_mono r hr
   ·rename_i v h' h1;rw[evG_mono hc _ h1];exact hr
   ·cases hr
theorem Stays_mono {again:List Nat}{past:List DI}{e:En}{h:Hp} (hs:Stays c again past e h):Stays c' again past e h:=fun p h1 h2=>by
 obtain⟨t,a,b⟩:=hs p h1 h2
 exact⟨t,a,evG_mono hc _ b⟩
theorem evD_mono {keep:List Nat}:∀ {ds past:List DI}{e:En}{h:Hp},Le (evD c keep past ds e h) (evD c' keep past ds e h)
 | [],past,e,h=>Le.refl _
 | d::ds,past,e,h=>by
   intro r hr
   rw[evD] at hr ⊢
   split at hr
   ·rename_i v h' h1
    rw[evG_mono hc _ h1]
    split at hr
    ·rename_i hs
     have hs':=hs.imp id (Stays_mono hc)
     dsimp only
     rw[if_pos hs'];exact evD_mono r hr
    ·cases hr
   ·rename_i v h' h1;rw[evG_mono hc _ h1];exact hr
   ·cases hr
end
theorem iter_mono {f f':En→Hp→Option (Ex×En×Hp)} (hf:∀ e h,Le (f e h) (f' e h)):∀ {k k':Nat},k≤k'→∀ {e:En}{h:Hp},Le (iter f k e h) (iter f' k' e h)
 | 0,_,_,e,h=>by intro r hr;simp[iter] at hr
 | k+1,0,hk,_,_=>by omega
 | k+1,k'+1,hk,e,h=>by
   intro r hr
   rw[iter] at hr ⊢
   split at hr
   ·rename_i e' h' h1;rw[hf _ _ _ h1];exact iter_mono hf (by omega) r hr
   ·rename_i hn
    rw[hf _ _ _ hr]
    obtain⟨x,e',h'⟩:=r
    cases x with
    | nor=>exact absurd hr (hn e' h')
    | _=>rfl
theorem jumps_mono {l:Nat}{f f':En→Hp→Option (Ex×En×Hp)} (hf:∀ e h,Le (f e h) (f' e h)):∀ {k k':Nat},k≤k'→∀ {e:En}{h:Hp},Le (jumps l f k e h) (jumps l f' k' e h)
 | 0,_,_,e,h=>by intro r hr;simp[jumps] at hr
 | k+1,0,hk,_,_=>by omega
 | k+1,k'+1,hk,e,h=>by
   intro r hr
   rw[jumps] at hr ⊢
   split at hr
   ·rename_i l' e' h' h1
    rw[hf _ _ _ h1]
    dsimp only
    split at hr
    ·rename_i hl;rw[if_pos hl];exact jumps_mono hf (by omega) r hr
    ·cases hr
   ·rename_i hn
    rw[hf _ _ _ hr]
    obtain⟨x,e',h'⟩:=r
    cases x with
    | go l'=>exact absurd hr (hn l' e' h')
    | _=>rfl
def thenR (r:Option (Ex×En×Hp)) (k:En→Hp→Option (Ex×En×Hp)):Option (Ex×En×Hp):=match r with
 | some (.nor,e,h)=>k e h
 | r=>r
def keepR (l:List Nat) (r:Option (Ex×En×Hp)):Option (Ex×En×Hp):=match r with
 | some (.nor,e,h)=>some (.nor,ekeep l e,h)
 | r=>r
def blockR (id:Nat) (r:Option (Ex×En×Hp)):Option (Ex×En×Hp):=match r with
 | some (.ex id',e,h)=>if id'=id then some (.nor,e,h) else some (.ex id',e,h)
 | r=>r
def scopeR (k:Nat→En→Hp→Option (Ex×En×Hp)) (r:Option (Ex×En×Hp)):Option (Ex×En×Hp):=match r with
 | some (.go l,e,h)=>k l e h
 | r=>r
theorem thenR_mono {r r':Option (Ex×En×Hp)}{k k':En→Hp→Option (Ex×En×Hp)} (hr:Le r r') (hk:∀ e h,Le (k e h) (k' e h)):Le (thenR r k) (thenR r' k'):=by
 intro x hx
 unfold thenR at hx
 split at hx
 ·rename_i e h;rw[hr _ rfl];exact hk _ _ _ hx
 ·rename_i hn;subst hx;rw[hr _ rfl]
  obtain⟨y,e',h'⟩:=x
  cases y with
  | nor=>exact absurd rfl (hn e' h')
  | _=>rfl
theorem keepR_mono {l:List Nat}{r r':Option (Ex×En×Hp)} (hr:Le r r'):Le (keepR l r) (keepR l r'):=by
 intro x hx
 cases r with
 | none=>simp[keepR] at hx
 | some r=>rw[hr _ rfl];exact hx
theorem blockR_mono {l:Nat}{r r':Option (Ex×En×Hp)} (hr:Le r r'):Le (blockR l r) (blockR l r'):=by
 intro x hx
 cases r with
 | none=>simp[blockR] at hx
 | some r=>rw[hr _ rfl];exact hx
theorem scopeR_mono {r r':Option (Ex×En×Hp)}{k k':Nat→En→Hp→Option (Ex×En×Hp)} (hr:Le r r') (hk:∀ l e h,Le (k l e h) (k' l e h)):Le (scopeR k r) (scopeR k' r'):=by
 intro x hx
 cases r with
 | none=>simp[scopeR] at hx
 | some r =>
   rw[hr _ rfl]
   unfold scopeR at hx ⊢
   split at hx
   ·rename_i l e h heq;cases heq;exact hk _ _ _ _ hx
   ·rename_i hn;cases hx
    obtain⟨y,e',h'⟩:=x
    cases y with
    | go l=>exact absurd rfl (hn l e' h')
    | _=>rfl
section
variable (call:CallF) (n:Nat)
theorem evC_skip (st:Option Nat) (e:En) (h:Hp):evC call n .skip st e h=some (.nor,e,h):=rfl
theorem evC_reg (ops:List SO) (keep:List Nat) (st:Option Nat) (e:En) (h:Hp):evC call n (.reg ops keep) st e h=keepR keep (evOps call ops e h):=by
 rw[evC]
 generalize evOps call ops e h=r
 rcases r with _ | ⟨x,_,_⟩
 ·rfl
 ·cases x<;>rfl
theorem evC_draw (ds:List DI) (keep:List Nat) (st:Option Nat) (e:En) (h:Hp):evC call n (.draw ds keep) st e h=evD call keep [] ds (kills ds e) h:=rfl
theorem evC_seq (a b:C) (e:En) (h:Hp):evC call n (.seq a b) none e h=thenR (evC call n a none e h) (evC call n b none):=by
 rw[evC]
 generalize evC call n a none e h=r
 rcases r with _ | ⟨x,_,_⟩
 ·rfl
 ·cases x<;>rfl
theorem evC_seqL (a b:C) (l:Nat) (e:En) (h:Hp):evC call n (.seq a b) (some l) e h=if hasL a l=true then thenR (evC call n a (some l) e h) (evC call n b none) else evC call n b (some l) e h:=by
 rw[evC]
 split
 ·generalize evC call n a (some l) e h=r
  rcases r with _ | ⟨x,_,_⟩
  ·rfl
  ·cases x<;>rfl
 ·rfl
theorem evC_cond (x:Ar) (a b:C) (st:Option Nat) (e:En) (h:Hp):evC call n (.cond x a b) st e h=match aval e x with
 | .d (.b t)=>if t=true then evC call n a none e h else evC call n b none e h
 | _=>none:=rfl
theorem evC_block (id:Nat) (a:C) (st:Option Nat) (e:En) (h:Hp):evC call n (.block id a) st e h=blockR id (evC call n a none e h):=by
 rw[evC]
 generalize evC call n a none e h=r
 rcases r with _ | ⟨x,_,_⟩
 ·rfl
 ·cases x<;>rfl
theorem evC_loop (a:C) (st:Option Nat) (e:En) (h:Hp):evC call n (.loop a) st e h=iter (evC call n a none) n e h:=rfl
theorem evC_scope (a:C) (st:Option Nat) (e:En) (h:Hp):evC call n (.scope a) st e h=scopeR (fun l e' h'=>if hasL a l=true then jumps l (evC call n a (some l)) n e' h' else none) (evC call n a none e h):=by
 rw[evC]
 generalize evC call n a none e h=r
 rcases r with _ | ⟨x,_,_⟩
 ·rfl
 ·cases x<;>rfl
theorem evC_range (f:Ar) (ps:List Nat) (a b:C) (st:Option Nat) (e:En) (h:Hp):evC call n (.range f ps a b) st e h=rangeEnd e h (callR call (aval e f) [.yl h.length] (.loop ps e a b 0 none::h)):=rfl
end
theorem rangeEnd_mono {e:En}{h:Hp}{r r':Option (Re×Hp)} (hr:Le r r'):Le (rangeEnd e h r) (rangeEnd e h r'):=by
 intro x hx
 cases r with
 | none=>simp[rangeEnd] at hx
 | some r=>rw[hr _ rfl];exact hx
theorem evC_mono {c c':CallF} (hc:CallLe c c') {n n':Nat} (hn:n≤n'):∀ (x:C) (st:Option Nat) (e:En) (h:Hp),Le (evC c n x st e h) (evC c' n' x st e h)
 | .skip,st,e,h=>Le.refl _
 | .reg ops keep,st,e,h=>by rw[evC_reg,evC_reg];exact keepR_mono (evOps_mono hc)
 | .draw ds keep,st,e,h=>by rw[evC_draw,evC_draw];exact evD_mono hc
 | .seq a b,none,e,h=>by rw[evC_seq,evC_seq];exact thenR_mono (evC_mono hc hn a none e h) (fun e h=>evC_mono hc hn b none e h)
 | .seq a b,some l,e,h=>by
   rw[evC_seqL,evC_seqL]
   split
   ·exact thenR_mono (evC_mono hc hn a (some l) e h) (fun e h=>evC_mono hc hn b none e h)
   ·exact evC_mono hc hn b (some l) e h
 | .cond x a b,st,e,h=>by
   rw[evC_cond,evC_cond]
   intro r hr
   split at hr
   ·split at hr
    ·rename_i ht;rw[if_pos ht];exact evC_mono hc hn a none e h r hr
    ·rename_i ht;rw[if_neg ht];exact evC_mono hc hn b none e h r hr
   ·cases hr
 | .block id a,st,e,h=>by rw[evC_block,evC_block];exact blockR_mono (evC_mono hc hn a none e h)
 | .loop a,st,e,h=>by rw[evC_loop,evC_loop];exact iter_mono (fun e h=>evC_mono hc hn a none e h) hn
 | .exit id,st,e,h=>Le.refl _
 | .ret,st,e,h=>Le.refl _
 | .scope a,st,e,h=>by
   rw[evC_scope,evC_scope]
   refine scopeR_mono (evC_mono hc hn a none e h) fun l e' h'=>?_
   split
   ·exact jumps_mono (fun e h=>evC_mono hc hn a (some l) e h) hn
   ·exact Le.refl _
 | .label _,st,e,h=>Le.refl _
 | .goto l,st,e,h=>Le.refl _
 | .range f ps a b,st,e,h=>by rw[evC_range,evC_range];exact rangeEnd_mono (callR_mono hc)
section
variable {α:Type}
def Up2 (x:Nat→Option α):Prop:=∀ n n',n≤n'→Le (x n) (x n')
open Classical in
noncomputable def lim (x:Nat→Option α):Option α:=if h:∃ n r,x n=some r then x h.choose else none
theorem lim_some {x:Nat→Option α} (hx:Up2 x) {r:α}:lim x=some r↔∃ n,x n=some r:=by
 unfold lim
 constructor
 ·intro h
  split at h
  ·exact⟨_,h⟩
  ·cases h
 ·rintro⟨n,hn⟩
  have hex:∃ n r,x n=some r:=⟨n,r,hn⟩
  rw[dif_pos hex]
  obtain⟨r',hr'⟩:=hex.choose_spec
  have h1:=hx _ _ (Nat.le_max_left n hex.choose) _ hn
  have h2:=hx _ _ (Nat.le_max_right n hex.choose) _ hr'
  rw[h1] at h2;cases h2;exact hr'
def Comes (x:Option α) (y:Nat→Option α):Prop:=∀ r,x=some r→∃ n,∀ n',n≤n'→y n'=some r
theorem Comes.const (x:Option α):Comes x fun _=>x:=fun _ h=>⟨0,fun _ _=>h⟩
theorem Comes.lim {x:Nat→Option α} (hx:Up2 x):Comes (lim x) x:=fun r h=>by
 obtain⟨n,hn⟩:=(lim_some hx).1 h
 exact⟨n,fun n' h'=>hx _ _ h' _ hn⟩
end
structure Near (c:Nat→CallF) (call:CallF):Prop where
 up:∀ n n',n≤n'→CallLe (c n) (c n')
 le:∀ n,CallLe (c n) call
 comes:∀ f a h,Comes (call f a h) fun n=>c n f a h
section
variable {c:Nat→CallF}{call:CallF} (hc:Near c call)
include hc
theorem callV_comes {keep:Bool}{f:V}{args:List V}{h:Hp}:Comes (callV call keep f args h) fun n=>callV (c n) keep f args h:=by
 intro r hr
 unfold callV at hr ⊢
 split at hr
 ·split at hr
  ·rename_i r' h1
   obtain⟨n,hn⟩:=hc.comes _ _ _ _ h1
   exact⟨n,fun n' h'=>by simp only[hn n' h'];exact hr⟩
  ·cases hr
 ·split at hr
  ·rename_i r' h1
   obtain⟨n,hn⟩:=hc.comes _ _ _ _ h1
   exact⟨n,fun n' h'=>by simp only[hn n' h'];exact hr⟩
  ·cases hr
 ·split at hr
  ·rename_i r' h1
   obtain⟨n,hn⟩:=hc.comes _ _ _ _ h1
   exact⟨n,fun n' h'=>by simp only[hn n' h'];exact hr⟩
  ·cases hr
 ·cases hr
theorem callR_comes {f:V}{args:List V}{h:Hp}:Comes (callR call f args h) fun n=>callR (c n) f args h:=by
 intro r hr
 unfold callR at hr ⊢
 split at hr
 ·cases hr
 ·exact callV_comes hc r hr
theorem evOp_comes {op:SOp}{e:En}{h:Hp}:Comes (evOp call op e h) fun n=>evOp (c n) op e h:=by
 cases op
 case call keep f as=>exact callV_comes hc
 all_goals exact Comes.const _
theorem evG_comes {o:SO}{e:En}{h:Hp}:Comes (evG call o e h) fun n=>evG (c n) o e h:=by
 intro r hr
 unfold evG at hr ⊢
 split at hr
 ·exact evOp_comes hc r hr
 ·exact⟨0,fun _ _=>hr⟩
 ·cases hr
theorem evOps_comes:∀ {ops:List SO}{e:En}{h:Hp},Comes (evOps call ops e h) fun n=>evOps (c n) ops e h
 | [],e,h=>Comes.const _
 | o::ops,e,h=>by
   intro r hr
   rw[evOps] at hr
   split at hr
   ·rename_i v h' h1
    obtain⟨n1,g1⟩:=evG_comes hc _ h1
    obtain⟨n2,g2⟩:=evOps_comes r hr
    exact⟨max n1 n2,fun n' h'=>by simp only[evOps,g1 n' (by omega)];exact g2 n' (by omega)⟩
   ·rename_i v h' h1
    obtain⟨n1,g1⟩:=evG_comes hc _ h1
    exact⟨n1,fun n' h'=>by simp only[evOps,g1 n' (by omega)];exact hr⟩
   ·cases hr
theorem Stays_comes {again:List Nat}{e:En}{h:Hp}:∀ {past:List DI},Stays call again past e h→∃ n,∀ n',n≤n'→Stays (c n') again past e h
 | [],_=>⟨0,fun _ _ p hp=>by cases hp⟩
 | p::past,hs=>by
   obtain⟨n1,g1⟩:=Stays_comes (past:=past) fun q h1 h2=>hs q (by simp[h1]) h2
   by_cases hp:p.idx∈again
   ·obtain⟨t,ht,hev⟩:=hs p (by simp) hp
    obtain⟨n2,g2⟩:=evG_comes hc _ hev
    refine⟨max n1 n2,fun n' h' q h1 h2=>?_⟩
    rcases List.mem_cons.1 h1 with h1 | h1
    ·subst h1;exact⟨t,ht,g2 n' (by omega)⟩
    ·exact g1 n' (by omega) q h1 h2
   ·refine⟨n1,fun n' h' q h1 h2=>?_⟩
    rcases List.mem_cons.1 h1 with h1 | h1
    ·subst h1;exact absurd h2 hp
    ·exact g1 n' h' q h1 h2
theorem evD_comes {keep:List Nat}:∀ {ds past:List DI}{e:En}{h:Hp},Comes (evD call keep past ds e h) fun n=>evD (c n) keep past ds e h
 | [],past,e,h=>Comes.const _
 | d::ds,past,e,h=>by
   intro r hr
   rw[evD] at hr
   split at hr
   ·rename_i v h' h1
    obtain⟨n1,g1⟩:=evG_comes hc _ h1
    split at hr
    ·rename_i hs
     obtain⟨n2,g2⟩:=evD_comes r hr
     rcases hs with hs | hs
     ·exact⟨max n1 n2,fun n' h'=>by simp only[evD,g1 n' (by omega)];rw[if_pos (.inl hs)];exact g2 n' (by omega)⟩
     ·obtain⟨n3,g3⟩:=Stays_comes hc hs
      exact⟨max n1 (max n2 n3),fun n' h'=>by simp only[evD,g1 n' (by omega)];rw[if_pos (.inr (g3 n' (by omega)))];exact g2 n' (by omega)⟩
    ·cases hr
   ·rename_i v h' h1
    obtain⟨n1,g1⟩:=evG_comes hc _ h1
    exact⟨n1,fun n' h'=>by simp only[evD,g1 n' (by omega)];exact hr⟩
   ·cases hr
end
theorem thenR_comes {r:Option (Ex×En×Hp)}{r':Nat→Option (Ex×En×Hp)}{k:En→Hp→Option (Ex×En×Hp)}{k':Nat→En→Hp→Option (Ex×En×Hp)} (hr:Comes r r') (hk:∀ e h,Comes (k e h) fun n=>k' n e h):Comes (thenR r k) fun n=>thenR (r' n) (k' n):=by
 intro x hx
 cases r with
 | none=>simp[thenR] at hx
 | some r =>
   obtain⟨n1,g1⟩:=hr _ rfl
   obtain⟨y,e,h⟩:=r
   cases y
   case nor =>
    obtain⟨n2,g2⟩:=hk e h x hx
    exact⟨max n1 n2,fun n' h'=>by simp only[g1 n' (by omega),thenR];exact g2 n' (by omega)⟩
   all_goals exact⟨n1,fun n' h'=>by simp only[g1 n' (by omega)];exact hx⟩
theorem iter_comes {f:En→Hp→Option (Ex×En×Hp)}{f':Nat→En→Hp→Option (Ex×En×Hp)} (hf:∀ e h,Comes (f e h) fun n=>f' n e h) (hup:∀ n n' e h,n≤n'→Le (f' n e h) (f' n' e h)):∀ (k:Nat) {e:En}{h:Hp},Comes (iter f k e h) fun n=>iter (f' n) n e h
 | 0,e,h=>by intro r hr;simp[iter] at hr
 | k+1,e,h=>by
   intro r hr
   rw[iter] at hr
   split at hr
   ·rename_i e' h' h1
    obtain⟨n1,g1⟩:=hf _ _ _ h1
    obtain⟨n2,g2⟩:=iter_comes hf hup k r hr
    refine⟨max n1 n2+1,fun n' h'=>?_⟩
    obtain⟨m,rfl⟩:∃ m,n'=m+1:=⟨n' - 1,by omega⟩
    show iter (f' (m+1)) (m+1) e h=some r
    have g1':=g1 (m+1) (by omega)
    dsimp only at g1'
    rw[iter,g1']
    exact iter_mono (fun e h=>hup m (m+1) e h (by omega)) (Nat.le_refl m) _ (g2 m (by omega))
   ·rename_i hn
    obtain⟨n1,g1⟩:=hf _ _ _ hr
    refine⟨n1+1,fun n' h'=>?_⟩
    obtain⟨m,rfl⟩:∃ m,n'=m+1:=⟨n' - 1,by omega⟩
    show iter (f' (m+1)) (m+1) e h=some r
    have g1':=g1 (m+1) (by omega)
    dsimp only at g1'
    rw[iter,g1']
    obtain⟨x,e',h'⟩:=r
    cases x with
    | nor=>exact absurd hr (hn e' h')
    | _=>rfl
theorem jumps_comes {l:Nat}{f:En→Hp→Option (Ex×En×Hp)}{f':Nat→En→Hp→Option (Ex×En×Hp)} (hf:∀ e h,Comes (f e h) fun n=>f' n e h) (hup:∀ n n' e h,n≤n'→Le (f' n e h) (f' n' e h)):∀ (k:Nat) {e:En}{h:Hp},Comes (jumps l f k e h) fun n=>jumps l (f' n) n e h
 | 0,e,h=>by intro r hr;simp[jumps] at hr
 | k+1,e,h=>by
   intro r hr
   rw[jumps] at hr
   split at hr
   ·rename_i l' e' h' h1
    obtain⟨n1,g1⟩:=hf _ _ _ h1
    split at hr
    ·rename_i hl
     obtain⟨n2,g2⟩:=jumps_comes hf hup k r hr
     refine⟨max n1 n2+1,fun n' h'=>?_⟩
     obtain⟨m,rfl⟩:∃ m,n'=m+1:=⟨n' - 1,by omega⟩
     show jumps l (f' (m+1)) (m+1) e h=some r
     have g1':=g1 (m+1) (by omega)
     dsimp only at g1'
     rw[jumps,g1']
     dsimp only
     rw[if_pos hl]
     exact jumps_mono (fun e h=>hup m (m+1) e h (by omega)) (Nat.le_refl m) _ (g2 m (by omega))
    ·cases hr
   ·rename_i hn
    obtain⟨n1,g1⟩:=hf _ _ _ hr
    refine⟨n1+1,fun n' h'=>?_⟩
    obtain⟨m,rfl⟩:∃ m,n'=m+1:=⟨n' - 1,by omega⟩
    show jumps l (f' (m+1)) (m+1) e h=some r
    have g1':=g1 (m+1) (by omega)
    dsimp only at g1'
    rw[jumps,g1']
    obtain⟨x,e',h'⟩:=r
    cases x with
    | go l'=>exact absurd hr (hn l' e' h')
    | _=>rfl
theorem evC_comes {c:Nat→CallF}{call:CallF} (hc:Near c call) (n:Nat):∀ (x:C) (st:Option Nat) (e:En) (h:Hp),Comes (evC call n x st e h) fun m=>evC (c m) m x st e h
 | .skip,st,e,h=>Comes.const _
 | .reg ops keep,st,e,h=>by
   intro r hr
   rw[evC_reg] at hr
   cases ho:evOps call ops e h with
   | none=>rw[ho] at hr;simp[keepR] at hr
   | some r' =>
     obtain⟨m,hm⟩:=evOps_comes hc _ ho
     exact⟨m,fun m' h'=>by simp only[evC_reg,hm m' h'];rw[ho] at hr;exact hr⟩
 | .draw ds keep,st,e,h=>by
   intro r hr
   rw[evC_draw] at hr
   obtain⟨m,hm⟩:=evD_comes hc _ hr
   exact⟨m,fun m' h'=>by simp only[evC_draw];exact hm m' h'⟩
 | .seq a b,none,e,h=>by
   have:=thenR_comes (evC_comes hc n a none e h) (fun e h=>evC_comes hc n b none e h)
   intro r hr
   rw[evC_seq] at hr
   obtain⟨m,hm⟩:=this r hr
   exact⟨m,fun m' h'=>by simp only[evC_seq];exact hm m' h'⟩
 | .seq a b,some l,e,h=>by
   intro r hr
   rw[evC_seqL] at hr
   by_cases hl:hasL a l=true
   ·rw[if_pos hl] at hr
    obtain⟨m,hm⟩:=thenR_comes (evC_comes hc n a (some l) e h) (fun e h=>evC_comes hc n b none e h) r hr
    exact⟨m,fun m' h'=>by simp only[evC_seqL];rw[if_pos hl];exact hm m' h'⟩
   ·rw[if_neg hl] at hr
    obtain⟨m,hm⟩:=evC_comes hc n b (some l) e h r hr
    exact⟨m,fun m' h'=>by simp only[evC_seqL];rw[if_neg hl];exact hm m' h'⟩
 | .cond x a b,st,e,h=>by
   intro r hr
   rw[evC_cond] at hr
   split at hr
   ·rename_i t ht
    split at hr
    ·rename_i hb
     obtain⟨m,hm⟩:=evC_comes hc n a none e h r hr
     exact⟨m,fun m' h'=>by simp only[evC_cond,ht];rw[if_pos hb];exact hm m' h'⟩
    ·rename_i hb
     obtain⟨m,hm⟩:=evC_comes hc n b none e h r hr
     exact⟨m,fun m' h'=>by simp only[evC_cond,ht];rw[if_neg hb];exact hm m' h'⟩
   ·cases hr
 | .block id a,st,e,h=>by
   intro r hr
   rw[evC_block] at hr
   cases ho:evC call n a none e h with
   | none=>rw[ho] at hr;simp[blockR] at hr
   | some r' =>
     obtain⟨m,hm⟩:=evC_comes hc n a none e h _ ho
     exact⟨m,fun m' h'=>by simp only[evC_block,hm m' h'];rw[ho] at hr;exact hr⟩
 | .loop a,st,e,h=>by
   intro r hr
   rw[evC_loop] at hr
   obtain⟨m,hm⟩:=iter_comes (fun e h=>evC_comes hc n a none e h) (fun n n' e h hn=>evC_mono (hc.up n n' hn) hn a none e h) n r hr
   exact⟨m,fun m' h'=>by simp only[evC_loop];exact hm m' h'⟩
 | .exit id,st,e,h=>Comes.const _
 | .ret,st,e,h=>Comes.const _
 | .scope a,st,e,h=>by
   intro r hr
   rw[evC_scope] at hr
   cases ho:evC call n a none e h with
   | none=>rw[ho] at hr;simp[scopeR] at hr
   | some r' =>
     obtain⟨m1,hm1⟩:=evC_comes hc n a none e h _ ho
     rw[ho] at hr
     obtain⟨x,e',h'⟩:=r'
     cases x
     case go l =>
      simp only[scopeR] at hr
      split at hr
      ·rename_i hl
       obtain⟨m2,hm2⟩:=jumps_comes (fun e h=>evC_comes hc n a (some l) e h) (fun n n' e h hn=>evC_mono (hc.up n n' hn) hn a (some l) e h) n r hr
       exact⟨max m1 m2,fun m' h'=>by simp only[evC_scope,hm1 m' (by omega),scopeR];rw[if_pos hl];exact hm2 m' (by omega)⟩
      ·cases hr
     all_goals exact⟨m1,fun m' h'=>by simp only[evC_scope,hm1 m' h'];exact hr⟩
 | .label _,st,e,h=>Comes.const _
 | .goto l,st,e,h=>Comes.const _
 | .range f ps a b,st,e,h=>by
   intro r hr
   rw[evC_range] at hr
   cases ho:callR call (aval e f) [.yl h.length] (.loop ps e a b 0 none::h) with
   | none=>rw[ho] at hr;simp[rangeEnd] at hr
   | some r' =>
     obtain⟨m,hm⟩:=callR_comes hc _ ho
     refine⟨m,fun m' h'=>?_⟩
     show evC (c m') m' (.range f ps a b) st e h=some r
     have hm':=hm m' h'
     dsimp only at hm'
     rw[evC_range,hm']
     rw[ho] at hr;exact hr
structure XOk (S:Sp):Prop where
 mono:∀ f g,S.X f=some g→∀ c c',CallLe c c'→∀ a h,Le (g c a h) (g c' a h)
 comes:∀ f g,S.X f=some g→∀ c call,Near c call→∀ a h,Comes (g call a h) fun n=>g (c n) a h
theorem outOf_mono {res:List RV}{r r':Option (Ex×En×Hp)} (hr:Le r r'):Le (outOf res r) (outOf res r'):=by
 intro x hx
 cases r with
 | none=>simp[outOf] at hx
 | some r=>rw[hr _ rfl];exact hx
theorem retOf_mono {e:En}{res:List RV}{x x':Option Hp} (h:Le x x'):Le (retOf e res x) (retOf e res x'):=by
 intro r hr
 cases x with
 | none=>simp[retOf] at hr
 | some y=>rw[h _ rfl];exact hr
section
variable {S:Sp}{c c':CallF}{ev ev':C→En→Hp→Option (Ex×En×Hp)} (hc:CallLe c c') (hev:∀ x e h,Le (ev x e h) (ev' x e h))
include hc hev
theorem runD_mono {g:FuncId}{args:List V}{pv:Option V}{h:Hp}:Le (runD S c ev g args pv h) (runD S c' ev' g args pv h):=by
 intro r hr
 unfold runD at hr ⊢
 split at hr
 ·split at hr
  ·rename_i e1 h1 ho
   rw[evOps_mono hc _ ho]
   cases hb:ev _ _ h1 with
   | none=>rw[hb] at hr;simp at hr
   | some rb=>dsimp only;rw[hev _ _ _ _ hb];rw[hb] at hr;exact hr
  ·cases hr
 ·cases hr
theorem callD_mono {f:V}{args:List V}{pv:Option V}{h:Hp}:Le (callD S c ev f args pv h) (callD S c' ev' f args pv h):=by
 intro r hr
 unfold callD at hr ⊢
 split at hr
 ·exact runD_mono hc hev r hr
 ·exact runD_mono hc hev r hr
 ·cases hr
theorem bodyOf_mono {sf:SF}{args:List V}{h:Hp}:Le (bodyOf S c ev sf args h) (bodyOf S c' ev' sf args h):=by
 intro r hr
 unfold bodyOf at hr ⊢
 split at hr
 ·exact outOf_mono (hev _ _ _) r hr
 ·rename_i d hd
  split at hr
  ·rename_i e1 h1 h1'
   rw[hev _ _ _ _ h1']
   dsimp only
   split at hr
   ·rename_i e2 h2 h2'
    rw[evOps_mono hc _ h2']
    dsimp only
    split at hr
    ·rename_i e3 h3 h3'; rw[hev _ _ _ _ h3'];exact retOf_mono (callD_mono hc hev) r hr
    ·rename_i e3 h3 h3'; rw[hev _ _ _ _ h3'];exact retOf_mono (callD_mono hc hev) r hr
    ·rename_i v e3 h3 h3'
     rw[hev _ _ _ _ h3']
     dsimp only
     split at hr
     ·rename_i ha;rw[if_pos ha];exact retOf_mono (callD_mono hc hev) r hr
     ·cases hr
    ·cases hr
   ·cases hr
  ·cases hr
end
theorem roundOf_mono {ev ev':C→En→Hp→Option (Ex×En×Hp)} (hev:∀ c e h,Le (ev c e h) (ev' c e h)) {o:Nat}{args:List V}{h:Hp}:Le (roundOf ev o args h) (roundOf ev' o args h):=by
 intro r hr
 unfold roundOf at hr ⊢
 split at hr
 ·split at hr
  ·rename_i ps el asg body hg hl
   split at hr
   ·rename_i e2 h2 he2
    split at hr
    ·rename_i h3 hs3
     rw[hev _ _ _ _ he2]
     simp only[hl,if_true,hs3]
     cases hb:ev body e2 h3 with
     | none=>rw[hb] at hr;simp at hr
     | some rb=>rw[hev _ _ _ _ hb];rw[hb] at hr;exact hr
    ·cases hr
   ·cases hr
  ·cases hr
 ·cases hr
theorem callN_up {S:Sp} (hX:XOk S):∀ n,CallLe (callN S n) (callN S (n+1))
 | 0=>fun f a h r hr=>by simp[callN] at hr
 | n+1=>by
   intro f a h r hr
   cases f with
   | yl o =>
     rw[callN] at hr ⊢
     exact roundOf_mono (fun c e h=>evC_mono (callN_up hX n) (Nat.le_succ n) c none e h) r hr
   | fn f =>
   rw[callN] at hr ⊢
   split at hr
   ·exact hr
   ·split at hr
    ·rename_i g hg;exact hX.mono f g hg _ _ (callN_up hX n) a h r hr
    ·split at hr
     ·cases hr
     ·rename_i sf hsf
      exact bodyOf_mono (callN_up hX n) (fun x e h=>evC_mono (callN_up hX n) (Nat.le_succ n) x none e h) r hr
theorem callN_le {S:Sp} (hX:XOk S) {n n':Nat} (h:n≤n'):CallLe (callN S n) (callN S n'):=by
 induction h with
 | refl=>exact fun _ _ _=>Le.refl _
 | step _ ih=>exact fun f a h r hr=>callN_up hX _ f a h r (ih f a h r hr)
noncomputable def callI (S:Sp):CallF:=fun f a h=>lim fun n=>callN S n f a h
theorem callI_some {S:Sp} (hX:XOk S) {f:Tg}{a:List V}{h:Hp}{r:Out×Hp}:callI S f a h=some r↔∃ n,callN S n f a h=some r :=
 lim_some fun _ _ hn=>callN_le hX hn f a h
theorem near {S:Sp} (hX:XOk S):Near (callN S) (callI S) :=
 ⟨fun _ _ h=>callN_le hX h,fun n f a h r hr=>(callI_some hX).2 ⟨n,hr⟩,fun f a h=>Comes.lim fun _ _ hn=>callN_le hX hn f a h⟩
noncomputable def evI (call:CallF) (x:C) (st:Option Nat) (e:En) (h:Hp):Option (Ex×En×Hp):=lim fun n=>evC call n x st e h
theorem evI_some {call:CallF}{x:C}{st:Option Nat}{e:En}{h:Hp}{r:Ex×En×Hp}:evI call x st e h=some r↔∃ n,evC call n x st e h=some r :=
 lim_some fun _ _ hn=>evC_mono (fun _ _ _=>Le.refl _) hn x st e h
theorem evI_comes (call:CallF) (x:C) (st:Option Nat) (e:En) (h:Hp):Comes (evI call x st e h) fun n=>evC call n x st e h :=
 Comes.lim fun _ _ hn=>evC_mono (fun _ _ _=>Le.refl _) hn x st e h
theorem ext_of {α:Type}{x y:Option α} (h1:Le x y) (h2:Le y x):x=y:=by
 cases x with
 | some a=>rw[h1 a rfl]
 | none=>cases y with
   | none=>rfl
   | some b=>have:=h2 b rfl;cases this
section
variable (call:CallF)
theorem const_ev (x:C) (st:Option Nat) (e:En) (h:Hp) (r:Option (Ex×En×Hp)) (hx:∀ n,evC call n x st e h=r):evI call x st e h=r :=
 ext_of (fun r' hr=>by obtain⟨n,hn⟩:=evI_some.1 hr;rw[hx] at hn;exact hn) (fun r' hr=>evI_some.2 ⟨0,by rw[hx];exact hr⟩)
theorem evI_skip (e:En) (h:Hp):evI call .skip none e h=some (.nor,e,h):=const_ev call _ _ _ _ _ fun _=>rfl
theorem evI_reg (ops:List SO) (keep:List Nat) (e:En) (h:Hp):evI call (.reg ops keep) none e h=keepR keep (evOps call ops e h):=const_ev call _ _ _ _ _ fun n=>evC_reg call n ops keep none e h
theorem evI_draw (ds:List DI) (keep:List Nat) (e:En) (h:Hp):evI call (.draw ds keep) none e h=evD call keep [] ds (kills ds e) h:=const_ev call _ _ _ _ _ fun _=>rfl
theorem evI_exit (id:Nat) (e:En) (h:Hp):evI call (.exit id) none e h=some (.ex id,e,h):=const_ev call _ _ _ _ _ fun _=>rfl
theorem evI_ret (e:En) (h:Hp):evI call .ret none e h=some (.rt,e,h):=const_ev call _ _ _ _ _ fun _=>rfl
theorem evI_label (l:Nat) (st:Option Nat) (e:En) (h:Hp):evI call (.label l) st e h=some (.nor,e,h):=const_ev call _ _ _ _ _ fun _=>rfl
theorem evI_goto (l:Nat) (e:En) (h:Hp):evI call (.goto l) none e h=some (.go l,e,h):=const_ev call _ _ _ _ _ fun _=>rfl
theorem evI_cond (x:Ar) (a b:C) (e:En) (h:Hp):evI call (.cond x a b) none e h=match aval e x with
 | .d (.b t)=>if t=true then evI call a none e h else evI call b none e h
 | _=>none:=by
 have hE:∀ n,evC call n (.cond x a b) none e h=match aval e x with
  | .d (.b t)=>if t=true then evC call n a none e h else evC call n b none e h
  | _=>none:=fun n=>evC_cond call n x a b none e h
 split
 ·rename_i t ht
  simp only[ht] at hE
  cases t
  ·simp only[Bool.false_eq_true,if_false] at hE ⊢; unfold evI;simp only[hE]
  ·simp only[if_true] at hE ⊢; unfold evI;simp only[hE]
 ·rename_i hn
  refine const_ev call _ _ _ _ _ fun n=>?_
  rw[hE]
  split
  ·rename_i t ht;exact absurd ht (hn t)
  ·rfl
theorem evI_range (f:Ar) (ps:List Nat) (a b:C) (e:En) (h:Hp):evI call (.range f ps a b) none e h=rangeEnd e h (callR call (aval e f) [.yl h.length] (.loop ps e a b 0 none::h)):=const_ev call _ _ _ _ _ fun _=>rfl
theorem evI_block (id:Nat) (a:C) (e:En) (h:Hp):evI call (.block id a) none e h=blockR id (evI call a none e h):=by
 refine ext_of (fun r hr=>?_) (fun r hr=>?_)
 ·obtain⟨n,hn⟩:=evI_some.1 hr
  rw[evC_block] at hn
  exact blockR_mono (fun r' hr'=>evI_some.2 ⟨n,hr'⟩) r hn
 ·cases ho:evI call a none e h with
  | none=>rw[ho] at hr;simp[blockR] at hr
  | some r' =>
    obtain⟨n,hn⟩:=evI_some.1 ho
    exact evI_some.2 ⟨n,by rw[evC_block,hn];rw[ho] at hr;exact hr⟩
theorem then_ev {f:Nat→Option (Ex×En×Hp)}{x:C}{st:Option Nat}{e:En}{h:Hp}{k:En→Hp→Option (Ex×En×Hp)}{kn:Nat→En→Hp→Option (Ex×En×Hp)} (hf:∀ n,f n=thenR (evC call n x st e h) (kn n)) (hup:Up2 f)
 (hk:∀ e h,Comes (k e h) fun n=>kn n e h) (hle:∀ n e h,Le (kn n e h) (k e h)):lim f=thenR (evI call x st e h) k:=by
 refine ext_of (fun r hr=>?_) (fun r hr=>?_)
 ·obtain⟨n,hn⟩:=(lim_some hup).1 hr
  rw[hf] at hn
  exact thenR_mono (fun r' hr'=>evI_some.2 ⟨n,hr'⟩) (hle n) r hn
 ·obtain⟨n,hn⟩:=thenR_comes (evI_comes call x st e h) hk r hr
  exact(lim_some hup).2 ⟨n,by rw[hf];exact hn n (Nat.le_refl _)⟩
theorem evC_up (x:C) (st:Option Nat) (e:En) (h:Hp):Up2 fun n=>evC call n x st e h:=fun _ _ hn=>evC_mono (fun _ _ _=>Le.refl _) hn x st e h
theorem evI_seq (a b:C) (e:En) (h:Hp):evI call (.seq a b) none e h=thenR (evI call a none e h) (evI call b none) :=
 then_ev call (fun n=>evC_seq call n a b e h) (evC_up call _ _ _ _) (fun e h=>evI_comes call b none e h) (fun n e h r hr=>evI_some.2 ⟨n,hr⟩)
theorem evI_seqL (a b:C) (l:Nat) (e:En) (h:Hp):evI call (.seq a b) (some l) e h=if hasL a l=true then thenR (evI call a (some l) e h) (evI call b none) else evI call b (some l) e h:=by
 split
 ·rename_i hl
  exact then_ev call (fun n=>by rw[evC_seqL,if_pos hl]) (evC_up call _ _ _ _) (fun e h=>evI_comes call b none e h) (fun n e h r hr=>evI_some.2 ⟨n,hr⟩)
 ·rename_i hl
  unfold evI
  congr 1
  funext n
  rw[evC_seqL,if_neg hl]
theorem evI_loop (a:C) (e:En) (h:Hp):evI call (.loop a) none e h=thenR (evI call a none e h) (evI call (.loop a) none):=by
 refine ext_of (fun r hr=>?_) (fun r hr=>?_)
 ·obtain⟨n,hn⟩:=evI_some.1 hr
  cases n with
  | zero=>simp[evC_loop,iter] at hn
  | succ n =>
    rw[evC_loop] at hn
    have:thenR (evC call (n+1) a none e h) (fun e h=>iter (evC call (n+1) a none) n e h)=some r:=by
     rw[iter] at hn
     generalize evC call (n+1) a none e h=r0 at hn ⊢
     rcases r0 with _ | ⟨x,_,_⟩
     ·exact hn
     ·cases x<;>exact hn
    refine thenR_mono (fun r' hr'=>evI_some.2 ⟨n+1,hr'⟩) (fun e h r' hr'=>evI_some.2 ⟨n+1,?_⟩) r this
    rw[evC_loop]
    exact iter_mono (fun e h=>Le.refl _) (Nat.le_succ n) r' hr'
 ·obtain⟨n,hn⟩:=thenR_comes (evI_comes call a none e h) (fun e h=>evI_comes call (.loop a) none e h) r hr
  have hn':=hn n (Nat.le_refl _)
  dsimp only at hn'
  refine evI_some.2 ⟨n+1,?_⟩
  rw[evC_loop,iter]
  cases ho:evC call n a none e h with
  | none=>rw[ho] at hn'; simp[thenR] at hn'
  | some r' =>
    rw[evC_mono (fun _ _ _=>Le.refl _) (Nat.le_succ n) a none e h _ ho]
    rw[ho] at hn'
    obtain⟨x,e',h'⟩:=r'
    cases x
    case nor =>
     simp only[thenR,evC_loop] at hn'
     exact iter_mono (fun e h=>evC_mono (fun _ _ _=>Le.refl _) (Nat.le_succ n) a none e h) (Nat.le_refl _) r hn'
    all_goals exact hn'
theorem evI_scope (a:C) (e:En) (h:Hp):evI call (.scope a) none e h=scopeR (fun l e' h'=>if hasL a l=true then lim (fun n=>jumps l (evC call n a (some l)) n e' h') else none) (evI call a none e h):=by
 refine ext_of (fun r hr=>?_) (fun r hr=>?_)
 ·obtain⟨n,hn⟩:=evI_some.1 hr
  rw[evC_scope] at hn
  refine scopeR_mono (fun r' hr'=>evI_some.2 ⟨n,hr'⟩) (fun l e' h'=>?_) r hn
  split
  ·exact fun r' hr'=>(lim_some fun _ _ hn=>jumps_mono (fun e h=>evC_mono (fun _ _ _=>Le.refl _) hn a (some l) e h) hn).2 ⟨n,hr'⟩
  ·exact Le.refl _
 ·cases ho:evI call a none e h with
  | none=>rw[ho] at hr;simp[scopeR] at hr
  | some r' =>
    obtain⟨n,hn⟩:=evI_comes call a none e h _ ho
    rw[ho] at hr
    obtain⟨x,e',h'⟩:=r'
    cases x
    case go l =>
     simp only[scopeR] at hr
     split at hr
     ·rename_i hl
      obtain⟨m,hm⟩:=(lim_some fun _ _ hn=>jumps_mono (fun e h=>evC_mono (fun _ _ _=>Le.refl _) hn a (some l) e h) hn).1 hr
      refine evI_some.2 ⟨max n m,?_⟩
      have hn':=hn _ (Nat.le_max_left n m)
      dsimp only at hn'
      rw[evC_scope,hn']
      simp only[scopeR]
      rw[if_pos hl]
      exact jumps_mono (fun e h=>evC_mono (fun _ _ _=>Le.refl _) (Nat.le_max_right n m) a (some l) e h) (Nat.le_max_right n m) r hm
     ·cases hr
    all_goals exact evI_some.2 ⟨n,by have hn':=hn n (Nat.le_refl _);dsimp only at hn'; rw[evC_scope,hn'];exact hr⟩
end
theorem retOf_comes {e:En}{res:List RV}{x:Option Hp}{y:Nat→Option Hp} (h:Comes x y):Comes (retOf e res x) fun n=>retOf e res (y n):=by
 intro r hr
 cases x with
 | none=>simp[retOf] at hr
 | some z=>obtain⟨n,hn⟩:=h _ rfl;exact⟨n,fun n' h'=>by dsimp only;rw[hn n' h'];exact hr⟩
section
variable {S:Sp}{c:Nat→CallF}{call:CallF}{ev:C→En→Hp→Option (Ex×En×Hp)}{evn:Nat→C→En→Hp→Option (Ex×En×Hp)} (hc:Near c call) (hev:∀ x e h,Comes (ev x e h) fun n=>evn n x e h)
include hc hev
theorem runD_comes {g:FuncId}{args:List V}{pv:Option V}{h:Hp}:Comes (runD S call ev g args pv h) fun n=>runD S (c n) (evn n) g args pv h:=by
 intro r hr
 unfold runD at hr ⊢
 split at hr
 ·split at hr
  ·rename_i e1 h1 ho
   obtain⟨n1,g1⟩:=evOps_comes hc _ ho
   cases hb:ev _ _ h1 with
   | none=>rw[hb] at hr;simp at hr
   | some rb =>
     obtain⟨n2,g2⟩:=hev _ _ _ _ hb
     refine⟨max n1 n2,fun n' h'=>?_⟩
     have k1:=g1 n' (by omega)
     have k2:=g2 n' (by omega)
     dsimp only at k1 k2 ⊢
     rw[k1];dsimp only;rw[k2];rw[hb] at hr;exact hr
  ·cases hr
 ·cases hr
theorem callD_comes {f:V}{args:List V}{pv:Option V}{h:Hp}:Comes (callD S call ev f args pv h) fun n=>callD S (c n) (evn n) f args pv h:=by
 intro r hr
 unfold callD at hr ⊢
 split at hr
 ·exact runD_comes hc hev r hr
 ·exact runD_comes hc hev r hr
 ·cases hr
theorem bodyOf_comes {sf:SF}{args:List V}{h:Hp}:Comes (bodyOf S call ev sf args h) fun n=>bodyOf S (c n) (evn n) sf args h:=by
 intro r hr
 unfold bodyOf at hr ⊢
 split at hr
 ·cases hb:ev sf.body (enter args) h with
  | none=>rw[hb] at hr;simp[outOf] at hr
  | some rb =>
    obtain⟨n,hn⟩:=hev _ _ _ _ hb
    exact⟨n,fun n' h'=>by have:=hn n' h'; dsimp only at this ⊢; rw[this];rw[hb] at hr;exact hr⟩
 ·rename_i d hd
  split at hr
  ·rename_i e1 h1 h1'
   obtain⟨n1,g1⟩:=hev _ _ _ _ h1'
   split at hr
   ·rename_i e2 h2 h2'
    obtain⟨n2,g2⟩:=evOps_comes hc _ h2'
    have fin:∀ {e3 x h3}{pv:Option V}{er:En},ev d.rest e2 h2=some (x,e3,h3)→retOf er sf.res (callD S call ev (aval e2 d.fn) (d.args.map (aval e2)) pv h3)=some r →
     ∃ n,∀ n',n≤n'→evn n' sf.body (enter args) h=some (.nor,e1,h1)∧evOps (c n') d.ops e1 h1=some (.nor,e2,h2)∧evn n' d.rest e2 h2=some (x,e3,h3)∧retOf er sf.res (callD S (c n') (evn n') (aval e2 d.fn) (d.args.map (aval e2)) pv h3)=some r:=by
     intro e3 x h3 pv er k1 k2
     obtain⟨n3,g3⟩:=hev _ _ _ _ k1
     obtain⟨n4,g4⟩:=retOf_comes (callD_comes hc hev) _ k2
     exact⟨max (max n1 n2) (max n3 n4),fun n' h'=>⟨g1 n' (by omega),g2 n' (by omega),g3 n' (by omega),g4 n' (by omega)⟩⟩
    split at hr
    ·rename_i e3 h3 h3'
     obtain⟨n,hn⟩:=fin h3' hr
     exact⟨n,fun n' h'=>by obtain⟨a1,a2,a3,a4⟩:=hn n' h'; simp only[a1,a2,a3];exact a4⟩
    ·rename_i e3 h3 h3'
     obtain⟨n,hn⟩:=fin h3' hr
     exact⟨n,fun n' h'=>by obtain⟨a1,a2,a3,a4⟩:=hn n' h'; simp only[a1,a2,a3];exact a4⟩
    ·rename_i v e3 h3 h3'
     split at hr
     ·rename_i ha
      obtain⟨n,hn⟩:=fin h3' hr
      exact⟨n,fun n' h'=>by obtain⟨a1,a2,a3,a4⟩:=hn n' h'; simp only[a1,a2,a3];rw[if_pos ha];exact a4⟩
     ·cases hr
    ·cases hr
   ·cases hr
  ·cases hr
end
theorem callI_B {S:Sp} (hX:XOk S) {f:FuncId}{sf:SF}{args:List V}{h:Hp} (ho:orcOf S f args=none) (hx:S.X f=none) (hf:S.F f=some sf):callI S (.fn f) args h=bodyOf S (callI S) (fun c e h=>evI (callI S) c none e h) sf args h:=by
 refine ext_of (fun r hr=>?_) (fun r hr=>?_)
 ·obtain⟨n,hn⟩:=(callI_some hX).1 hr
  cases n with
  | zero=>simp[callN] at hn
  | succ n =>
    simp only[callN,ho,hx,hf] at hn
    exact bodyOf_mono (fun f a h r hr=>(callI_some hX).2 ⟨n,hr⟩) (fun c e h r hr=>evI_some.2 ⟨n,evC_mono (fun f a h r hr=>(callI_some hX).2 ⟨n,hr⟩) (Nat.le_refl _) _ _ _ _ r hr⟩) r hn
 ·have comes:∀ c e h,Comes (evI (callI S) c none e h) fun n=>evC (callN S n) n c none e h:=by
   intro c e h r hr
   obtain⟨m,hm⟩:=evI_some.1 hr
   exact evC_comes (near hX) m _ _ _ _ _ hm
  obtain⟨n,hn⟩:=bodyOf_comes (near hX) comes _ hr
  exact(callI_some hX).2 ⟨n+1,by simp only[callN,ho,hx,hf];exact hn n (Nat.le_refl _)⟩
theorem callI_F {S:Sp} (hX:XOk S) {f:FuncId}{sf:SF}{args:List V}{h:Hp} (ho:orcOf S f args=none) (hx:S.X f=none) (hf:S.F f=some sf) (hd:sf.dfr=none):callI S (.fn f) args h=outOf sf.res (evI (callI S) sf.body none (enter args) h):=by
 rw[callI_B hX ho hx hf,bodyOf,hd]
theorem callI_O {S:Sp} (hX:XOk S) {f:FuncId}{args:List V}{h:Hp}{x:D} (ho:orcOf S f args=some x):callI S (.fn f) args h=some (.ret (.d x),h) :=
 (callI_some hX).2 ⟨1,by simp only[callN,ho]⟩
theorem callI_X {S:Sp} (hX:XOk S) {f:FuncId}{g:CallF→List V→Hp→Option (Out×Hp)}{args:List V}{h:Hp} (ho:orcOf S f args=none) (hx:S.X f=some g):callI S (.fn f) args h=g (callI S) args h:=by
 refine ext_of (fun r hr=>?_) (fun r hr=>?_)
 ·obtain⟨n,hn⟩:=(callI_some hX).1 hr
  cases n with
  | zero=>simp[callN] at hn
  | succ n =>
    simp only[callN,ho,hx] at hn
    exact hX.mono f g hx _ _ (fun f a h r hr=>(callI_some hX).2 ⟨n,hr⟩) args h r hn
 ·obtain⟨n,hn⟩:=hX.comes f g hx _ _ (near hX) args h r hr
  exact(callI_some hX).2 ⟨n+1,by simp only[callN,ho,hx];exact hn n (Nat.le_refl _)⟩
theorem callI_Y {S:Sp} (hX:XOk S) {o:Nat}{args:List V}{h:Hp}:callI S (.yl o) args h=roundOf (fun c e h=>evI (callI S) c none e h) o args h:=by
 refine ext_of (fun r hr=>?_) (fun r hr=>?_)
 ·obtain⟨n,hn⟩:=(callI_some hX).1 hr
  cases n with
  | zero=>simp[callN] at hn
  | succ n =>
    simp only[callN] at hn
    exact roundOf_mono (fun c e h r hr=>evI_some.2 ⟨n,evC_mono (fun f a h r hr=>(callI_some hX).2 ⟨n,hr⟩) (Nat.le_refl _) _ _ _ _ r hr⟩) r hn
 ·
   have comes:∀ c e h r,evI (callI S) c none e h=some r→∃ n,∀ n',n≤n'→evC (callN S n') n' c none e h=some r:=by
    intro c e h r hr
    obtain⟨m,hm⟩:=evI_some.1 hr
    exact evC_comes (near hX) m _ _ _ _ _ hm
   unfold roundOf at hr
   split at hr
   ·split at hr
    ·rename_i ps el asg body hg hl
     split at hr
     ·rename_i e2 h2 he2
      obtain⟨n1,g1⟩:=comes _ _ _ _ he2
      split at hr
      ·rename_i h3 hs3
       dsimp only at hr
       cases hb:evI (callI S) body none e2 h3 with
       | none=>rw[hb] at hr;simp at hr
       | some rb =>
         obtain⟨n2,g2⟩:=comes _ _ _ _ hb
         refine(callI_some hX).2 ⟨max n1 n2+1,?_⟩
         simp only[callN,roundOf,hg,hl,if_true,g1 _ (Nat.le_max_left n1 n2),hs3,g2 _ (Nat.le_max_right n1 n2)]
         rw[hb] at hr;exact hr
      ·cases hr
     ·cases hr
    ·cases hr
   ·cases hr
end
end Go.Proofs.YtmiioebapckcoaaGreatDoor
