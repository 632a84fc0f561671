/- Part 11 of a proof: the small semantics, its soundness, the functions of the program in it, and the law. -/
import Derived.Test.YtmiioebapckcoaaGreatDoorJj
set_option linter.unusedVariables false
set_option linter.unusedSimpArgs false
set_option maxRecDepth 4000
namespace Go.Proofs.YtmiioebapckcoaaGreatDoor
section
open Go Num
def valI:List Int→Int
 | []=>0
 | x::xs=>x+10000*valI xs
theorem valI_fold (xs:List Int) (c:Int) (h:0≤carryL xs c):(val 10000 (foldL xs c):Int)=valI xs+c∧∀ d∈foldL xs c,d<10000:=by
 induction xs generalizing c with
 | nil =>
   simp only[carryL] at h
   simp only[foldL,valI,val_digs (b:=10000) (by omega)]
   exact⟨by omega,digs_lt (by omega) _⟩
 | cons x xs ih =>
   obtain⟨h1,h2⟩:=ih ((x+c)/10000) h
   simp only[foldL,valI,val]
   constructor
   ·omega
   ·intro d hd
    rcases List.mem_cons.1 hd with hd | hd
    ·subst hd;omega
    ·exact h2 d hd
theorem carryL_nonneg (xs:List Int) (c:Int) (h:0≤valI xs+c):0≤carryL xs c:=by
 induction xs generalizing c with
 | nil=>simpa[carryL,valI] using h
 | cons x xs ih =>
   simp only[carryL]
   apply ih
   simp only[valI] at h
   omega
theorem trim_fold (xs:List Int) (n:Nat) (h:valI xs=n):trim (foldL xs 0)=digs 10000 n:=by
 have hc:=carryL_nonneg xs 0 (by omega)
 obtain⟨h1,h2⟩:=valI_fold xs 0 hc
 rw[trim_eq_digs (b:=10000) (by omega) _ h2]
 congr 1
 omega
theorem foldL_length (xs:List Int) (c:Int) (h:0≤carryL xs c):(foldL xs c).length=xs.length+(digs 10000 (carryL xs c).toNat).length:=by
 induction xs generalizing c with
 | nil=>simp[foldL,carryL]
 | cons x xs ih=>simp only[foldL,List.length_cons,carryL] at h ⊢; rw[ih _ h];omega
theorem digs_len_self (n:Nat):(digs 10000 n).length≤n:=by
 induction n using Nat.strongRecOn with
 | _ n ih =>
   by_cases h:n=0
   ·subst h;simp[digs_zero]
   ·rw[digs_pos (by omega) (by omega)];have:=ih (n/10000) (by omega);simp;omega
theorem carryL_le (xs:List Int) (c B:Int) (hB:0≤B) (hc:c≤B) (hx:∀ x∈xs,x≤B):carryL xs c≤B:=by
 induction xs generalizing c with
 | nil=>exact hc
 | cons x xs ih =>
   simp only[carryL]
   have:=hx x (List.mem_cons_self ..)
   exact ih _ (by omega) (fun y hy=>hx y (List.mem_cons_of_mem _ hy))
theorem valI_add (l:List Nat) (f g:Nat→Int):valI (l.map fun i=>f i+g i)=valI (l.map f)+valI (l.map g):=by
 induction l with
 | nil=>rfl
 | cons a l ih=>simp only[List.map_cons,valI,ih];omega
theorem valI_sub (l:List Nat) (f g:Nat→Int):valI (l.map fun i=>f i-g i)=valI (l.map f)-valI (l.map g):=by
 induction l with
 | nil=>rfl
 | cons a l ih=>simp only[List.map_cons,valI,ih];omega
theorem valI_mul (l:List Nat) (f:Nat→Int) (k:Int):valI (l.map fun i=>f i*k)=valI (l.map f)*k:=by
 induction l with
 | nil=>simp[valI]
 | cons a l ih=>simp only[List.map_cons,valI,ih];grind
theorem valI_zero (l:List Nat):valI (l.map fun _=>0)=0:=by
 induction l with
 | nil=>rfl
 | cons a l ih=>simp only[List.map_cons,valI,ih];omega
theorem valI_range (a:List Nat) (n:Nat) (h:a.length≤n):valI ((List.range n).map fun i=>(a.getD i 0:Int))=val 10000 a:=by
 induction a generalizing n with
 | nil=>simpa[val] using valI_zero (List.range n)
 | cons d a ih =>
   cases n with
   | zero=>simp at h
   | succ n =>
     rw[List.range_succ_eq_map]
     simp only[List.map_cons,List.map_map,valI,val,Function.comp_def,List.getD_cons_zero,List.getD_cons_succ]
     rw[ih n (by simpa using h)]
     omega
theorem getD_range (n:Nat) (f:Nat→Int) (hf:∀ i,n≤i→f i=0) (i:Nat):((List.range n).map f).getD i 0=f i:=by
 simp only[List.getD_eq_getElem?_getD,List.getElem?_map]
 by_cases h:i<n
 ·simp[List.getElem?_range,h]
 ·simp[h,hf i (by omega)]
theorem getD_lt {b:Nat} (hb:0<b) (a:List Nat) (h:∀ d∈a,d<b) (i:Nat):a.getD i 0<b:=by
 rw[List.getD_eq_getElem?_getD]
 cases hx:a[i]? with
 | none=>simpa using hb
 | some x=>simp;exact h x (List.mem_of_getElem? hx)
theorem getD_ge (a:List Nat) (i:Nat) (h:a.length≤i):a.getD i 0=0:=by
 rw[List.getD_eq_getElem?_getD,List.getElem?_eq_none h];rfl
def Groups (a:List Nat):Prop:=∀ d∈a,d<10000
theorem plus1_ok {H:Hp}{p q ty ty':Nat}{a b:List Nat} (ha:Groups a) (hb:Groups b) (hp:hget H p=some (.box ty [.d (nl a)])) (hq:hget H q=some (.box ty' [.d (nl b)])) :
 FnAt H (.fn 154 [] [.p p 0,.p q 0]) fun i=>(a.getD i 0:Int)+b.getD i 0:=by
 intro h hh i hi
 rw[callV_fnV (sf:=c154) rfl rfl rfl rfl]
 have hp':hget h p=_:=(hh.2 p (hget_lt' hp)).trans hp
 have hq':hget h q=_:=(hh.2 q (hget_lt' hq)).trans hq
 have e1:=at_ok a i h
 have e2:=at_ok b i h
 have l1:=getD_lt (by omega) a ha i
 have l2:=getD_lt (by omega) b hb i
 have w:=wr64 (n:=(a.getD i 0:Int)+b.getD i 0) (by omega) (by omega)
 simp only[nI] at e1 e2
 simp[c154,b154,put,eset,eget,D.cells,V.cells,allD,hget,hset,fz,zC,zN,hp',hq',nI,nl,allN,w,-List.getD_eq_getElem?_getD] at e1 e2 ⊢
 simp[e1,e2,w,put,eset,eget,D.cells,V.cells,allD,hget,hset,fz,zC,zN,-List.getD_eq_getElem?_getD]
theorem minus1_ok {H:Hp}{p q ty ty':Nat}{a b:List Nat} (ha:Groups a) (hb:Groups b) (hp:hget H p=some (.box ty [.d (nl a)])) (hq:hget H q=some (.box ty' [.d (nl b)])) :
 FnAt H (.fn 156 [] [.p p 0,.p q 0]) fun i=>(a.getD i 0:Int)-b.getD i 0:=by
 intro h hh i hi
 rw[callV_fnV (sf:=c156) rfl rfl rfl rfl]
 have hp':hget h p=_:=(hh.2 p (hget_lt' hp)).trans hp
 have hq':hget h q=_:=(hh.2 q (hget_lt' hq)).trans hq
 have e1:=at_ok a i h
 have e2:=at_ok b i h
 have l1:=getD_lt (by omega) a ha i
 have l2:=getD_lt (by omega) b hb i
 have w:=wr64 (n:=(a.getD i 0:Int)-b.getD i 0) (by omega) (by omega)
 simp only[nI] at e1 e2
 simp[c156,b156,put,eset,eget,D.cells,V.cells,allD,hget,hset,fz,zC,zN,hp',hq',nI,nl,allN,w,-List.getD_eq_getElem?_getD] at e1 e2 ⊢
 simp[e1,e2,w,put,eset,eget,D.cells,V.cells,allD,hget,hset,fz,zC,zN,-List.getD_eq_getElem?_getD]
theorem by1_ok {H:Hp}{p q ty ty':Nat}{a:List Nat}{n:Nat} (ha:Groups a) (hn:n<100000000) (hp:hget H p=some (.box ty [.d (nl a)])) (hq:hget H q=some (.box ty' [.d (nI n)])) :
 FnAt H (.fn 179 [] [.p p 0,.p q 0]) fun i=>(a.getD i 0:Int)*(n:Int):=by
 intro h hh i hi
 rw[callV_fnV (sf:=c179) rfl rfl rfl rfl]
 have hp':hget h p=_:=(hh.2 p (hget_lt' hp)).trans hp
 have hq':hget h q=_:=(hh.2 q (hget_lt' hq)).trans hq
 have e1:=at_ok a i h
 have l1:=getD_lt (by omega) a ha i
 have l3:a.getD i 0*n≤10000*100000000:=Nat.mul_le_mul (by omega) (by omega)
 have l4:((a.getD i 0:Int)*(n:Int))=((a.getD i 0*n:Nat):Int):=by push_cast;rfl
 have w:=wr64 (n:=(a.getD i 0:Int)*n) (by omega) (by omega)
 simp only[nI] at e1 hq'
 simp[c179,b179,put,eset,eget,D.cells,V.cells,allD,hget,hset,fz,zC,zN,hp',hq',nI,nl,allN,w,-List.getD_eq_getElem?_getD] at e1 ⊢
 simp[e1,w,put,eset,eget,D.cells,V.cells,allD,hget,hset,fz,zC,zN,-List.getD_eq_getElem?_getD]
theorem fold_len {xs:List Int}{k:Nat} (h:xs.length=k):(xs.length:Int)=k:=by omega
theorem digs_len (n:Nat) (hn:n≤1000000000000):(digs 10000 n).length≤4:=(digs_length_le (by omega)).2 (by omega)
theorem foldL_len (xs:List Int) (h:0≤carryL xs 0) (hx:∀ x∈xs,-9999≤x∧x≤1000000000000):(foldL xs 0).length≤xs.length+4:=by
 rw[foldL_length _ _ h]
 have:=carryL_le xs 0 1000000000000 (by omega) (by omega) (fun x hx'=>(hx x hx').2)
 have:=digs_len (carryL xs 0).toNat (by omega)
 omega
theorem FnAt.range {H:Hp}{f:V}{g:Nat→Int} (n:Nat) (hf:FnAt H f g) (hz:∀ i,n≤i→g i=0):FnAt H f fun i=>((List.range n).map g).getD i 0:=by
 intro h hh i hi
 rw[hf h hh i hi]
 show _=some (Re.val (.d (.i .i64 (((List.range n).map g).getD i 0))),h)
 rw[getD_range n g hz]
theorem fold_range {H:Hp}{f:V}{g:Nat→Int} (n:Nat) (hf:FnAt H f g) (hz:∀ i,n≤i→g i=0) (hn:n≤1000000000) (hg:∀ i,-9999≤g i∧g i≤1000000000000) (v:Nat) (hv:valI ((List.range n).map g)=v) :
 ∃ l,callV cS false (fnV 153) [.d (.i .i64 n),.d (.i .i64 0),f] H=some (.val (.d (nl l)),H)∧∀ H,callV cS false (fnV 149) [.d (nl l)] H=some (.val (.d (nl (digs 10000 v))),H):=by
 have hc:0≤carryL ((List.range n).map g) 0:=carryL_nonneg _ _ (by omega)
 have hx:∀ x∈(List.range n).map g,-9999≤x∧x≤1000000000000:=by
  intro x hx
  obtain⟨i,_,rfl⟩:=List.mem_map.1 hx
  exact hg i
 refine⟨foldL ((List.range n).map g) 0,?_,fun H=>?_⟩
 ·have:=fold_ok (hf.range n hz) (by simp<;>omega) hx hc
  simpa only[List.length_map,List.length_range] using this
 ·have hl:=foldL_len _ hc hx
  rw[trimmed_ok _ (by simp at hl ⊢; omega),trim_fold _ _ hv]
theorem plus_ok (a b:List Nat) (ha:Groups a) (hb:Groups b) (la:a.length≤1000000000) (lb:b.length≤1000000000) (H:Hp) :
 callV cS false (fnV 103) [.d (nl a),.d (nl b)] H=some (.val (.d (nl (digs 10000 (val 10000 a+val 10000 b)))),H):=by
 rw[callV_fn (sf:=c103) rfl rfl rfl rfl]
 obtain⟨l,h1,h2⟩:=fold_range (max a.length b.length) (plus1_ok (H:=.box 101 [.d (nl b)]::.box 101 [.d (nl a)]::H) (p:=H.length) (q:=H.length+1) (ty:=101) (ty':=101) ha hb (by simp[hget]) (by simp[hget]))
  (by intro i hi;show (a.getD i 0:Int)+b.getD i 0=0;rw[getD_ge a i (by omega),getD_ge b i (by omega)];rfl) (by omega)
  (by intro i;have l1:=getD_lt (by omega) a ha i;have l2:=getD_lt (by omega) b hb i;show -9999≤(a.getD i 0:Int)+b.getD i 0∧(a.getD i 0:Int)+b.getD i 0≤1000000000000;omega)
  (val 10000 a+val 10000 b) (by rw[valI_add,valI_range _ _ (by omega),valI_range _ _ (by omega)];omega)
 have hm:((max a.length b.length:Nat):Int)=if a.length<b.length then (b.length:Int) else (a.length:Int):=by split<;>omega
 rw[hm] at h1
 simp only[nl] at h1 h2
 simp[c103,b103,put,eset,eget,D.cells,V.cells,allD,hget,hset,fz,zC,zN,nl,allN,h1,h2]
theorem minus_ok (a b:List Nat) (ha:Groups a) (hb:Groups b) (la:a.length≤1000000000) (lb:b.length≤a.length) (hab:val 10000 b≤val 10000 a) (H:Hp) :
 callV cS false (fnV 105) [.d (nl a),.d (nl b)] H=some (.val (.d (nl (digs 10000 (val 10000 a-val 10000 b)))),H):=by
 rw[callV_fn (sf:=c105) rfl rfl rfl rfl]
 obtain⟨l,h1,h2⟩:=fold_range a.length (minus1_ok (H:=.box 101 [.d (nl b)]::.box 101 [.d (nl a)]::H) (p:=H.length) (q:=H.length+1) (ty:=101) (ty':=101) ha hb (by simp[hget]) (by simp[hget]))
  (by intro i hi;show (a.getD i 0:Int)-b.getD i 0=0;rw[getD_ge a i (by omega),getD_ge b i (by omega)];rfl) (by omega)
  (by intro i;have l1:=getD_lt (by omega) a ha i;have l2:=getD_lt (by omega) b hb i;show -9999≤(a.getD i 0:Int)-b.getD i 0∧(a.getD i 0:Int)-b.getD i 0≤1000000000000;omega)
  (val 10000 a-val 10000 b) (by rw[valI_sub,valI_range _ _ (by omega),valI_range _ _ (by omega)];omega)
 simp only[nl] at h1 h2
 simp[c105,b105,put,eset,eget,D.cells,V.cells,allD,hget,hset,fz,zC,zN,nl,allN,h1,h2]
theorem by_ok (a:List Nat) (n:Nat) (ha:Groups a) (hn:n<100000000) (la:a.length≤1000000000) (H:Hp) :
 callV cS false (fnV 150) [.d (nl a),.d (nI n)] H=some (.val (.d (nl (digs 10000 (val 10000 a*n)))),H):=by
 rw[callV_fn (sf:=c150) rfl rfl rfl rfl]
 obtain⟨l,h1,h2⟩:=fold_range a.length (by1_ok (H:=.box 3 [.d (nI n)]::.box 101 [.d (nl a)]::H) (p:=H.length) (q:=H.length+1) (ty:=101) (ty':=3) (n:=n) ha hn (by simp[hget]) (by simp[hget]))
  (by intro i hi;show (a.getD i 0:Int)*n=0;rw[getD_ge a i (by omega)];simp) (by omega)
  (by
   intro i
   have l1:=getD_lt (by omega) a ha i
   have l3:a.getD i 0*n≤10000*100000000:=Nat.mul_le_mul (by omega) (by omega)
   have l4:((a.getD i 0:Int)*(n:Int))=((a.getD i 0*n:Nat):Int):=by push_cast;rfl
   show -9999≤(a.getD i 0:Int)*n∧(a.getD i 0:Int)*n≤1000000000000;omega)
  (val 10000 a*n) (by rw[valI_mul,valI_range _ _ (by omega)];push_cast;rfl)
 simp only[nl,nI] at h1 h2
 simp[c150,b150,put,eset,eget,D.cells,V.cells,allD,hget,hset,fz,zC,zN,nl,allN,nI,h1,h2]
end
section
open Go Num
def Upd (n:Nat) (h h':Hp):Prop:=h'.length=h.length∧∀ o ob,hget h' o=some ob→hget h o=some ob∨obVlt n ob=true
theorem Upd.refl (n:Nat) (h:Hp):Upd n h h:=⟨rfl,fun _ _ h=>.inl h⟩
theorem Upd.trans {n:Nat}{a b c:Hp} (h:Upd n a b) (k:Upd n b c):Upd n a c:=⟨k.1.trans h.1,fun o ob hg=>by
 rcases k.2 o ob hg with h1 | h1
 ·exact h.2 o ob h1
 ·exact .inr h1⟩
theorem hget_hset_ne {h:Hp}{o o':Nat}{x:Ob} (hne:o≠o'):hget (hset h o x) o'=hget h o':=Over.hset.hget_hset_ne hne
theorem Upd.hset {n:Nat}{h h':Hp} (hh:Upd n h h') {o:Nat}{x:Ob} (hx:obVlt n x=true):Upd n h (hset h' o x):=by
 refine⟨(hset_len _ _ _).trans hh.1,fun o' ob hg=>?_⟩
 by_cases he:o=o'
 ·subst he
  have:=hget_lt' hg
  rw[hset_len] at this
  rw[hget_hset this] at hg
  cases hg;exact .inr hx
 ·rw[hget_hset_ne he] at hg;exact hh.2 o' ob hg
theorem Upd.cons {n:Nat}{h h':Hp} (hh:Upd n h h') (x:Ob):Upd n (x::h) (x::h'):=by
 refine⟨by simp[hh.1],fun o ob hg=>?_⟩
 unfold hget at hg ⊢
 rw[hh.1] at hg
 split at hg
 ·rename_i e;rw[if_pos e];exact .inl hg
 ·rename_i e;rw[if_neg e];exact hh.2 o ob hg
mutual
theorem vlt_mono {n m:Nat} (h:n≤m):∀ v,vlt n v=true→vlt m v=true
 | .u,_=>rfl
 | .d _,_=>rfl
 | .p o _,k=>by simp only[vlt,decide_eq_true_eq] at k ⊢; omega
 | .gr o _,k=>by simp only[vlt,decide_eq_true_eq] at k ⊢; omega
 | .gp o _ _ _,k=>by simp only[vlt,decide_eq_true_eq] at k ⊢; omega
 | .yl o,k=>by simp only[vlt,decide_eq_true_eq] at k ⊢; omega
 | .fn _ a b,k=>by
   simp only[vlt,Bool.and_eq_true] at k ⊢
   exact⟨vlts_mono h a k.1,vlts_mono h b k.2⟩
 | .ifc _ v,k=>by simp only[vlt] at k ⊢; exact vlt_mono h v k
 | .agg cs,k=>by simp only[vlt] at k ⊢; exact vlts_mono h cs k
 | .tup cs,k=>by simp only[vlt] at k ⊢; exact vlts_mono h cs k
theorem vlts_mono {n m:Nat} (h:n≤m):∀ v,vlts n v=true→vlts m v=true
 | [],_=>rfl
 | v::vs,k=>by
   simp only[vlts,Bool.and_eq_true] at k ⊢
   exact⟨vlt_mono h v k.1,vlts_mono h vs k.2⟩
end
theorem obVlt_mono {n m:Nat} (h:n≤m) (x:Ob) (k:obVlt n x=true):obVlt m x=true:=by
 cases x<;>simp only[obVlt] at k ⊢ <;> first | exact vlts_mono h _ k | trivial | skip
 rw[List.all_eq_true] at k ⊢
 exact fun p hp=>vlt_mono h _ (k p hp)
theorem Upd.hok {n:Nat}{h h':Hp} (hh:Upd n h h') (hn:n≤h.length):HOk h h':=fun o ob ho hg=>by
 rcases hh.2 o ob hg with k | k
 ·exact .inl k
 ·exact .inr (obVlt_mono hn ob k)
theorem hset_trunc:∀ {g:Hp}{n o:Nat}{x:Ob},o<n→trunc n (hset g o x)=hset (trunc n g) o x
 | [],_,_,_,_=>rfl
 | y::g,n,o,x,h=>by
   have hl:(hset (y::g) o x)=if o=g.length then x::g else y::hset g o x:=by simp[hset]
   rw[hl]
   by_cases e:o=g.length
   ·rw[if_pos e,trunc,trunc,if_pos (by omega),if_pos (by omega)];simp[hset,e]
   ·rw[if_neg e,trunc,trunc,hset_len]
    split
    ·simp[hset,e]
    ·exact hset_trunc h
variable (n:Nat) (ps:List Nat) (e:En) (asg body:C)
def Round (a:List V) (h h':Hp):Prop:=∃ e2 e4 g,a.length=ps.length∧evI cS asg none (putsE e ps a) (.loop ps e asg body 0 none::h)=some (.nor,e2,.loop ps e asg body 0 none::h) ∧
 evI cS body none e2 (.loop ps e asg body 1 none::h)=some (.nor,e4,g)∧h.length+1≤g.length∧trunc (h.length+1) g=.loop ps e asg body 1 none::h'∧Upd n h h'
def RoundX (a:List V) (h:Hp) (j:Jp) (h':Hp):Prop:=obVlt (h.length+1) (.loop ps e asg body 0 none)=true∧∃ e2 e4 g,a.length=ps.length∧evI cS asg none (putsE e ps a) (.loop ps e asg body 0 none::h)=some (.nor,e2,.loop ps e asg body 0 none::h) ∧
 evI cS body none e2 (.loop ps e asg body 1 none::h)=some (jpEx j,e4,g)∧h.length+1≤g.length∧trunc (h.length+1) g=.loop ps e asg body 1 none::h'∧Upd n h h'
inductive Rounds:List (List V)→Hp→Option Jp→Hp→Prop
 | nil (h:Hp):Rounds [] h none h
 | next {a:List V}{l:List (List V)}{h h1 h':Hp}{j:Option Jp}:Round n ps e asg body a h h1→Rounds l h1 j h'→Rounds (a::l) h j h'
 | stop {a:List V}{l:List (List V)}{h h':Hp}{j:Jp}:RoundX n ps e asg body a h j h'→Rounds (a::l) h (some j) h'
variable {n ps e asg body}
theorem Rounds.upd {l:List (List V)}{h h':Hp}{j:Option Jp} (hr:Rounds n ps e asg body l h j h'):Upd n h h':=by
 induction hr with
 | nil h=>exact Upd.refl _ _
 | next h1 _ ih=>obtain⟨_,_,_,_,_,_,_,_,hu⟩:=h1;exact hu.trans ih
 | stop h1=>obtain⟨_,_,_,_,_,_,_,_,_,hu⟩:=h1;exact hu
theorem after {g h h':Hp}{st st':Nat}{p:Option Jp} (h1:h.length+1≤g.length) (h2:trunc (h.length+1) g=.loop ps e asg body st none::h') (hu:Upd n h h') (hn:n≤h.length) (hob:obVlt (h.length+1) (.loop ps e asg body 0 none)=true∨(st'=0∧p=none)) :
 ∃ g',setSt g h.length st st' p=some g'∧h.length+1≤g'.length∧trunc (h.length+1) g'=.loop ps e asg body st' p::h'∧HOk (.loop ps e asg body 0 none::h) g':=by
 have hl:h'.length=h.length:=hu.1
 have hg:hget g h.length=some (.loop ps e asg body st none):=by
  rw[← hget_trunc (n:=h.length+1) (by omega),h2,hget,if_pos hl.symm]
 have ht:trunc (h.length+1) (hset g h.length (.loop ps e asg body st' p))=.loop ps e asg body st' p::h':=by
  rw[hset_trunc (by omega),h2];simp[hset,hl]
 refine⟨hset g h.length (.loop ps e asg body st' p),?_,?_,ht,?_⟩
 ·simp[setSt,hg]
 ·rw[hset_len];exact h1
 ·intro o ob ho hg'
  simp only[List.length_cons] at ho
  rw[← hget_trunc ho,ht] at hg'
  by_cases e0:o=h.length
  ·subst e0
   rw[hget,if_pos hl.symm] at hg'
   cases hg'
   rcases hob with hob | ⟨rfl,rfl⟩
   ·exact .inr (by simpa only[obVlt,List.length_cons] using hob)
   ·exact .inl (by rw[hget,if_pos rfl])
  ·rw[hget,if_neg (by omega)] at hg'
   rcases hu.2 o ob hg' with k | k
   ·exact .inl (by rw[hget,if_neg (by omega)];exact k)
   ·exact .inr (obVlt_mono (by simp<;>omega) ob k)
theorem Round.call {a:List V}{h h':Hp} (hr:Round n ps e asg body a h h') (hn:n≤h.length) :
 callV cS false (.yl h.length) a (.loop ps e asg body 0 none::h)=some (.val (.d (.b true)),.loop ps e asg body 0 none::h'):=by
 obtain⟨e2,e4,g,h1,h2,h3,h4,h5,hu⟩:=hr
 obtain⟨g',k1,k2,k3,k4⟩:=after (st':=0) (p:=none) h4 h5 hu hn (.inr ⟨rfl,rfl⟩)
 have hs:setSt (.loop ps e asg body 0 none::h) h.length 0 1 none=some (.loop ps e asg body 1 none::h):=by simp[setSt,hget,hset]
 have hc:cS (.yl h.length) a (.loop ps e asg body 0 none::h)=some (.ret (.d (.b true)),g'):=by
  show callI S _ _ _=_
  rw[callI_Y SX,roundOf,show hget (.loop ps e asg body 0 none::h) h.length=some (.loop ps e asg body 0 none) by simp[hget]]
  simp only[h1,if_true,h2,hs,h3,k1]
 simp only[callV,hc]
 rw[fin_val,if_pos ⟨by simpa using k2,k4⟩]
 simp[k3]
theorem RoundX.call {a:List V}{h h':Hp}{j:Jp} (hr:RoundX n ps e asg body a h j h') (hn:n≤h.length) :
 callV cS false (.yl h.length) a (.loop ps e asg body 0 none::h)=some (.val (.d (.b false)),.loop ps e asg body 2 (some j)::h'):=by
 obtain⟨ho,e2,e4,g,h1,h2,h3,h4,h5,hu⟩:=hr
 obtain⟨g',k1,k2,k3,k4⟩:=after (st':=2) (p:=some j) h4 h5 hu hn (.inl ho)
 have hs:setSt (.loop ps e asg body 0 none::h) h.length 0 1 none=some (.loop ps e asg body 1 none::h):=by simp[setSt,hget,hset]
 have hj:jpOf (jpEx j)=some j:=by cases j<;>rfl
 have hc:cS (.yl h.length) a (.loop ps e asg body 0 none::h)=some (.ret (.d (.b false)),g'):=by
  show callI S _ _ _=_
  rw[callI_Y SX,roundOf,show hget (.loop ps e asg body 0 none::h) h.length=some (.loop ps e asg body 0 none) by simp[hget]]
  simp only[h1,if_true,h2,hs,h3]
  cases j<;>simp only[jpEx,jpOf] at k1 hj ⊢ <;> simp only[k1]
 simp only[callV,hc]
 rw[fin_val,if_pos ⟨by simpa using k2,k4⟩]
 simp[k3]
def endOb (ps:List Nat) (e:En) (asg body:C):Option Jp→Ob
 | none=>.loop ps e asg body 0 none
 | some j=>.loop ps e asg body 2 (some j)
def Yields (f:V) (l:List (List V)):Prop:=∀ (n:Nat) (ps:List Nat) (e:En) (asg body:C) (h h':Hp) (j:Option Jp),n≤h.length→Rounds n ps e asg body l h j h'→∃ v,callR cS f [.yl h.length] (.loop ps e asg body 0 none::h)=some (.val v,endOb ps e asg body j::h')
def jEx:Option Jp→Ex
 | none=>.nor
 | some j=>jpEx j
theorem ranges_ok {f:V}{F:Ar}{l:List (List V)}{h h':Hp}{j:Option Jp} (hf:aval e F=f) (hy:Yields f l) (hr:Rounds n ps e asg body l h j h') (hn:n≤h.length) :
 evI cS (.range F ps asg body) none e h=some (jEx j,e,h'):=by
 obtain⟨v,hv⟩:=hy n ps e asg body h h' j hn hr
 have hl:=hr.upd.1
 have hk:HOk h (endOb ps e asg body j::h'):=by rw[HOk_cons' (by omega)];exact hr.upd.hok hn
 have ht:trunc h.length h'=h':=by rw[← hl];exact trunc_self _
 rw[evI_range,hf,hv]
 unfold rangeEnd
 cases j with
 | none =>
   simp only[endOb] at hk ⊢
   simp[hget,hl,hk,trunc_cons',ht,jEx]
 | some j =>
   simp only[endOb] at hk ⊢
   simp[hget,hl,hk,trunc_cons',ht,jEx]
theorem Rounds.hok {l:List (List V)}{h h':Hp}{j:Option Jp} (hr:Rounds n ps e asg body l h j h') (hn:n≤h.length):HOk (.loop ps e asg body 0 none::h) (endOb ps e asg body j::h'):=by
 have hu:=hr.upd
 have hj:j=none∨obVlt (h.length+1) (.loop ps e asg body 0 none)=true:=by
  clear hn hu
  induction hr with
  | nil h=>exact .inl rfl
  | next h1 _ ih=>obtain⟨_,_,_,_,_,_,_,_,hu⟩:=h1;rw[hu.1] at ih;exact ih
  | stop h1=>exact .inr h1.1
 intro o ob ho hg
 simp only[List.length_cons] at ho
 by_cases e0:o=h.length
 ·rw[hget,if_pos (by rw[hu.1];exact e0)] at hg
  cases hg
  rcases hj with rfl | hj
  ·exact .inl (by rw[hget,if_pos e0];rfl)
  ·right;cases j<;>simpa only[endOb,obVlt,List.length_cons] using hj
 ·rw[hget,if_neg (by have:=hu.1;omega)] at hg
  rcases hu.2 o ob hg with k | k
  ·exact .inl (by rw[hget,if_neg e0];exact k)
  ·exact .inr (obVlt_mono (by simp<;>omega) ob k)
theorem endOb_len (ps:List Nat) (e:En) (asg body:C) (j:Option Jp) (h:Hp):(endOb ps e asg body j::h).length=h.length+1:=rfl
theorem Round.mk' {n:Nat}{ps:List Nat}{e:En}{asg body:C}{a:List V}{h h':Hp} (hl:a.length=ps.length) (hu:Upd n h h')
 (hr:∀ L0 L1:Ob,match evI cS asg none (putsE e ps a) (L0::h) with
  | some (.nor,e2,h2)=>h2=L0::h∧match evI cS body none e2 (L1::h) with
    | some (.nor,_,g)=>h.length+1≤g.length∧trunc (h.length+1) g=L1::h'
    | _=>False
  | _=>False):Round n ps e asg body a h h':=by
 replace hr:=hr (.loop ps e asg body 0 none) (.loop ps e asg body 1 none)
 split at hr
 ·rename_i e2 h2 he
  obtain⟨rfl,hr⟩:=hr
  split at hr
  ·rename_i e4 g he2
   exact⟨e2,e4,g,hl,he,he2,hr.1,hr.2,hu⟩
  ·exact hr.elim
 ·exact hr.elim
theorem RoundX.mk' {n:Nat}{ps:List Nat}{e:En}{asg body:C}{a:List V}{h h':Hp} (j:Jp) (hl:a.length=ps.length) (hu:Upd n h h') (ho:obVlt (h.length+1) (.loop ps e asg body 0 none)=true)
 (hr:∀ L0 L1:Ob,match evI cS asg none (putsE e ps a) (L0::h) with
  | some (.nor,e2,h2)=>h2=L0::h∧match evI cS body none e2 (L1::h) with
    | some (x,_,g)=>x=jpEx j∧h.length+1≤g.length∧trunc (h.length+1) g=L1::h'
    | _=>False
  | _=>False):RoundX n ps e asg body a h j h':=by
 replace hr:=hr (.loop ps e asg body 0 none) (.loop ps e asg body 1 none)
 split at hr
 ·rename_i e2 h2 he
  obtain⟨rfl,hr⟩:=hr
  split at hr
  ·rename_i x e4 g he2
   obtain⟨rfl,h1,h2⟩:=hr
   exact⟨ho,e2,e4,g,hl,he,he2,h1,h2,hu⟩
  ·exact hr.elim
 ·exact hr.elim
theorem Upd.top {n:Nat}{h h':Hp}{x y:Ob} (hh:Upd n h h') (hy:obVlt n y=true):Upd n (x::h) (y::h'):=by
 have:=(hh.cons x).hset (o:=h'.length) (x:=y) hy
 rwa [show Go.Proofs.YtmiioebapckcoaaGreatDoor.hset (x::h') h'.length y=y::h' by simp[Go.Proofs.YtmiioebapckcoaaGreatDoor.hset]] at this
def backs (xs:List Nat):List (List V):=(xs.zipIdx.reverse).map fun p=>[.d (nI p.2),.d (nI p.1)]
theorem backs_nil:backs []=[]:=rfl
theorem backs_concat (xs:List Nat) (x:Nat):backs (xs++[x])=[.d (nI xs.length),.d (nI x)]::backs xs:=by
 simp[backs,List.zipIdx_append]
theorem back_loop {xs:List Nat} (hx:xs.length<4611686018427387904) (o:Nat):∀ (k:Nat) (ys zs:List Nat) (h h':Hp) (j:Option Jp),ys.length=k→xs=ys++zs→o=h.length→n≤h.length→Rounds n ps e asg body (backs ys) h j h' →
 ∃ e' x,evI cS (.loop l178_0) none [(0,.yl o),(1,.d (.fpc [nl xs])),(3,.d (.i .i64 ((ys.length:Int)-1)))] (.loop ps e asg body 0 none::h)=some (x,e',endOb ps e asg body j::h')∧(x=.ex 0∨x=.rt):=by
 intro k
 induction k with
 | zero =>
   intro ys zs h h' j hk hxs ho hn hr
   have:ys=[]:=List.eq_nil_of_length_eq_zero hk
   subst this
   rw[backs_nil] at hr
   cases hr
   rw[evI_loop]
   simp[l178_0,put,eset,eget,D.cells,V.cells,allD,hget,hset,fz,zC,zN,endOb]
   exact⟨_,_,⟨rfl,rfl⟩,.inl rfl⟩
 | succ k ih =>
   intro ys zs h h' j hk hxs ho hn hr
   obtain⟨ys,y,rfl⟩:∃ xs x,ys=xs++[x]:=by
    rcases List.eq_nil_or_concat ys with h | ⟨ys,x,h⟩
    ·subst h;simp at hk
    ·exact⟨ys,x,by simpa using h⟩
   have hk':ys.length=k:=by simpa using hk
   rw[backs_concat] at hr
   have hi:xs[ys.length]? = some y:=by rw[hxs];simp
   have hl:ys.length<xs.length:=by rw[hxs];simp
   have hi2:xs[ys.length]=y:=by have:=List.getElem?_eq_getElem hl;rw[hi] at this;exact(Option.some.inj this).symm
   have w:IntKind.i64.wrap ((ys.length:Int)-1)=(ys.length:Int)-1:=wr64 (by omega) (by omega)
   have ha:=allN xs
   rw[evI_loop]
   cases hr with
   | next h1 h2 =>
     have hc:=h1.call hn
     have hu:=(Rounds.next h1 (.nil _)).upd
     obtain⟨e',x,k1,k2⟩:=ih ys (y::zs) _ h' j hk' (by rw[hxs];simp) (by rw[hu.1];exact ho) (by rw[hu.1];exact hn) h2
     refine⟨e',x,?_,k2⟩
     subst ho
     simp only[nI] at hc
     simp[l178_0,nl,put,eset,eget,D.cells,V.cells,allD,hget,hset,fz,zC,zN,hi,hi2,hl,ha,nI,w]
     simp only[l178_0,o1,mv,nl] at k1
     simp[hc,put,eset,eget,D.cells,V.cells,allD,hget,hset,fz,zC,zN,w,k1]
   | stop h1 =>
     have hc:=h1.call hn
     subst ho
     simp only[nI] at hc
     simp[l178_0,nl,put,eset,eget,D.cells,V.cells,allD,hget,hset,fz,zC,zN,hi,hi2,hl,ha,nI,w]
     simp[hc,put,eset,eget,D.cells,V.cells,allD,hget,hset,fz,zC,zN,w,endOb]
     exact⟨_,_,⟨rfl,rfl⟩,.inr rfl⟩
theorem back_yields {xs:List Nat} (hx:xs.length<4611686018427387904):Yields (.d (.fn 178 [] [.fpc [nl xs]])) (backs xs):=by
 intro n ps e asg body h h' j hn hr
 obtain⟨e',x,h1,h2⟩:=back_loop hx h.length _ xs [] h h' j rfl (by simp) rfl hn hr
 have hk:=hr.hok hn
 have hl:=hr.upd.1
 refine⟨.d (.tup []),?_⟩
 have w:IntKind.i64.wrap ((xs.length:Int)-1)=(xs.length:Int)-1:=wr64 (by omega) (by omega)
 simp only[callR]
 rw[callV_fn (sf:=c178) rfl rfl rfl rfl]
 have ha:=allN xs
 simp only[nl] at h1
 have htr:trunc (h.length+1) (endOb ps e asg body j::h')=endOb ps e asg body j::h':=by
  rw[← hl];exact trunc_self (endOb ps e asg body j::h')
 rcases h2 with rfl | rfl
 all_goals
  simp[c178,b178,nl,put,eset,eget,D.cells,V.cells,allD,hget,hset,fz,zC,zN,w,ha,h1]
  exact⟨⟨by omega,hk⟩,htr⟩
theorem backward_ok (xs:List Nat) (H:Hp):callV cS false (fnV 148) [.d (nl xs)] H=some (.val (.d (.fn 178 [] [.fpc [nl xs]])),H):=by
 rw[callV_fn (sf:=c148) rfl rfl rfl rfl]
 simp[c148,b148,nl,put,eset,eget,D.cells,V.cells,allD,hget,hset,fz,zC,zN]
end
section
open Go Num
def cmpI (a b:Int):Int:=if a<b then -1 else if b<a then 1 else 0
theorem cmp_ok (a b:Int) (H:Hp):callV cS false (fnV 160) [.d (.i .i64 a),.d (.i .i64 b)] H=some (.val (.d (.i .i64 (cmpI a b))),H):=by
 have h1:∀ (a:Int) (H:Hp),callV cS false (fnV 182) [.d (.i .i64 a)] H=some (.val (.d (.b false)),H):=by
  intro a H
  rw[callV_fn (sf:=c182) rfl rfl rfl rfl]
  simp[c182,b182,put,eset,eget,D.cells,V.cells,allD,hget,hset,fz,zC,zN]
 rw[callV_fn (sf:=c160) rfl rfl rfl rfl]
 by_cases h2:a<b
 ·simp[c160,b160,put,eset,eget,D.cells,V.cells,allD,hget,hset,fz,zC,zN,h1,cmpI,h2]
 ·by_cases h3:b<a
  ·simp[c160,b160,put,eset,eget,D.cells,V.cells,allD,hget,hset,fz,zC,zN,h1,cmpI,h2,h3]
  ·simp[c160,b160,put,eset,eget,D.cells,V.cells,allD,hget,hset,fz,zC,zN,h1,cmpI,h2,h3]
theorem val_concat (ys:List Nat) (y:Nat):val 10000 (ys++[y])=val 10000 ys+10000 ^ ys.length*y:=by rw[val_append];simp[val]
theorem Groups.val_lt {ys:List Nat} (h:Groups ys):val 10000 ys<10000 ^ ys.length:=Num.val_lt (by omega) ys h
theorem val_concat_lt {ys ys':List Nat} (hl:ys.length=ys'.length) (h:Groups ys) {y y':Nat} (hy:y<y'):val 10000 (ys++[y])<val 10000 (ys'++[y']):=by
 rw[val_concat,val_concat,← hl]
 have:=h.val_lt
 have h2:10000 ^ ys.length*(y+1)≤10000 ^ ys.length*y':=Nat.mul_le_mul_left _ hy
 rw[Nat.mul_succ] at h2
 omega
theorem cmp_concat {ys ys':List Nat} (hl:ys.length=ys'.length) (h:Groups ys) (h':Groups ys') (y y':Nat) :
 cmpI (val 10000 (ys++[y])) (val 10000 (ys'++[y']))=if y=y' then cmpI (val 10000 ys) (val 10000 ys') else cmpI y y':=by
 by_cases he:y=y'
 ·subst he
  rw[if_pos rfl,val_concat,val_concat,hl]
  unfold cmpI
  have a1:(((val 10000 ys+10000 ^ ys'.length*y:Nat):Int)<((val 10000 ys'+10000 ^ ys'.length*y:Nat):Int))↔((val 10000 ys:Int)<val 10000 ys'):=by omega
  have a2:(((val 10000 ys'+10000 ^ ys'.length*y:Nat):Int)<((val 10000 ys+10000 ^ ys'.length*y:Nat):Int))↔((val 10000 ys':Int)<val 10000 ys):=by omega
  simp only[a1,a2]
 ·rw[if_neg he]
  unfold cmpI
  rcases Nat.lt_or_gt_of_ne he with h3 | h3
  ·have:=val_concat_lt hl h h3
   rw[if_pos (by omega),if_pos (by omega)]
  ·have:=val_concat_lt hl.symm h' h3
   rw[if_neg (by omega),if_pos (by omega),if_neg (by omega),if_pos (by omega)]
theorem Groups.left {ys zs:List Nat} (h:Groups (ys++zs)):Groups ys:=fun d hd=>h d (List.mem_append_left _ hd)
theorem digs_groups (n:Nat):Groups (digs 10000 n):=digs_lt (by omega) n
theorem cmp_length {a b:Nat} (h:(digs 10000 a).length≠(digs 10000 b).length):cmpI (digs 10000 a).length (digs 10000 b).length=cmpI a b:=by
 have key:∀ {a b:Nat},(digs 10000 a).length<(digs 10000 b).length→a<b:=by
  intro a b h
  have h1:a<10000 ^ (digs 10000 a).length:=(digs_length_le (by omega)).1 (Nat.le_refl _)
  have h2:¬ b<10000 ^ (digs 10000 a).length:=fun h3=>by have:=(digs_length_le (b:=10000) (by omega)).2 h3;omega
  omega
 unfold cmpI
 rcases Nat.lt_or_gt_of_ne h with h1 | h1
 ·have:=key h1
  rw[if_pos (by omega),if_pos (by omega)]
 ·have:=key h1
  rw[if_neg (by omega),if_pos (by omega),if_neg (by omega),if_pos (by omega)]
theorem exists_concat (xs:List Nat) {k:Nat} (h:xs.length=k+1):∃ ys y,xs=ys++[y]∧ys.length=k:=by
 rcases List.eq_nil_or_concat xs with h1 | ⟨ys,x,h1⟩
 ·subst h1;simp at h
 ·refine⟨ys,x,by simpa using h1,?_⟩
  subst h1;simp at h;exact h
theorem cmp_rounds (H:Hp) (bs:List Nat) (f:V) (hf:vlt H.length f=true):∀ (k:Nat) (ys ys' zs:List Nat),ys.length=k→ys'.length=k→bs=ys'++zs→Groups ys→Groups ys' →
 Rounds 0 [19,20] [(3,.p H.length 0),(4,.p (H.length+1) 0),(18,f)] l107_0 l107_1 (backs ys) (.box 3 [.d (.i .i64 0)]::.box 101 [.d (nl bs)]::H)
  (if ys=ys' then none else some .rt) (.box 3 [.d (.i .i64 (cmpI (val 10000 ys) (val 10000 ys')))]::.box 101 [.d (nl bs)]::H):=by
 intro k
 induction k with
 | zero =>
   intro ys ys' zs h1 h2 h3 g1 g2
   have e1:ys=[]:=List.eq_nil_of_length_eq_zero h1
   have e2:ys'=[]:=List.eq_nil_of_length_eq_zero h2
   subst e1 e2
   exact .nil _
 | succ k ih =>
   intro ys ys' zs h1 h2 h3 g1 g2
   obtain⟨ys,y,rfl,hl1⟩:=exists_concat ys h1
   obtain⟨ys',y',rfl,hl2⟩:=exists_concat ys' h2
   rw[backs_concat,cmp_concat (by omega) g1.left g2.left]
   have hi:bs[ys.length]? = some y':=by rw[h3,hl1,← hl2];simp
   have hl:ys.length<bs.length:=by rw[h3,hl1,← hl2];simp
   have hi2:bs[ys.length]=y':=by have:=List.getElem?_eq_getElem hl;rw[hi] at this;exact(Option.some.inj this).symm
   have ha:=allN bs
   have hc:=cmp_ok y y'
   by_cases he:y=y'
   ·subst he
    rw[if_pos rfl]
    have hq:(ys++[y]=ys'++[y])=(ys=ys'):=by apply propext;simp
    simp only[hq]
    refine .next (Round.mk' rfl (Upd.refl _ _) ?_) (ih ys ys' (y::zs) hl1 hl2 (by rw[h3];simp) g1.left g2.left)
    intro L0 L1;simp[l107_0,l107_1,put,eset,eget,D.cells,V.cells,allD,hget,hset,fz,zC,zN,nl,nI,hi,hi2,hl,ha]
   ·rw[if_neg he,if_neg (by simp[he])]
    have he':¬ ((y:Int)=(y':Int)):=by omega
    refine .stop (RoundX.mk' _ rfl ((Upd.refl _ _).top rfl) ?_ ?_)
    ·simp[obVlt,vlt,eget]
     have:=vlt_mono (show H.length≤H.length+3 by omega) f hf
     first | exact this | exact⟨by omega,this⟩
    ·intro L0 L1;simp[l107_0,l107_1,put,eset,eget,D.cells,V.cells,allD,hget,hset,fz,zC,zN,nl,nI,hi,hi2,hl,ha,he,he',hc]
theorem compare_ok (a b:Nat) (la:(digs 10000 a).length<4611686018427387904) (H:Hp) :
 callV cS false (fnV 107) [.d (nl (digs 10000 a)),.d (nl (digs 10000 b))] H=some (.val (.d (.i .i64 (cmpI a b))),H):=by
 rw[callV_fn (sf:=c107) rfl rfl rfl rfl]
 have hc:=cmp_ok (digs 10000 a).length (digs 10000 b).length
 have ha:=allN (digs 10000 a)
 have hb:=allN (digs 10000 b)
 by_cases hl:(digs 10000 a).length=(digs 10000 b).length
 ·have hr:=cmp_rounds H (digs 10000 b) (.d (.fn 178 [] [.fpc [nl (digs 10000 a)]])) rfl _ (digs 10000 a) (digs 10000 b) [] rfl hl.symm (by simp) (digs_groups a) (digs_groups b)
  have hy:=back_yields la
  have hk:=ranges_ok (F:=.t 18) (e:=[(3,.p H.length 0),(4,.p (H.length+1) 0),(18,.d (.fn 178 [] [.fpc [nl (digs 10000 a)]]))]) (by simp[aval,eget]) hy hr (by omega)
  have hbk:=backward_ok (digs 10000 a)
  rw[val_digs (by omega),val_digs (by omega)] at hk
  simp only[nl] at hk hbk
  by_cases he:digs 10000 a=digs 10000 b
  ·have hab:a=b:=by rw[← val_digs (b:=10000) (by omega) a,he,val_digs (by omega)]
   subst hab
   have hcm:cmpI a a=0:=by simp[cmpI]
   rw[if_pos rfl,hcm,jEx] at hk
   simp[c107,b107,nl,put,eset,eget,D.cells,V.cells,allD,hget,hset,fz,zC,zN,ha,hb,hl,hbk,hk,hcm]
  ·rw[if_neg he,jEx,jpEx] at hk
   simp[c107,b107,nl,put,eset,eget,D.cells,V.cells,allD,hget,hset,fz,zC,zN,ha,hb,hl,hbk,hk]
 ·have hl':¬ ((digs 10000 a).length:Int)=(digs 10000 b).length:=by omega
  rw[cmp_length hl] at hc
  simp[c107,b107,nl,put,eset,eget,D.cells,V.cells,allD,hget,hset,fz,zC,zN,ha,hb,hl,hl',hc]
def lenD (n:Nat):Nat:=(digs 10000 n).length
theorem lenD_le {n k:Nat}:lenD n≤k↔n<10000 ^ k:=digs_length_le (by omega)
theorem lt_lenD (n:Nat):n<10000 ^ lenD n:=lenD_le.1 (Nat.le_refl _)
theorem lenD_mono {a b:Nat} (h:a≤b):lenD a≤lenD b:=lenD_le.2 (Nat.lt_of_le_of_lt h (lt_lenD b))
theorem lenD_mul (a b:Nat):lenD (a*b)≤lenD a+lenD b:=by
 rw[lenD_le,Nat.pow_add]
 exact Nat.mul_lt_mul'' (lt_lenD a) (lt_lenD b)
theorem lenD_mul_val (a:Nat) {l:List Nat} (h:Groups l):lenD (a*val 10000 l)≤lenD a+l.length:=by
 rw[lenD_le,Nat.pow_add]
 exact Nat.mul_lt_mul'' (lt_lenD a) h.val_lt
theorem digs_shift {m:Nat} (h:m≠0):digs 10000 (10000*m)=0::digs 10000 m:=by
 rw[digs_pos (by omega) (by omega)]
 congr 1
 ·omega
 ·congr 1;omega
theorem map_vl (l:List Nat):List.map (V.d∘nI) l=vl l:=rfl
theorem times_rounds (H:Hp) (A:Nat) (f:V):∀ (k:Nat) (ys zs:List Nat),ys.length=k→Groups (ys++zs)→lenD A+ys.length+zs.length≤1000000 →
 Rounds 0 [10,11] [(2,.p H.length 0),(5,.p (H.length+1) 0),(9,f)] l164_0 l164_1 (backs ys) (.box 101 [.d (nl (digs 10000 (A*val 10000 zs)))]::.box 101 [.d (nl (digs 10000 A))]::H)
  none (.box 101 [.d (nl (digs 10000 (A*val 10000 (ys++zs))))]::.box 101 [.d (nl (digs 10000 A))]::H):=by
 intro k
 induction k with
 | zero =>
   intro ys zs h1 _ _
   have e1:ys=[]:=List.eq_nil_of_length_eq_zero h1
   subst e1
   exact .nil _
 | succ k ih =>
   intro ys zs h1 g h2
   obtain⟨ys,y,rfl,hl1⟩:=exists_concat ys h1
   rw[backs_concat]
   have hih:=ih ys (y::zs) hl1 (by simpa using g) (by simp at h2 ⊢; omega)
   simp only[List.append_assoc,List.singleton_append]
   refine .next (Round.mk' rfl ((Upd.refl _ _).top rfl) ?_) hih
   have hy:y<10000:=g y (by simp)
   have gz:Groups zs:=fun d hd=>g d (by simp[hd])
   have hb:=by_ok (digs 10000 A) y (digs_groups A) (by omega) (show lenD A≤_ by omega)
   rw[val_digs (by omega)] at hb
   have ha:=allN (digs 10000 (A*val 10000 zs))
   have ha2:=allN (digs 10000 A)
   have hv:val 10000 (y::zs)=y+10000*val 10000 zs:=rfl
   have l1:lenD (A*val 10000 zs)≤1000000:=Nat.le_trans (lenD_mul_val A gz) (by omega)
   have l2:lenD (A*y)≤1000000:=by
    refine Nat.le_trans (lenD_mul A y) ?_
    have:lenD y≤1:=lenD_le.2 (by omega)
    simp at h2;omega
   unfold lenD at l1 l2
   by_cases hm:A*val 10000 zs=0
   ·have hp:=plus_ok [] (digs 10000 (A*y)) (by intro d hd;simp at hd) (digs_groups _) (by simp) (by omega)
    rw[val_digs (by omega)] at hp
    have hr:A*val 10000 (y::zs)=0+A*y:=by rw[hv];grind
    simp only[val] at hp
    rw[hr]
    simp only[nl,nI,List.map_nil] at hp hb
    intro L0 L1;simp[l164_0,l164_1,put,eset,eget,D.cells,V.cells,allD,hget,hset,fz,zC,zN,hm,digs_zero,nl,nI,hp,hb]
   ·have hp:=plus_ok (0::digs 10000 (A*val 10000 zs)) (digs 10000 (A*y)) (by rw[← digs_shift hm];exact digs_groups _) (digs_groups _) (by simp<;>omega) (by omega)
    rw[val_digs (by omega)] at hp
    have hr:A*val 10000 (y::zs)=0+10000*(A*val 10000 zs)+A*y:=by rw[hv];grind
    simp only[val,val_digs (b:=10000) (by omega)] at hp
    rw[hr]
    have hne:digs 10000 (A*val 10000 zs)≠[]:=fun h=>hm ((digs_eq_nil (by omega)).1 h)
    have hlen:0<(digs 10000 (A*val 10000 zs)).length:=List.length_pos_iff.2 hne
    have bnd:(1+(digs 10000 (A*val 10000 zs)).length)*8≤140737488355328:=by omega
    have bnd2:1+(digs 10000 (A*val 10000 zs)).length≤140737488355328:=by omega
    have hom:=fun h n k=>omap_vl h n k (digs 10000 (A*val 10000 zs))
    have hav:=allV (digs 10000 (A*val 10000 zs))
    have hvl:=vl_len (digs 10000 (A*val 10000 zs))
    have h1l:(digs 10000 (A*val 10000 zs)).length+1=1+(digs 10000 (A*val 10000 zs)).length:=by omega
    simp only[nl,nI,List.map_cons,Int.ofNat_zero] at hp hb
    intro L0 L1;simp[l164_0,l164_1,put,eset,eget,D.cells,V.cells,allD,hget,hset,fz,zC,zN,hlen,nl,nI,hp,hb,ha,evApp,elemsOf,allCells,allCellsD,setParts,chunk1,notGr,map_vl,hav,bnd,bnd2,frzR,frzV,hvl,allD_vl,h1l]
theorem times_ok (a b:Nat) (la:lenD a+lenD b≤1000000) (H:Hp) :
 callV cS false (fnV 164) [.d (nl (digs 10000 a)),.d (nl (digs 10000 b))] H=some (.val (.d (nl (digs 10000 (a*b)))),H):=by
 rw[callV_fn (sf:=c164) rfl rfl rfl rfl]
 have ha:=allN (digs 10000 a)
 have hr:=times_rounds H a (.d (.fn 178 [] [.fpc [nl (digs 10000 b)]])) _ (digs 10000 b) [] rfl (by simpa using digs_groups b) (by simpa[lenD] using la)
 have hy:Yields (.d (.fn 178 [] [.fpc [nl (digs 10000 b)]])) (backs (digs 10000 b)):=back_yields (by unfold lenD at la;omega)
 have hk:=ranges_ok (F:=.t 9) (e:=[(2,.p H.length 0),(5,.p (H.length+1) 0),(9,.d (.fn 178 [] [.fpc [nl (digs 10000 b)]]))]) (by simp[aval,eget]) hy hr (by omega)
 have hbk:=backward_ok (digs 10000 b)
 simp only[List.append_nil,val_digs (b:=10000) (by omega),val,Nat.mul_zero,digs_zero,jEx] at hk
 simp only[nl,List.map_nil] at hk hbk
 simp[c164,b164,nl,put,eset,eget,D.cells,V.cells,allD,hget,hset,fz,zC,zN,ha,hbk,hk]
end
section
open Go Num
def PrAt (H:Hp) (f:V) (n:Nat) (p:Nat→Bool):Prop:=∀ h,Over H h→∀ i:Nat,i<n→callV cS false f [.d (.i .i64 i)] h=some (.val (.d (.b (p i))),h)
theorem search_loop {H:Hp}{f:V}{n r:Nat}{p:Nat→Bool} (hf:PrAt H f n p) (hn:n<4611686018427387904) (hlo:∀ i,i<r→p i=false) (hhi:∀ i,r≤i→i<n→p i=true):∀ (k i j:Nat),j-i≤k→i≤r→r≤j→j≤n →
 evI cS (.loop l152_0) none [(1,f),(5,.d (.i .i64 i)),(6,.d (.i .i64 j))] H=some (.ex 0,[(1,f),(5,.d (.i .i64 r)),(6,.d (.i .i64 r)),(11,.d (.b false))],H):=by
 intro k
 induction k with
 | zero =>
   intro i j h1 h2 h3 h4
   have e1:i=r:=by omega
   have e2:j=r:=by omega
   subst e1;subst e2
   rw[evI_loop]
   simp[l152_0,put,eset,eget,D.cells,V.cells,allD,hget,hset,fz,zC,zN]
 | succ k ih =>
   intro i j h1 h2 h3 h4
   by_cases hij:i<j
   ·have hij':(i:Int)<j:=by omega
    have w1:IntKind.i64.wrap ((i:Int)+j)=(i:Int)+j:=wr64 (by omega) (by omega)
    have w2:IntKind.u64.wrap ((i:Int)+j)=(i:Int)+j:=by unfold IntKind.wrap;simp[IntKind.bits,IntKind.signed];omega
    obtain⟨m,hm⟩:∃ m,m=(i+j)/2:=⟨_,rfl⟩
    have w4:IntKind.i64.wrap ((m:Int)+1)=((m+1:Nat):Int):=by rw[wr64 (by omega) (by omega)];omega
    have w6:shiftBin .shr .u64 ((i:Int)+j) 1=some (.i .u64 (m:Int)):=by
     have e:((i:Int)+j).fdiv 2=(m:Int):=by rw[Int.fdiv_eq_ediv_of_nonneg _ (by omega)];omega
     simp[shiftBin,IntKind.bits,e]
    have w7:IntKind.i64.wrap (m:Int)=(m:Int):=wr64 (by omega) (by omega)
    have hc:=hf H (Over.refl H) m (by omega)
    rw[evI_loop]
    by_cases hmr:m<r
    ·rw[hlo _ hmr] at hc
     have hih:=ih (m+1) j (by omega) (by omega) h3 h4
     simp only[l152_0,o1,mv,Int.natCast_add,Int.cast_ofNat_Int] at hih
     simp[l152_0,put,eset,eget,D.cells,V.cells,allD,hget,hset,fz,zC,zN,hij',w1,w2,w4,w6,w7,hc,hih]
    ·rw[hhi _ (by omega) (by omega)] at hc
     have hih:=ih i m (by omega) h2 (by omega) (by omega)
     simp only[l152_0,o1,mv] at hih
     simp[l152_0,put,eset,eget,D.cells,V.cells,allD,hget,hset,fz,zC,zN,hij',w1,w2,w4,w6,w7,hc,hih]
   ·exact ih i j (by omega) h2 h3 h4
theorem search_ok {H:Hp}{f:V}{n r:Nat}{p:Nat→Bool} (hf:PrAt H f n p) (hn:n<4611686018427387904) (hr:r≤n) (hlo:∀ i,i<r→p i=false) (hhi:∀ i,r≤i→i<n→p i=true) :
 callV cS false (fnV 152) [.d (.i .i64 n),f] H=some (.val (.d (.i .i64 r)),H):=by
 rw[callV_fn (sf:=c152) rfl rfl rfl rfl]
 have hl:=search_loop hf hn hlo hhi n 0 n (by omega) (by omega) hr (by omega)
 rw[show ((0:Nat):Int)=0 from rfl] at hl
 simp[c152,b152,put,eset,eget,D.cells,V.cells,allD,hget,hset,fz,zC,zN,hl]
end
section
open Go Num
theorem callV_first {keep:Bool}{g:FuncId}{x:D}{args:List V}{h:Hp}:callV cS keep (.d (.fn g [x] [])) args h=callV cS keep (fnV g) (.d x::args) h:=rfl
theorem over1_ok {H:Hp}{o8 o5 t8 t5:Nat}{B R:Nat} (hB:lenD B≤1000000) (h8:hget H o8=some (.box t8 [.d (.fn 150 [nl (digs 10000 B)] [])])) (h5:hget H o5=some (.box t5 [.d (nl (digs 10000 R))])) :
 PrAt H (.fn 151 [] [.p o8 0,.p o5 0]) 9999 fun i=>decide (R<B*(i+1)):=by
 intro h hh i hi
 rw[callV_fnV (sf:=c151) rfl rfl rfl rfl]
 have h8':hget h o8=_:=(hh.2 o8 (hget_lt' h8)).trans h8
 have h5':hget h o5=_:=(hh.2 o5 (hget_lt' h5)).trans h5
 have e1:=by_ok (digs 10000 B) (i+1) (digs_groups _) (by omega) (show lenD B≤_ by omega) h
 rw[← callV_first,val_digs (by omega)] at e1
 have l2:=lenD_mul B (i+1)
 have l3:lenD (i+1)≤1:=lenD_le.2 (by omega)
 have e2:=compare_ok (B*(i+1)) R (show lenD (B*(i+1))<_ by omega) h
 have w:IntKind.i64.wrap ((i:Int)+1)=((i+1:Nat):Int):=by rw[wr64 (by omega) (by omega)];omega
 have hd:(0:Int)<cmpI ((B*(i+1):Nat):Int) (R:Int)↔R<B*(i+1):=by
  unfold cmpI;split
  ·constructor<;>intro<;>omega
  ·split
   ·constructor<;>intro<;>omega
   ·constructor<;>intro<;>omega
 obtain⟨m,hm⟩:∃ m,m=B*(i+1):=⟨_,rfl⟩
 obtain⟨c,hc⟩:∃ c,c=cmpI ((B*(i+1):Nat):Int) (R:Int):=⟨_,rfl⟩
 obtain⟨i',hi'⟩:∃ i',i'=i+1:=⟨_,rfl⟩
 rw[← hc] at hd e2
 rw[← hm] at hd e1 e2
 rw[← hi'] at w e1
 simp only[← hi',← hm]
 simp only[nl,nI] at e1 e2 h8' h5'
 have hd':(decide (0<c))=decide (R<m):=by simp[hd]
 simp[c151,b151,put,eset,eget,D.cells,V.cells,allD,hget,hset,fz,zC,zN,h8',h5',w,e1,e2,hd']
 rw[hm,hi']
def qd (B:Nat):List Nat→List Nat×Nat
 | []=>([],0)
 | x::zs=>((x+10000*(qd B zs).2)/B::(qd B zs).1,(x+10000*(qd B zs).2)%B)
theorem qd_len (B:Nat) (zs:List Nat):(qd B zs).1.length=zs.length:=by induction zs<;>simp[qd, *]
theorem qd_lt {B:Nat} (hB:0<B) (zs:List Nat):(qd B zs).2<B:=by
 cases zs with
 | nil=>exact hB
 | cons x zs=>exact Nat.mod_lt _ hB
theorem qd_dig {B x r:Nat} (hB:0<B) (hr:r<B) (hx:x<10000):(x+10000*r)/B<10000:=by
 rw[Nat.div_lt_iff_lt_mul hB];omega
theorem qd_groups {B:Nat} (hB:0<B) {zs:List Nat} (h:Groups zs):Groups (qd B zs).1:=by
 induction zs with
 | nil=>intro d hd;simp[qd] at hd
 | cons x zs ih =>
   intro d hd
   have h1:=h x (by simp)
   rcases List.mem_cons.1 hd with hd | hd
   ·subst hd;exact qd_dig hB (qd_lt hB zs) h1
   ·exact ih (fun d hd=>h d (by simp[hd])) d hd
theorem qd_val {B:Nat} (zs:List Nat):val 10000 (qd B zs).1*B+(qd B zs).2=val 10000 zs:=by
 induction zs with
 | nil=>simp[qd,val]
 | cons x zs ih =>
   simp only[qd,val]
   have:=Nat.div_add_mod (x+10000*(qd B zs).2) B
   rw[← ih,Nat.add_mul]
   generalize (x+10000*(qd B zs).2)/B=q at *
   generalize (x+10000*(qd B zs).2)%B=r at *
   generalize (qd B zs).2=s at *
   generalize val 10000 (qd B zs).1=v at *
   grind
theorem qd_spec {B:Nat} (hB:0<B) {zs:List Nat} (h:Groups zs):trim (qd B zs).1=digs 10000 (val 10000 zs/B)∧(qd B zs).2=val 10000 zs%B:=by
 have h1:=qd_val (B:=B) zs
 have h2:=qd_lt hB zs
 constructor
 ·rw[trim_eq_digs (b:=10000) (by omega) _ (qd_groups hB h)]
  congr 1
  rw[← h1,Nat.add_comm,Nat.add_mul_div_right _ _ hB,Nat.div_eq_of_lt h2,Nat.zero_add]
 ·rw[← h1,Nat.add_comm,Nat.add_mul_mod_self_right,Nat.mod_eq_of_lt h2]
theorem vlts_vl (n:Nat) (l:List Nat):vlts n (vl l)=true:=by induction l<;>simp[vl,vlts,vlt] at * <;> assumption
theorem groups_tail {x:Nat}{zs:List Nat} (h:Groups (x::zs)):Groups zs:=fun d hd=>h d (by simp[hd])
noncomputable def overH (H:Hp) (B n:Nat) (qs:List Nat) (R:Nat):Hp:=.gr 3 1 (vl qs)::.box 101 [.d (nl (digs 10000 R))]::.box 101 [.gr (H.length+1+1+1) n]::.box 101 [.d (nl (digs 10000 B))]::H
def overE (H:Hp) (f:V):En:=[(3,.p H.length 0),(4,.p (H.length+1) 0),(5,.p (H.length+1+1) 0),(14,f)]
theorem set_vl (k:Nat) (qs:List Nat) (q:Nat):(vl (List.replicate (k+1) 0++qs)).set k (.d (nI q))=vl (List.replicate k 0++q::qs):=by
 have:List.replicate (k+1) 0++qs=List.replicate k 0++0::qs:=by rw[List.replicate_succ'];simp
 rw[this,vl_append,vl_append,List.set_append_right _ _ (by simp[vl])]
 simp[vl]
theorem over_round (H:Hp) (B:Nat) (hB:0<B) (lB:lenD B≤1000000) (f:V) (n k y:Nat) (qs:List Nat) (R R' q:Nat) (hR:R<B) (hy:y<10000) (hn:n=k+1+qs.length) (ln:n≤1000000) (hR':R'=y+10000*R) (hq':q=R'/B) :
 Round 0 [15,16] (overE H f) l102_0 l102_1 [.d (nI k),.d (nI y)] (overH H B n (List.replicate (k+1) 0++qs) R) (overH H B n (List.replicate k 0++q::qs) (R'%B)):=by
 have hq:=qd_dig hB hR hy
 rw[← hR',← hq'] at hq
 refine Round.mk' rfl ?_ ?_
 ·exact(((Upd.refl 0 (.box 101 [.gr (H.length+1+1+1) n]::.box 101 [.d (nl (digs 10000 B))]::H)).top (x:=.box 101 [.d (nl (digs 10000 R))]) (y:=.box 101 [.d (nl (digs 10000 (R'%B)))]) rfl).top (by simp[obVlt,vlts_vl]))
 ·have lR:=lenD_mono (Nat.le_of_lt hR)
  have tr:=trimmed_ok (y::digs 10000 R) (show (digs 10000 R).length+1<_ by unfold lenD at lR lB;omega)
  rw[trim_eq_digs (b:=10000) (by omega) _ (by intro d hd;rcases List.mem_cons.1 hd with h | h;(subst h;exact hy);exact digs_groups R d h),val,val_digs (by omega),← hR'] at tr
  have hBq:B*q≤R':=by rw[hq'];exact Nat.mul_div_le R' B
  have hBq2:R' - B*q=R'%B:=by have:=Nat.div_add_mod R' B;rw[← hq'] at this;omega
  have hBq3:R'<B*(q+1):=by have:=Nat.mod_lt R' hB;rw[Nat.mul_succ];omega
  have e1:=by_ok (digs 10000 B) q (digs_groups _) (by omega) (show lenD B≤_ by omega)
  rw[val_digs (by omega)] at e1
  have e1':∀ h,callV cS false (.d (.fn 150 [nl (digs 10000 B)] [])) [.d (nI q)] h=some (.val (.d (nl (digs 10000 (B*q)))),h):=e1
  have lR':lenD R'≤1000001:=by
   have h1:R'<10000 ^ (lenD B+1):=by
    have:=lt_lenD B
    rw[Nat.pow_succ];omega
   have:=lenD_le.2 h1;omega
  have e2:=minus_ok (digs 10000 R') (digs 10000 (B*q)) (digs_groups _) (digs_groups _) (show lenD R'≤_ by omega) (lenD_mono hBq) (by rw[val_digs (by omega),val_digs (by omega)];exact hBq)
  rw[val_digs (by omega),val_digs (by omega),hBq2] at e2
  intro L0 L1
  have hov:=over1_ok (B:=B) (R:=R') (t8:=140) (t5:=101) (o8:=H.length+1+1+1+1+1+1) (o5:=H.length+1+1) (H:=.box 140 [.d (.fn 150 [nl (digs 10000 B)] [])]::.dead::L1::overH H B n (List.replicate (k+1) 0++qs) R') lB (by simp[hget,overH,ane2,cne2]) (by simp[hget,overH,put,eset,eget,D.cells,V.cells,allD,hget,hset,fz,zC,zN])
  have hse:=search_ok (r:=q) hov (by omega) (by omega) (fun i hi=>by
   have:B*(i+1)≤B*q:=Nat.mul_le_mul_left _ hi
   simp;omega) (fun i hi _=>by
   have:B*(q+1)≤B*(i+1):=Nat.mul_le_mul_left _ (by omega)
   show decide _=_;rw[decide_eq_true_eq];omega)
  rw[show ((9999:Nat):Int)=9999 from rfl] at hse
  obtain⟨m,hm⟩:∃ m,m=B*q:=⟨_,rfl⟩
  rw[← hm] at e1' e2
  have hst:=set_vl k qs q
  have hgk:(vl (List.replicate (k+1) 0++qs)).length=n:=by rw[vl_len,hn];simp
  have hgk2:(vl (List.replicate k 0++q::qs)).length=n:=by rw[vl_len,hn];simp;omega
  have hkn:k<n:=by omega
  have hkn':(k:Int)<n:=by omega
  have hav:=allV (List.replicate (k+1) 0++qs)
  have hav2:=allV (List.replicate k 0++q::qs)
  have hav3:=allV (digs 10000 R)
  have hget1:(vl (List.replicate k 0++q::qs))[k]? = some (.d (nI q)):=by simp[vl]
  have hget0:(vl (List.replicate (k+1) 0++qs))[k]? = some (.d (nI 0)):=by simp[vl,List.getElem?_append]
  have hvl:=vl_len (digs 10000 R)
  have ha:=allN (digs 10000 R)
  have bnd:(1+(digs 10000 R).length)*8≤140737488355328:=by unfold lenD at lR lB;omega
  have bnd2:1+(digs 10000 R).length≤140737488355328:=by unfold lenD at lR lB;omega
  have h1l:(digs 10000 R).length+1=1+(digs 10000 R).length:=by omega
  obtain⟨V1,hV1⟩:∃ v,v=vl (List.replicate (k+1) 0++qs):=⟨_,rfl⟩
  obtain⟨V2,hV2⟩:∃ v,v=vl (List.replicate k 0++q::qs):=⟨_,rfl⟩
  simp only[overH,← hV1,← hV2] at hst hgk hgk2 hav hav2 hget0 hget1 hse ⊢
  simp only[nl,nI,overE,List.map_cons] at tr e1' e2 hse hget0 hget1 hst
  have hkn1:k<V1.length:=by rw[hgk];exact hkn
  have hkn2:k<V2.length:=by rw[hgk2];exact hkn
  have hgt1:V1[k]=.d (.i .i64 0):=by have:=List.getElem?_eq_getElem hkn1;rw[hget0] at this;exact(Option.some.inj this).symm
  have hgt2:V2[k]=.d (.i .i64 q):=by have:=List.getElem?_eq_getElem hkn2;rw[hget1] at this;exact(Option.some.inj this).symm
  simp[l102_0,l102_1,put,eset,eget,D.cells,V.cells,allD,hget,hset,fz,zC,zN,overE,nl,nI,tr,e1',e2,hse,hst,hgk,hgk2,hkn,hkn',hav,hav2,hav3,hgt1,hgt2,ha,evApp,elemsOf,allCells,allCellsD,setParts,chunk1,notGr,map_vl,bnd,bnd2,frzR,frzV,hvl,allD_vl,h1l]
theorem over_rounds (H:Hp) (B:Nat) (hB:0<B) (lB:lenD B≤1000000) (f:V) (n:Nat) (ln:n≤1000000):∀ (k:Nat) (ys zs:List Nat),ys.length=k→Groups (ys++zs)→n=ys.length+zs.length →
 Rounds 0 [15,16] (overE H f) l102_0 l102_1 (backs ys) (overH H B n (List.replicate k 0++(qd B zs).1) (qd B zs).2) none (overH H B n (qd B (ys++zs)).1 (qd B (ys++zs)).2):=by
 intro k
 induction k with
 | zero =>
   intro ys zs h1 _ _
   have e1:ys=[]:=List.eq_nil_of_length_eq_zero h1
   subst e1
   exact .nil _
 | succ k ih =>
   intro ys zs h1 g h2
   obtain⟨ys,y,rfl,hl1⟩:=exists_concat ys h1
   rw[backs_concat,hl1]
   have hih:=ih ys (y::zs) hl1 (by simpa using g) (by simp at h2 ⊢; omega)
   simp only[List.append_assoc,List.singleton_append]
   have hy:y<10000:=g y (by simp)
   exact .next (over_round H B hB lB f n k y (qd B zs).1 (qd B zs).2 _ _ (qd_lt hB zs) hy (by rw[qd_len];simp at h2;omega) ln rfl rfl) hih
theorem over_ok (a b:Nat) (hb:0<b) (la:lenD a≤1000000) (lb:lenD b≤1000000) (H:Hp) :
 callV cS false (fnV 102) [.d (nl (digs 10000 a)),.d (nl (digs 10000 b))] H=some (.val (.d (.tup [nl (digs 10000 (a/b)),nl (digs 10000 (a%b))])),H):=by
 rw[callV_fn (sf:=c102) rfl rfl rfl rfl]
 obtain⟨xs,hxs⟩:∃ xs,xs=digs 10000 a:=⟨_,rfl⟩
 have hxl:xs.length≤1000000:=by rw[hxs];exact la
 have gx:Groups xs:=by rw[hxs];exact digs_groups a
 have hr:=over_rounds H b hb lb (.d (.fn 178 [] [.fpc [nl xs]])) xs.length hxl _ xs [] rfl (by simpa using gx) (by simp)
 have hy:Yields (.d (.fn 178 [] [.fpc [nl xs]])) (backs xs):=back_yields (by omega)
 have hk:=ranges_ok (F:=.t 14) (by simp[aval,eget,overE]) hy hr (by omega)
 have hbk:=backward_ok xs
 have hv:val 10000 xs=a:=by rw[hxs,val_digs (by omega)]
 obtain⟨s1,s2⟩:=qd_spec hb gx
 have hql:=qd_len b xs
 rw[hv] at s1 s2
 simp only[List.append_nil,jEx,overH,overE] at hk
 rw[s2] at hk
 have tr:=trimmed_ok (qd b xs).1 (by rw[hql];omega)
 rw[s1] at tr
 rw[← hxs]
 obtain⟨qs,hqs⟩:∃ qs,qs=(qd b xs).1:=⟨_,rfl⟩
 rw[← hqs] at hk tr hql
 have hz:vl (List.replicate xs.length 0++(qd b []).1)=List.replicate xs.length (.d (.i .i64 0)):=by simp[vl,qd,nI]
 rw[hz] at hk
 have b1:(xs.length:Int)*8≤140737488355328:=by omega
 have b2:(xs.length:Int)≤140737488355328:=by omega
 have ha:=allN xs
 have ha2:=allN qs
 have hvl:=vl_len qs
 simp only[nl,List.map_nil,qd,digs_zero] at hk hbk tr
 simp[c102,b102,nl,put,eset,eget,D.cells,V.cells,allD,hget,hset,fz,zC,zN,ha,hbk,hk,b1,b2,chunk1,frzV,allD_vl,hvl,hql,tr]
end
section
open Go Num
theorem callV_orc {g:FuncId}{ds:List D}{x:D}{h:Hp} (ho:orcF g ds=some x):callV cS false (fnV g) (ds.map .d) h=some (.val (.d x),h):=by
 have hc:cS (.fn g) (ds.map .d) h=some (.ret (.d x),h):=by
  have:orcOf S g (ds.map .d)=some x:=by
   unfold orcOf
   rw[allD_map]
   exact ho
  exact callI_O SX this
 simp only[callV,List.map_nil,List.nil_append,List.append_nil,hc]
 simp[fz,fin_val,HOk.refl,trunc_self]
theorem trimPrefix_unsign (l:List UInt8):Lib.trimPrefix l [45]=unsign l:=by
 match l with
 | []=>rfl
 | b::l =>
   by_cases h:b=45
   ·subst h;simp[Lib.trimPrefix,Lib.hasPrefix,unsign]
   ·have h1:unsign (b::l)=b::l:=by
     unfold unsign
     split
     ·rename_i e;cases e;exact absurd rfl h
     ·rfl
    have h2:(45==b)=false:=by simp;exact fun e=>h e.symm
    rw[h1]
    simp[Lib.trimPrefix,Lib.hasPrefix]
    exact fun e=>h e.symm
def digits:List UInt8:=[48,49,50,51,52,53,54,55,56,57]
theorem digits_contains (b:UInt8):digits.contains b=isDig b:=by
 have key:∀ n,n<256→digits.contains (UInt8.ofNat n)=isDig (UInt8.ofNat n):=by decide
 have:=key b.toNat (UInt8.toNat_lt b)
 rwa [UInt8.ofNat_toNat] at this
theorem dropWhile_nil {p:UInt8→Bool} (l:List UInt8):l.dropWhile p=[]↔∀ x∈l,p x=true:=by
 induction l with
 | nil=>simp
 | cons x l ih =>
   by_cases h:p x=true
   ·simp[List.dropWhile_cons,h,ih]
   ·simp[List.dropWhile_cons,h]
theorem dropWhile_head {p:UInt8→Bool}:∀ (l:List UInt8) {x:UInt8}{r:List UInt8},l.dropWhile p=x::r→p x=false
 | [],_,_,h=>by simp at h
 | y::l,x,r,h=>by
   by_cases h1:p y=true
   ·rw[List.dropWhile_cons,if_pos h1] at h;exact dropWhile_head l h
   ·rw[List.dropWhile_cons,if_neg h1] at h
    cases h;simpa using h1
theorem trimS_digits (l:List UInt8):(Lib.trimS l digits=[])↔l.all isDig=true:=by
 unfold Lib.trimS Lib.trimLeftS Lib.trimRightS
 simp only[digits_contains]
 rw[dropWhile_nil]
 constructor
 ·intro h
  rw[List.all_eq_true]
  cases hn:l.reverse.dropWhile isDig with
  | nil =>
    have:=(dropWhile_nil l.reverse).1 hn
    exact fun x hx=>this x (by simpa using hx)
  | cons y r =>
    exfalso
    have h1:=dropWhile_head _ hn
    have h2:=h y (by rw[List.mem_reverse];show y∈l.reverse.dropWhile isDig;rw[hn];simp)
    rw[h2] at h1;cases h1
 ·intro h x hx
  rw[List.all_eq_true] at h
  rw[List.mem_reverse] at hx
  have:=(List.dropWhile_sublist (l:=l.reverse) isDig).subset hx
  exact h x (by simpa using this)
theorem call_trimPrefix (a b:List UInt8) (h:Hp):callV cS false (fnV 175) [.d (.s a),.d (.s b)] h=some (.val (.d (.s (Lib.trimPrefix a b))),h) :=
 callV_orc (ds:=[.s a,.s b]) rfl
theorem call_trim (a b:List UInt8) (h:Hp) (ha:a.length≤9223372036854775807) (hb:b.length<4294967281) (hc:b.all (fun b=>decide (b.toNat<128))=true):callV cS false (fnV 176) [.d (.s a),.d (.s b)] h=some (.val (.d (.s (Lib.trimS a b))),h) :=
 callV_orc (ds:=[.s a,.s b]) (by simp[orcF,ha,hb,hc])
theorem isValid_ok (l:List UInt8) (H:Hp):callV cS false (fnV 146) [.d (.s l)] H=some (.val (.d (.b (validI l))),H):=by
 rw[callV_fn (sf:=c146) rfl rfl rfl rfl]
 have h1:=call_trimPrefix l [45]
 rw[trimPrefix_unsign] at h1
 obtain⟨u,hu⟩:∃ u,u=unsign l:=⟨_,rfl⟩
 unfold validI
 rw[← hu] at h1 ⊢
 cases u with
 | nil=>simp[c146,b146,put,eset,eget,D.cells,V.cells,allD,hget,hset,fz,zC,zN,h1]
 | cons b r =>
   by_cases hl:200<(b::r).length
   ·have hl':(200:Int)<((r.length:Int)+1):=by simp at hl;omega
    have hl2:decide ((b::r).length≤200)=false:=by rw[decide_eq_false_iff_not];omega
    rw[hl2]
    simp[c146,b146,put,eset,eget,D.cells,V.cells,allD,hget,hset,fz,zC,zN,h1,hl']
   ·have hl':¬ (200:Int)<((r.length:Int)+1):=by simp at hl;omega
    have h2:=fun h=>call_trim (b::r) digits h (by omega) (by decide) (by decide)
    have h3:=trimS_digits (b::r)
    have hl2:decide ((b::r).length≤200)=true:=by rw[decide_eq_true_eq];omega
    rw[hl2]
    by_cases ha:(b::r).all isDig=true
    ·rw[h3.2 ha] at h2
     simp only[digits] at h2
     rw[ha]
     by_cases hs:l=[48]
     ·have hs':(l==[48])=true:=by rw[hs];rfl
      simp[c146,b146,put,eset,eget,D.cells,V.cells,allD,hget,hset,fz,zC,zN,h1,hl',h2,hs']
     ·have hs':(l==[48])=false:=by rw[beq_eq_false_iff_ne];exact hs
      have hb:(((b.toNat:Int)) != 48)=(some b != some 48):=by
       by_cases e:b=48
       ·subst e;rfl
       ·have e2:¬ b.toNat=48:=fun h=>e (by rw[← UInt8.toNat_inj];exact h)
        have:((b.toNat:Int) != 48)=true:=by simp;omega
        rw[this];simp[e]
      simp[c146,b146,put,eset,eget,D.cells,V.cells,allD,hget,hset,fz,zC,zN,h1,hl',h2,hs',hs]
      exact hb
    ·have hne:¬ Lib.trimS (b::r) digits=[]:=fun h=>ha (h3.1 h)
     have hne2:(Lib.trimS (b::r) digits==[])=false:=by rw[beq_eq_false_iff_ne];exact hne
     rw[show (b::r).all isDig=false by simpa using ha]
     obtain⟨t,ht⟩:∃ t,t=Lib.trimS (b::r) digits:=⟨_,rfl⟩
     rw[← ht] at h2 hne2
     simp only[digits] at h2
     simp[c146,b146,put,eset,eget,D.cells,V.cells,allD,hget,hset,fz,zC,zN,h1,hl',h2,hne2]
end
section
open Go Num
def allDig (u:List UInt8):Prop:=∀ b∈u,isDig b=true
theorem decFrom_dval (u:List UInt8) (h:allDig u) (a:Nat):Lib.decFrom a u=some (u.foldl (fun a b=>10*a+(b.toNat-48)) a):=by
 induction u generalizing a with
 | nil=>rfl
 | cons b u ih =>
   have hb:=h b (by simp)
   simp only[isDig,Bool.and_eq_true,decide_eq_true_eq] at hb
   simp only[Lib.decFrom,Lib.digitVal,hb,and_self,if_true,List.foldl_cons]
   rw[ih (fun b hb=>h b (by simp[hb])),Nat.mul_comm a 10]
theorem atoi_dval (u:List UInt8) (h:allDig u) (hne:u≠[]):Lib.atoi u=some (dval u:Int):=by
 cases u with
 | nil=>exact absurd rfl hne
 | cons b u =>
   have hb:=h b (by simp)
   have h1:(b==45)=false:=by rw[beq_eq_false_iff_ne];intro e;subst e;cases hb
   have h2:(b==43)=false:=by rw[beq_eq_false_iff_ne];intro e;subst e;cases hb
   simp[Lib.atoi,h1,h2,Lib.decNat,decFrom_dval _ h,dval]
theorem dval_lt (u:List UInt8) (h:allDig u):dval u<10 ^ u.length:=by
 rw[dval_eq]
 have:=val_lt (b:=10) (by omega) (dg u.reverse) (by
  intro d hd
  simp only[dg,List.mem_map,List.mem_reverse] at hd
  obtain⟨b,hb,rfl⟩:=hd
  have:=h b hb
  simp only[isDig,Bool.and_eq_true,decide_eq_true_eq] at this
  omega)
 simpa[dg] using this
def grp (u:List UInt8):List Nat:=if h:u=[] then [] else dval (u.drop (u.length-4))::grp (u.take (u.length-4))
termination_by u.length
decreasing_by
 have:0<u.length:=List.length_pos_iff.2 h
 simp;omega
theorem grp_nil:grp []=[]:=by rw[grp];simp
theorem grp_ne {u:List UInt8} (h:u≠[]):grp u=dval (u.drop (u.length-4))::grp (u.take (u.length-4)):=by rw[grp,dif_neg h]
theorem allDig.take {u:List UInt8} (h:allDig u) (k:Nat):allDig (u.take k):=fun b hb=>h b (List.mem_of_mem_take hb)
theorem allDig.drop {u:List UInt8} (h:allDig u) (k:Nat):allDig (u.drop k):=fun b hb=>h b (List.mem_of_mem_drop hb)
theorem dval4 {u:List UInt8} (h:allDig u):dval (u.drop (u.length-4))<10000:=by
 have:=dval_lt _ (h.drop (u.length-4))
 have hl:(u.drop (u.length-4)).length≤4:=by simp;omega
 have:10 ^ (u.drop (u.length-4)).length≤10 ^ 4:=Nat.pow_le_pow_right (by omega) hl
 omega
theorem grp_spec (k:Nat):∀ u,u.length≤k→allDig u→Groups (grp u)∧val 10000 (grp u)=dval u∧(grp u).length≤u.length:=by
 induction k with
 | zero =>
   intro u h _
   have:u=[]:=List.eq_nil_of_length_eq_zero (by omega)
   subst this
   rw[grp_nil]
   exact⟨fun d hd=>by simp at hd,rfl,by simp⟩
 | succ k ih =>
   intro u h hd
   by_cases hne:u=[]
   ·subst hne;rw[grp_nil];exact⟨fun d hd=>by simp at hd,rfl,by simp⟩
   ·have hpos:0<u.length:=List.length_pos_iff.2 hne
    obtain⟨h1,h2,h3⟩:=ih (u.take (u.length-4)) (by simp<;>omega) (hd.take _)
    rw[grp_ne hne]
    refine⟨?_,?_,?_⟩
    ·intro d hd'
     rcases List.mem_cons.1 hd' with h | h
     ·subst h;exact dval4 hd
     ·exact h1 d h
    ·rw[val,h2]
     have:=dval_append (u.take (u.length-4)) (u.drop (u.length-4))
     rw[List.take_append_drop] at this
     rw[this]
     by_cases h4:4≤u.length
     ·have hl:(u.drop (u.length-4)).length=4:=by simp;omega
      rw[hl];omega
     ·have hl:u.take (u.length-4)=[]:=by rw[show u.length-4=0 by omega];rfl
      rw[hl];simp[dval]
    ·simp only[List.length_cons];simp at h3;omega
theorem call_atoi (u:List UInt8) (hd:allDig u) (hne:u≠[]) (hl:u.length≤18) (h:Hp):callV cS false (fnV 177) [.d (.s u)] h=some (.val (.d (.tup [.i .i64 (dval u),.nili])),h) :=
 callV_orc (ds:=[.s u]) (by simp[orcF,hl,atoi_dval u hd hne])
noncomputable def parseH (H:Hp) (neg:Bool) (gs:List Nat):Hp:=.box 103 [.d (.b neg),.gr (H.length+1) gs.length]::.gr 3 1 (vl gs)::.box 103 [.d (.b false),.d (.ls [])]::H
def parseE (H:Hp) (u:List UInt8):En:=[(2,.p H.length 0),(3,.d (.s u)),(4,.p (H.length+1+1) 0)]
theorem parse_loop (H:Hp) (neg:Bool):∀ (k:Nat) (u:List UInt8) (gs:List Nat),u.length≤k→allDig u→u.length+gs.length≤1000 →
 evI cS (.loop l147_0) none (parseE H u) (parseH H neg gs)=some (.ex 0,parseE H []++[(18,.d (.b false))],parseH H neg (gs++grp u)):=by
 intro k
 induction k with
 | zero =>
   intro u gs h1 hd hb
   have:u=[]:=List.eq_nil_of_length_eq_zero (by omega)
   subst this
   rw[evI_loop,grp_nil,List.append_nil]
   simp[l147_0,put,eset,eget,D.cells,V.cells,allD,hget,hset,fz,zC,zN,parseE]
 | succ k ih =>
   intro u gs h1 hd hb
   by_cases hne:u=[]
   ·subst hne
    rw[evI_loop,grp_nil,List.append_nil]
    simp[l147_0,put,eset,eget,D.cells,V.cells,allD,hget,hset,fz,zC,zN,parseE]
   ·have hpos:0<u.length:=List.length_pos_iff.2 hne
    have hih:=ih (u.take (u.length-4)) (gs++[dval (u.drop (u.length-4))]) (by simp<;>omega) (hd.take _) (by simp<;>omega)
    rw[evI_loop,grp_ne hne]
    rw[List.append_assoc,List.singleton_append] at hih
    obtain⟨m,hm⟩:∃ m,m=u.length-4:=⟨_,rfl⟩
    have hdne:u.drop m≠[]:=by intro h;have:=congrArg List.length h;simp at this;omega
    have hat:=call_atoi (u.drop m) (hd.drop _) hdne (by simp<;>omega)
    rw[← hm] at hih ⊢
    have w1:IntKind.i64.wrap ((u.length:Int)-4)=(u.length:Int)-4:=wr64 (by omega) (by omega)
    have hmx:(if (4:Int)<(u.length:Int) then (u.length:Int)-4 else 0)=(m:Int):=by split<;>omega
    have hpos':(0:Int)<u.length:=by omega
    have hml:m≤u.length:=by omega
    have hml':(m:Int)≤u.length:=by omega
    have hdt:(u.take u.length).drop m=u.drop m:=by rw[List.take_length]
    obtain⟨v,hv⟩:∃ v,v=dval (u.drop m):=⟨_,rfl⟩
    rw[← hv] at hat hih
    have hvl:=vl_len gs
    have hav:=allV gs
    have bnd:(gs.length+1)*8≤140737488355328:=by omega
    have bnd2:gs.length+1≤140737488355328:=by omega
    have hva:vl (gs++[v])=vl gs++[.d (.i .i64 v)]:=by simp[vl,nI]
    simp only[parseH,hva,List.length_append,List.length_singleton,parseE] at hih ⊢
    obtain⟨w,hw⟩:∃ w,w=vl gs:=⟨_,rfl⟩
    rw[← hw] at hih hvl hav ⊢
    simp only[l147_0,o1,mv] at hih
    simp[l147_0,put,eset,eget,D.cells,V.cells,allD,hget,hset,fz,zC,zN,w1,hmx,hpos,hat,hml,hml',bounds,boundOf,evApp,elemsOf,allCells,allCellsD,setParts,chunk1,notGr,hvl,hav,bnd,bnd2,hih,frzV]
    rw[hv]
def dI (neg:Bool) (n:Nat):D:=.agg [.b neg,nl (digs 10000 n)]
theorem neg_len (l:List UInt8):decide ((unsign l).length<l.length)=neg l:=by
 cases l with
 | nil=>rfl
 | cons b l =>
   unfold unsign neg
   split
   ·rename_i e;cases e;simp
   ·rename_i h
    have:¬ b=45:=fun e=>h l (by rw[e])
    simp[this]
theorem parse_ok (l:List UInt8) (hd:allDig (unsign l)) (hl:(unsign l).length≤500) (H:Hp) :
 callV cS false (fnV 147) [.d (.s l)] H=some (.val (.d (dI (neg l) (dval (unsign l)))),H):=by
 rw[callV_fn (sf:=c147) rfl rfl rfl rfl]
 have h1:=call_trimPrefix l [45]
 rw[trimPrefix_unsign] at h1
 have hn:=neg_len l
 obtain⟨u,hu⟩:∃ u,u=unsign l:=⟨_,rfl⟩
 rw[← hu] at hd hl h1 hn ⊢
 have hlp:=parse_loop H (neg l) _ u [] (Nat.le_refl _) hd (by simp<;>omega)
 obtain⟨g1,g2,g3⟩:=grp_spec _ u (Nat.le_refl _) hd
 have tr:=trimmed_ok (grp u) (by omega)
 rw[trim_eq_digs (b:=10000) (by omega) _ g1,g2] at tr
 have hvl:=vl_len (grp u)
 obtain⟨ng,hng⟩:∃ ng,ng=neg l:=⟨_,rfl⟩
 rw[← hng] at hn hlp ⊢
 simp only[parseH,parseE,List.nil_append,show vl []=[] from rfl,List.length_nil] at hlp
 obtain⟨gs,hgs⟩:∃ gs,gs=grp u:=⟨_,rfl⟩
 rw[← hgs] at hlp tr hvl
 simp only[nl] at tr
 simp[c147,b147,put,eset,eget,D.cells,V.cells,allD,hget,hset,fz,zC,zN,h1,hn,hlp,dI,frzV,hvl,allD_vl,tr,nl]
end
section
open Go Num
def pad4 (g:Nat):List UInt8:=List.replicate (4-(txtN g).length) 48++txtN g
def W:List Nat→List UInt8
 | []=>[]
 | y::zs=>if zs=[] then txtN y else W zs++pad4 y
theorem txtN_pos {n:Nat} (h:0<n):txtN n=(digs 10 n).reverse.map ch:=by unfold txtN;rw[if_neg (by omega)]
theorem pad4_eq {g:Nat} (h:g<10000):pad4 g=[ch (g/1000),ch (g/100%10),ch (g/10%10),ch (g%10)]:=by
 unfold pad4
 by_cases h0:g=0
 ·subst h0;rfl
 ·rw[txtN_pos (by omega)]
  by_cases h1:g<10
  ·rw[digs_pos (by omega) (by omega),show g/10=0 by omega,digs_zero]
   have e1:g/1000=0:=by omega
   have e2:g/100%10=0:=by omega
   simp[e1,e2,List.replicate,ch]
  ·by_cases h2:g<100
   ·rw[digs_pos (by omega) (by omega),digs_pos (by omega) (by omega),show g/10/10=0 by omega,digs_zero]
    have e1:g/1000=0:=by omega
    have e2:g/100%10=0:=by omega
    simp[e1,e2,List.replicate,ch]
   ·by_cases h3:g<1000
    ·rw[digs_pos (by omega) (by omega),digs_pos (by omega) (by omega),digs_pos (by omega) (by omega),show g/10/10/10=0 by omega,digs_zero]
     have e1:g/1000=0:=by omega
     have e3:g/10/10=g/100:=by omega
     simp[e1,e3,List.replicate,ch]
    ·rw[digs_pos (by omega) (by omega),digs_pos (by omega) (by omega),digs_pos (by omega) (by omega),digs_pos (by omega) (by omega),show g/10/10/10/10=0 by omega,digs_zero]
     have e2:g/100/10%10=g/1000:=by omega
     have e3:g/10/10=g/100:=by omega
     simp[e2,e3,List.replicate]
theorem txtN_group {g m:Nat} (hg:g<10000) (hm:0<m):txtN (g+10000*m)=txtN m++pad4 g:=by
 rw[pad4_eq hg,txtN_pos (by omega),txtN_pos hm,digs_pos (by omega) (by omega),digs_pos (by omega) (by omega),digs_pos (by omega) (by omega),digs_pos (by omega) (by omega)]
 have e0:(g+10000*m)/10/10/10/10=m:=by omega
 have e1:(g+10000*m)%10=g%10:=by omega
 have e2:(g+10000*m)/10%10=g/10%10:=by omega
 have e3:(g+10000*m)/10/10%10=g/100%10:=by omega
 have e4:(g+10000*m)/10/10/10%10=g/1000:=by omega
 rw[e0,e1,e2,e3,e4]
 simp
theorem W_digs (n:Nat) (h:0<n):W (digs 10000 n)=txtN n:=by
 induction n using Nat.strongRecOn with
 | _ n ih =>
   rw[digs_pos (by omega) h,W]
   by_cases h1:n/10000=0
   ·rw[h1,digs_zero,if_pos rfl]
    congr 1;omega
   ·rw[if_neg (by rw[digs_eq_nil (by omega)];exact h1),ih _ (by omega) (by omega),← txtN_group (by omega) (by omega)]
    congr 1;omega
theorem decDigits_txtN (n:Nat):Lib.decDigits n=txtN n:=by
 induction n using Nat.strongRecOn with
 | _ n ih =>
   rw[Lib.decDigits]
   split
   ·rename_i h
    by_cases h0:n=0
    ·subst h0;rfl
    ·rw[txtN_pos (by omega),digs_pos (by omega) (by omega),show n/10=0 by omega,digs_zero,show n%10=n by omega];rfl
   ·rename_i h
    rw[ih _ (by omega),txtN_pos (n:=n) (by omega),txtN_pos (by omega),digs_pos (n:=n) (by omega) (by omega)]
    simp[ch]
theorem itoa_txtN (n:Nat):Lib.itoa n=txtN n:=by
 unfold Lib.itoa
 rw[if_neg (by omega),Int.toNat_natCast,decDigits_txtN]
theorem repeatL_zero (c:Nat):Lib.repeatL [48] c=List.replicate c 48:=by
 induction c with
 | zero=>rfl
 | succ c ih=>rw[Lib.repeatL,ih];rfl
theorem call_X {f:FuncId}{g:CallF→List V→Hp→Option (Out×Hp)}{args:List V}{h:Hp} (h1:noOrc f=true) (h2:xF f=some g):cS (.fn f) args h=g cS args h:=callI_X SX (orcN h1 args) h2
theorem call_itoa (n:Nat) (hn:n<1000000000000) (h:Hp) (hg:hget h 4=some (.ro pow10V)):callV cS false (fnV 157) [.d (.i .i64 n)] h=some (.val (.d (.s (txtN n))),h):=by
 have hc:cS (.fn 157) [.d (.i .i64 n)] h=some (.ret (.d (.s (txtN n))),h):=by
  rw[call_X (g:=fun _=>xItoa) rfl rfl]
  simp only[xItoa,hg]
  rw[if_pos ⟨trivial,by omega,by omega⟩,itoa_txtN]
 simp only[callV,List.map_nil,List.nil_append,List.append_nil,hc]
 simp[fin_val,HOk.refl,trunc_self]
theorem call_repeat (c:Nat) (hc:c≤1000) (h:Hp):callV cS false (fnV 120) [.d (.s [48]),.d (.i .i64 c)] h=some (.val (.d (.s (List.replicate c 48))),h) :=
 callV_orc (ds:=[.s [48],.i .i64 c]) (by
  have h1:(0:Int)≤c∧(c:Int)≤9223372036854775807∧[(48:UInt8)].length*(c:Int).toNat≤140737488355328:=⟨by omega,by omega,by simp;omega⟩
  simp only[orcF]
  rw[if_pos h1]
  simp[repeatL_zero])
def bv (l:List UInt8):List V:=l.map fun b=>.d (.i .u8 b.toNat)
theorem bv_len (l:List UInt8):(bv l).length=l.length:=by simp[bv]
theorem bv_append (l m:List UInt8):bv (l++m)=bv l++bv m:=by simp[bv]
theorem allB (l:List UInt8):allCells 1 (bv l)=true:=by induction l<;>simp[bv,allCells,V.cells,D.cells,scVs,scV,scD] at * <;> assumption
theorem bytesV_bv (l:List UInt8):bytesV (bv l)=some l:=by
 induction l with
 | nil=>rfl
 | cons b l ih =>
   have h2:((b.toNat:Int)<256):=by have:=b.toNat_lt;omega
   have h1:(0:Int)≤b.toNat:=by omega
   have h3:UInt8.ofNat (b.toNat:Int).toNat=b:=by simp
   simp only[bv,List.map_cons,bytesV] at ih ⊢
   rw[if_pos ⟨h1,h2⟩,ih,h3]
theorem vlts_bv (n:Nat) (l:List UInt8):vlts n (bv l)=true:=by induction l<;>simp[bv,vlts,vlt] at * <;> assumption
theorem HOk_hset {h h':Hp}{o:Nat}{x:Ob} (hh:HOk h h') (hx:obVlt h.length x=true):HOk h (hset h' o x):=by
 intro o' ob ho hg
 by_cases e:o=o'
 ·subst e
  have:=hget_lt' hg
  rw[hset_len] at this
  rw[hget_hset this] at hg
  cases hg;exact .inr hx
 ·rw[hget_hset_ne e] at hg;exact hh o' ob ho hg
theorem trunc_hset_self {h:Hp}{h':Hp} (hl:h'.length=h.length):trunc h.length h'=h':=by rw[← hl];exact trunc_self _
theorem call_copy {h:Hp}{o g n:Nat}{x:V} (ho:hget h o=some (.box 147 [x,.gr g n])) (hx:x=.d .nilp∨x=.p o 0) (hg:g<h.length) :
 callV cS false (fnV 181) [.p o 0] h=some (.val (.d (.tup [])),hset h o (.box 147 [.p o 0,.gr g n])):=by
 have hol:=hget_lt' ho
 have hc:cS (.fn 181) [.p o 0] h=some (.ret (.d (.tup [])),hset h o (.box 147 [.p o 0,.gr g n])):=by
  rw[call_X (g:=fun _=>xCopy) rfl rfl]
  simp only[xCopy,ho]
  rcases hx with rfl | rfl
  ·simp
  ·simp[hset_self ho]
 have hk:HOk h (hset h o (.box 147 [.p o 0,.gr g n])):=HOk_hset (HOk.refl h) (by simp[obVlt,vlts,vlt,hol,hg])
 simp only[callV,List.map_nil,List.nil_append,List.append_nil,hc]
 rw[fin_val,if_pos ⟨by rw[hset_len];omega,hk⟩,trunc_hset_self (hset_len _ _ _)]
theorem write_ok {h:Hp}{o g n:Nat}{x:V}{l s:List UInt8} (ho:hget h o=some (.box 147 [x,.gr g n])) (hx:x=.d .nilp∨x=.p o 0) (hg:hget h g=some (.gr 5 1 (bv l))) (hn:n=l.length) (hb:l.length+s.length≤1000000) :
 callV cS false (fnV 158) [.p o 0,.d (.s s)] h=some (.val (.d (.tup [.i .i64 s.length,.nili])),hset (hset (hset h o (.box 147 [.p o 0,.gr g n])) g (.gr 5 1 (bv (l++s)))) o (.box 147 [.p o 0,.gr g (l++s).length])):=by
 have hol:=hget_lt' ho
 have hgl:=hget_lt' hg
 have hne:o≠g:=fun e=>by subst e;rw[ho] at hg;cases hg
 have hcp:=call_copy ho hx hgl
 rw[callV_fn (sf:=c158) rfl rfl rfl rfl]
 obtain⟨h1,hh1⟩:∃ h1,h1=hset h o (.box 147 [.p o 0,.gr g n]):=⟨_,rfl⟩
 have l1:h1.length=h.length:=by rw[hh1,hset_len]
 have g1:hget h1 o=some (.box 147 [.p o 0,.gr g n]):=by rw[hh1,hget_hset hol]
 have g2:hget h1 g=some (.gr 5 1 (bv l)):=by rw[hh1,hget_hset_ne hne,hg]
 rw[← hh1] at hcp ⊢
 obtain⟨h2,hh2⟩:∃ h2,h2=hset h1 g (.gr 5 1 (bv (l++s))):=⟨_,rfl⟩
 have l2:h2.length=h.length:=by rw[hh2,hset_len,l1]
 have g3:hget h2 o=some (.box 147 [.p o 0,.gr g n]):=by rw[hh2,hget_hset_ne hne.symm,g1]
 have hk1:HOk h h1:=by rw[hh1];exact HOk_hset (HOk.refl h) (by simp[obVlt,vlts,vlt,hol,hgl])
 have hk:HOk h (hset h2 o (.box 147 [.p o 0,.gr g (l++s).length])):=by
  refine HOk_hset ?_ (by simp[obVlt,vlts,vlt,hol,hgl])
  rw[hh2]
  exact HOk_hset hk1 (by simp[obVlt,vlts_bv])
 have hbl:=bv_len l
 have hal:=allB l
 have hal2:=allB s
 have bnd:l.length+s.length≤140737488355328:=by omega
 have hfin:=trunc_hset_self (h:=h) (h':=hset h2 o (.box 147 [.p o 0,.gr g (l++s).length])) (by rw[hset_len,l2])
 have hlen:h.length≤(hset h2 o (.box 147 [.p o 0,.gr g (l++s).length])).length:=by rw[hset_len,l2];omega
 have hev:evApp 5 1 1 (.gr g n) (.d (.s s)) h1=some (.val (.gr g (l++s).length),h2):=by
  have hal3:allCells 1 (List.map (fun b=>V.d (.i .u8 b.toNat)) s)=true:=hal2
  simp only[evApp,elemsOf,g2,if_true,hal,hal2,hal3,bv_len,hn]
  rw[hh2,bv_append]
  simp[cIf_pos,bnd,bv_len,hal3,bv,notGr,ok]
 rw[← hh2]
 simp only[List.length_append] at hk hfin hlen hev ⊢
 simp[c158,b158,put,eset,eget,D.cells,V.cells,allD,hget,hset,fz,zC,zN,hcp,g1,hev,g3,fin_val,hfin,hk,hlen]
theorem call_string {h:Hp}{o g n:Nat}{x:V}{l:List UInt8} (ho:hget h o=some (.box 147 [x,.gr g n])) (hg:hget h g=some (.gr 5 1 (bv l))) (hn:n=l.length) (h0:l≠[]) (hb:l.length≤1000000) :
 callV cS false (fnV 159) [.p o 0] h=some (.val (.d (.s l)),hset h g .dead):=by
 have hpos:l.length≠0:=fun h=>h0 (List.eq_nil_of_length_eq_zero h)
 have hc:cS (.fn 159) [.p o 0] h=some (.ret (.d (.s l)),hset h g .dead):=by
  rw[call_X (g:=fun _=>xStr) rfl rfl]
  simp only[xStr,ho,hg]
  rw[if_pos ⟨trivial,trivial,by rw[bv_len,hn],by omega,by omega⟩,bytesV_bv]
 have hk:HOk h (hset h g .dead):=HOk_hset (HOk.refl h) rfl
 simp only[callV,List.map_nil,List.nil_append,List.append_nil,hc]
 rw[fin_val,if_pos ⟨by rw[hset_len];omega,hk⟩,trunc_hset_self (hset_len _ _ _)]
def Glb (H:Hp):Prop:=hget H 4=some (.ro pow10V)
theorem Over.glb {H h:Hp} (hh:Over H h) (hg:Glb H):Glb h:=(hh.2 _ (hget_lt' hg)).trans hg
theorem Glb.cons {H:Hp} (hg:Glb H) (x:Ob):Glb (x::H):=(Over.refl H).cons.glb hg
def fstB (H:Hp) (zs:List Nat):V:=if zs=[] then .d .nilp else .p (H.length+1+1) 0
def textH (H:Hp) (neg:Bool) (gs zs:List Nat):Hp:=.box 147 [fstB H zs,.gr (H.length+1) (W zs).length]::.gr 5 1 (bv (W zs))::.box 103 [.d (.b neg),.d (nl gs)]::H
def textE (H:Hp) (f:V):En:=[(1,.p H.length 0),(4,.p (H.length+1+1) 0),(15,f)]
theorem txtN_len4 {y:Nat} (h:y<10000):(txtN y).length≤4:=(txtN_length (by omega)).2 (by omega)
theorem pad4_len {y:Nat} (h:y<10000):(pad4 y).length=4:=by rw[pad4_eq h];rfl
theorem W_len (zs:List Nat) (h:Groups zs):(W zs).length≤4*zs.length:=by
 induction zs with
 | nil=>simp[W]
 | cons y zs ih =>
   have hy:=h y (by simp)
   have:=ih (groups_tail h)
   rw[W]
   split
   ·have:=txtN_len4 hy;simp;omega
   ·rw[List.length_append,pad4_len hy];simp;omega
theorem text_round (H:Hp) (hG:Glb H) (neg:Bool) (gs zs:List Nat) (y k:Nat) (f:V) (hy:y<10000) (hz:Groups zs) (hl:gs.length=k+1+zs.length) (hb:gs.length≤1000) :
 Round (H.length+3) [16,17] (textE H f) l106_0 l106_1 [.d (nI k),.d (nI y)] (textH H neg gs zs) (textH H neg gs (y::zs)):=by
 have hu:Upd (H.length+3) (textH H neg gs zs) (textH H neg gs (y::zs)):=by
  refine Upd.top (Upd.top (Upd.refl _ _) (by simp[obVlt,vlts_bv])) ?_
  simp[obVlt,vlts,vlt,fstB]
 have hwl:=W_len zs hz
 refine Round.mk' rfl hu ?_
 intro L0 L1
 have hG1:Glb (L1::textH H neg gs zs):=(((hG.cons _).cons _).cons _).cons _
 have hit:=call_itoa y (by omega) _ hG1
 have hg1:hget (L1::textH H neg gs zs) (H.length+1+1)=some (.box 147 [fstB H zs,.gr (H.length+1) (W zs).length]):=by simp[textH,hget,put,eset,eget,D.cells,V.cells,allD,hget,hset,fz,zC,zN]
 have hg2:hget (L1::textH H neg gs zs) (H.length+1)=some (.gr 5 1 (bv (W zs))):=by simp[textH,hget,put,eset,eget,D.cells,V.cells,allD,hget,hset,fz,zC,zN]
 have hfb:fstB H zs=.d .nilp∨fstB H zs=.p (H.length+1+1) 0:=by unfold fstB;split<;>simp
 have ha:=allN gs
 have w1:IntKind.i64.wrap ((gs.length:Int)-1)=(gs.length:Int)-1:=wr64 (by omega) (by omega)
 by_cases hz0:zs=[]
 ·subst hz0
  have hkn:¬ ((k:Int)<(gs.length:Int)-1):=by simp at hl;omega
  have hw:=write_ok (s:=txtN y) hg1 hfb hg2 rfl (by have:=txtN_len4 hy;omega)
  have hW:W []++txtN y=W [y]:=by simp[W]
  rw[hW] at hw
  have hf2:fstB H [y]=.p (H.length+1+1) 0:=rfl
  simp only[textH,hf2] at hit hw ⊢
  obtain⟨w0,hw0⟩:∃ w0,w0=W []:=⟨_,rfl⟩
  obtain⟨w1',hw1⟩:∃ w1,w1=W [y]:=⟨_,rfl⟩
  obtain⟨fb,hfb'⟩:∃ fb,fb=fstB H []:=⟨_,rfl⟩
  rw[← hw0,← hfb'] at hit
  rw[← hw0,← hw1,← hfb'] at hw ⊢
  simp[hset,put,eset,eget,D.cells,V.cells,allD,hget,hset,fz,zC,zN] at hw
  simp only[nl] at hit hw
  simp[l106_0,l106_1,put,eset,eget,D.cells,V.cells,allD,hget,hset,fz,zC,zN,textE,nI,nl,ha,w1,hkn,hit,hw]
 ·have hkn:(k:Int)<(gs.length:Int)-1:=by
   have:0<zs.length:=List.length_pos_iff.2 hz0
   omega
  have ht4:=txtN_len4 hy
  have hW:W zs++pad4 y=W (y::zs):=by rw[W,if_neg hz0]
  have hw:=write_ok (s:=pad4 y) hg1 hfb hg2 rfl (by rw[pad4_len hy];omega)
  rw[hW] at hw
  have hrp:=call_repeat (4-(txtN y).length) (by omega)
  have w2:IntKind.i64.wrap (4-((txtN y).length:Int))=((4-(txtN y).length:Nat):Int):=by rw[wr64 (by omega) (by omega)];omega
  have hp4:List.replicate (4-(txtN y).length) 48++txtN y=pad4 y:=rfl
  have hpl:4-(txtN y).length+(txtN y).length≤9223372036854775807:=by omega
  have hf2:fstB H (y::zs)=.p (H.length+1+1) 0:=rfl
  simp only[textH,hf2] at hit hw ⊢
  obtain⟨w0,hw0⟩:∃ w0,w0=W zs:=⟨_,rfl⟩
  obtain⟨w1',hw1⟩:∃ w1,w1=W (y::zs):=⟨_,rfl⟩
  obtain⟨fb,hfb'⟩:∃ fb,fb=fstB H zs:=⟨_,rfl⟩
  obtain⟨t,ht⟩:∃ t,t=txtN y:=⟨_,rfl⟩
  obtain⟨m,hm⟩:∃ m,m=4-t.length:=⟨_,rfl⟩
  obtain⟨r,hr⟩:∃ r,r=List.replicate m (48:UInt8):=⟨_,rfl⟩
  have hrl:r.length=m:=by rw[hr];simp
  rw[← hw0,← hfb',← ht] at hit
  rw[← ht,← hm] at hrp w2 hp4 hpl
  rw[← hr] at hrp hp4
  rw[← hw0,← hw1,← hfb'] at hw ⊢
  simp[hset,put,eset,eget,D.cells,V.cells,allD,hget,hset,fz,zC,zN] at hw
  simp only[nl] at hit hw
  simp[l106_0,l106_1,put,eset,eget,D.cells,V.cells,allD,hget,hset,fz,zC,zN,textE,nI,nl,ha,w1,hkn,hit,hw,hrp,w2,hp4,hpl,hrl]
theorem text_rounds (H:Hp) (hG:Glb H) (neg:Bool) (gs:List Nat) (f:V) (hg:Groups gs) (hb:gs.length≤1000):∀ (k:Nat) (ys zs:List Nat),ys.length=k→gs=ys++zs →
 Rounds (H.length+3) [16,17] (textE H f) l106_0 l106_1 (backs ys) (textH H neg gs zs) none (textH H neg gs gs):=by
 intro k
 induction k with
 | zero =>
   intro ys zs h1 h2
   have e1:ys=[]:=List.eq_nil_of_length_eq_zero h1
   subst e1
   rw[h2]
   exact .nil _
 | succ k ih =>
   intro ys zs h1 h2
   obtain⟨ys,y,rfl,hl1⟩:=exists_concat ys h1
   rw[backs_concat,hl1]
   have hih:=ih ys (y::zs) hl1 (by rw[h2];simp)
   exact .next (text_round H hG neg gs zs y k f (hg y (by rw[h2];simp)) (fun d hd=>hg d (by rw[h2];simp[hd])) (by rw[h2];simp;omega) hb) hih
def txtD (neg:Bool) (n:Nat):D:=if n=0 then .tup [.s [48],.i .i64 0] else if 200<(txtN n).length then .tup [.s [],.i .i64 30] else if neg=true then .tup [.s (45::txtN n),.i .i64 0] else .tup [.s (txtN n),.i .i64 0]
theorem text_ok (neg:Bool) (n:Nat) (hn:lenD n≤1000) (H:Hp) (hG:Glb H) :
 callV cS false (fnV 106) [.d (dI neg n)] H=some (.val (.d (txtD neg n)),H):=by
 rw[callV_fn (sf:=c106) rfl rfl rfl rfl]
 by_cases h0:n=0
 ·subst h0
  simp[c106,b106,dI,nl,put,eset,eget,D.cells,V.cells,allD,hget,hset,fz,zC,zN,digs_zero,txtD]
 ·have hne:digs 10000 n≠[]:=fun h=>h0 ((digs_eq_nil (by omega)).1 h)
  have hpos:¬ (digs 10000 n).length=0:=fun h=>hne (List.eq_nil_of_length_eq_zero h)
  have hr:=text_rounds H hG neg (digs 10000 n) (.d (.fn 178 [] [.fpc [nl (digs 10000 n)]])) (digs_groups n) hn _ (digs 10000 n) [] rfl (by simp)
  have hy:Yields (.d (.fn 178 [] [.fpc [nl (digs 10000 n)]])) (backs (digs 10000 n)):=back_yields (by unfold lenD at hn;omega)
  have hk:=ranges_ok (F:=.t 15) (by simp[aval,eget,textE]) hy hr (by simp[textH])
  have hbk:=backward_ok (digs 10000 n)
  have hWn:=W_digs n (by omega)
  have hWl:=W_len (digs 10000 n) (digs_groups n)
  have htn:=txtN_ne n
  have hfs:fstB H (digs 10000 n)=.p (H.length+1+1) 0:=by unfold fstB;rw[if_neg hne]
  simp only[jEx,textH,textE,hWn,hfs,show fstB H []=.d .nilp from rfl,show W []=[] from rfl,show bv []=[] from rfl,List.length_nil] at hk
  rw[hWn] at hWl
  obtain⟨t,ht⟩:∃ t,t=txtN n:=⟨_,rfl⟩
  obtain⟨gs,hgs⟩:∃ gs,gs=digs 10000 n:=⟨_,rfl⟩
  simp only[txtD,if_neg h0,dI]
  rw[← ht,← hgs] at hk
  rw[← ht] at hWl htn
  rw[← hgs] at hWl hpos hbk
  rw[← ht,← hgs]
  have hst:=call_string (h:=.box 147 [.p (H.length+1+1) 0,.gr (H.length+1) t.length]::.gr 5 1 (bv t)::.box 103 [.d (.b neg),.d (nl gs)]::H) (o:=H.length+1+1) (g:=H.length+1) (x:=.p (H.length+1+1) 0) (n:=t.length) (l:=t) (by simp[hget]) (by simp[hget]) rfl htn (by unfold lenD at hn;rw[← hgs] at hn;omega)
  have hgl:gs.length≤1000:=by rw[hgs];exact hn
  have w1:IntKind.i64.wrap ((gs.length:Int)-1)=(gs.length:Int)-1:=wr64 (by omega) (by omega)
  have ha:=allN gs
  have hpos':¬ ((gs.length:Int)=0):=by omega
  have hb1:1+t.length≤9223372036854775807:=by omega
  have hb2:t.length+1≤9223372036854775807:=by omega
  simp only[nl] at hk hbk hst
  simp[hset] at hst
  by_cases hl:200<t.length
  ·have hl':(200:Int)<t.length:=by omega
   simp[c106,b106,nl,put,eset,eget,D.cells,V.cells,allD,hget,hset,fz,zC,zN,ha,hpos',hpos,hbk,hk,hst,hl',hl]
  ·have hl':¬ (200:Int)<t.length:=by omega
   cases neg
   ·simp[c106,b106,nl,put,eset,eget,D.cells,V.cells,allD,hget,hset,fz,zC,zN,ha,hpos',hpos,hbk,hk,hst,hl',hl]
   ·simp[c106,b106,nl,put,eset,eget,D.cells,V.cells,allD,hget,hset,fz,zC,zN,ha,hpos',hpos,hbk,hk,hst,hl',hl,hb1,hb2]
end
section
open Go Num
def sg (neg:Bool) (n:Nat):Int:=if neg=true then -(n:Int) else n
def dZ (z:Int):D:=dI (decide (z<0)) z.natAbs
theorem sg_dZ (z:Int):sg (decide (z<0)) z.natAbs=z:=by unfold sg;split<;>simp at * <;> omega
def dzero:D:=.agg [.b false,.ls []]
def errI:D:=.tup [.s [],.i .i64 30]
open Classical in
noncomputable def fitD (z:Int):D:=if Fits z then .tup [.s (txt z),.i .i64 0] else errI
theorem fits_len (n:Nat):(txtN n).length≤200↔n<10 ^ 200:=txtN_length (by omega)
theorem txtD_fit (neg:Bool) (n:Nat):txtD neg n=fitD (sg neg n):=by
 unfold txtD fitD
 have hf:=fits_len n
 by_cases h0:n=0
 ·subst h0
  have hz:sg neg 0=0:=by unfold sg;split<;>rfl
  rw[if_pos rfl,hz,if_pos (by unfold Fits;exact Nat.pow_pos (by omega)),txt_zero]
 ·rw[if_neg h0]
  have hn:(sg neg n).natAbs=n:=by unfold sg;split<;>omega
  by_cases hl:200<(txtN n).length
  ·rw[if_pos hl,if_neg (by unfold Fits;rw[hn];intro h;have:=hf.2 h;omega)];rfl
  ·rw[if_neg hl,if_pos (show Fits (sg neg n) by unfold Fits;rw[hn];exact hf.1 (by omega))]
   unfold txt sg
   cases neg
   ·have:¬ ((n:Int)<0):=by omega
    simp[this]
   ·have:(-(n:Int))<0:=by omega
    simp[this,h0]
theorem fits_lenD {z:Int} (h:Fits z):lenD z.natAbs≤50:=by
 rw[lenD_le]
 have:(10000:Nat) ^ 50=10 ^ 200:=by rw[show (10000:Nat)=10 ^ 4 from rfl,← Nat.pow_mul]
 rw[this];exact h
theorem call_valid (l:List UInt8) (H:Hp):callV cS false (fnV 146) [.d (.s l)] H=some (.val (.d (.b (ival l).isSome)),H):=by
 rw[isValid_ok]
 unfold ival
 by_cases h:validI l=true
 ·rw[if_pos h,h];rfl
 ·rw[if_neg h];simp at h;rw[h];rfl
theorem call_parse {l:List UInt8}{z:Int} (h:ival l=some z) (H:Hp):callV cS false (fnV 147) [.d (.s l)] H=some (.val (.d (dZ z)),H):=by
 obtain⟨hf,rfl⟩:=ival_some h
 have h1:=fits_len z.natAbs
 rw[parse_ok _ (by rw[unsign_txt];exact txtN_dig _) (by rw[unsign_txt];have:=h1.2 hf;omega),unsign_txt,neg_txt,dval_txtN];rfl
theorem both_some {a b:List UInt8}{x y:Int} (ha:ival a=some x) (hb:ival b=some y) (H:Hp) :
 callV cS false (fnV 101) [.d (.s a),.d (.s b)] H=some (.val (.d (.tup [dZ x,dZ y,.b true])),H):=by
 rw[callV_fn (sf:=c101) rfl rfl rfl rfl]
 have h1:=call_valid a
 have h2:=call_valid b
 have h3:=call_parse ha
 have h4:=call_parse hb
 rw[ha] at h1
 rw[hb] at h2
 simp only[dZ,dI,nl] at h3 h4
 simp[c101,b101,put,eset,eget,D.cells,V.cells,allD,hget,hset,fz,zC,zN,h1,h2,h3,h4,dZ,dI,nl]
theorem both_none {a b:List UInt8} (h:ival a=none∨ival b=none) (H:Hp) :
 callV cS false (fnV 101) [.d (.s a),.d (.s b)] H=some (.val (.d (.tup [dzero,dzero,.b false])),H):=by
 rw[callV_fn (sf:=c101) rfl rfl rfl rfl]
 have h1:=call_valid a
 have h2:=call_valid b
 by_cases ha:ival a=none
 ·rw[ha] at h1
  simp[c101,b101,put,eset,eget,D.cells,V.cells,allD,hget,hset,fz,zC,zN,h1,dzero]
 ·have hb:ival b=none:=by rcases h with h | h;exact absurd h ha;exact h
  rw[hb] at h2
  have ha':(ival a).isSome=true:=Option.isSome_iff_ne_none.2 ha
  rw[ha'] at h1
  simp[c101,b101,put,eset,eget,D.cells,V.cells,allD,hget,hset,fz,zC,zN,h1,h2,dzero]
def plusD (na:Bool) (a:Nat) (nb:Bool) (b:Nat):Bool×Nat:=if na=nb then (na,a+b) else if b≤a then (na,a-b) else (nb,b-a)
theorem plusD_sg (na:Bool) (a:Nat) (nb:Bool) (b:Nat):sg (plusD na a nb b).1 (plusD na a nb b).2=sg na a+sg nb b:=by
 unfold plusD
 split
 ·rename_i h;subst h;simp only[sg];split<;>omega
 ·rename_i h
  split<;>cases na<;>cases nb<;>simp[sg] at * <;> omega
theorem signed_plus_ok (na nb:Bool) (a b:Nat) (la:lenD a≤1000000) (lb:lenD b≤1000000) (H:Hp) :
 callV cS false (fnV 117) [.d (dI na a),.d (dI nb b)] H=some (.val (.d (dI (plusD na a nb b).1 (plusD na a nb b).2)),H):=by
 rw[callV_fn (sf:=c117) rfl rfl rfl rfl]
 have h1:=plus_ok (digs 10000 a) (digs 10000 b) (digs_groups a) (digs_groups b) (show lenD a≤_ by omega) (show lenD b≤_ by omega)
 have h2:=compare_ok a b (show lenD a<_ by omega)
 rw[val_digs (by omega),val_digs (by omega)] at h1
 simp only[nl] at h1 h2
 have q1:=allN (digs 10000 a)
 have q2:=allN (digs 10000 b)
 by_cases hn:na=nb
 ·subst hn
  have hp:plusD na a na b=(na,a+b):=by simp[plusD]
  simp[c117,b117,put,eset,eget,D.cells,V.cells,allD,hget,hset,fz,zC,zN,dI,nl,h1,hp]
 ·have hb:(na==nb)=false:=by rw[beq_eq_false_iff_ne];exact hn
  by_cases hab:b≤a
  ·have hp:plusD na a nb b=(na,a-b):=by simp[plusD,hn,hab]
   have hc:(0:Int)≤cmpI a b:=by unfold cmpI;rw[if_neg (by omega)];split<;>omega
   have h3:=minus_ok (digs 10000 a) (digs 10000 b) (digs_groups a) (digs_groups b) (show lenD a≤_ by omega) (lenD_mono hab) (by rw[val_digs (by omega),val_digs (by omega)];exact hab)
   rw[val_digs (by omega),val_digs (by omega)] at h3
   simp only[nl] at h3
   simp[c117,b117,put,eset,eget,D.cells,V.cells,allD,hget,hset,fz,zC,zN,dI,nl,h2,h3,hp,hn,hb,hc]
  ·have hp:plusD na a nb b=(nb,b-a):=by simp[plusD,hn,hab]
   have hc:¬ (0:Int)≤cmpI a b:=by unfold cmpI;rw[if_pos (by omega)];omega
   have h3:=minus_ok (digs 10000 b) (digs 10000 a) (digs_groups b) (digs_groups a) (show lenD b≤_ by omega) (lenD_mono (by omega)) (by rw[val_digs (by omega),val_digs (by omega)];omega)
   rw[val_digs (by omega),val_digs (by omega)] at h3
   simp only[nl] at h3
   simp[c117,b117,put,eset,eget,D.cells,V.cells,allD,hget,hset,fz,zC,zN,dI,nl,h2,h3,hp,hn,hb,hc]
end
end Go.Proofs.YtmiioebapckcoaaGreatDoor
