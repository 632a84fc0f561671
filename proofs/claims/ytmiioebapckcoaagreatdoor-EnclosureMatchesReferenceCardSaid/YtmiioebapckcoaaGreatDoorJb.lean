/- Part 2 of a proof: the small semantics, its soundness, the functions of the program in it, and the law. -/
import Derived.Laws.StructEq
import Derived.Laws.Strings
import Derived.Laws.Unary
import Derived.Laws.Cells
import Derived.Laws.CopyRow
import Derived.Laws.AppendOwn
import Derived.Laws.MakeOwn
import Derived.Laws.Append
import Derived.CallsIn
import Derived.Test.YtmiioebapckcoaaGreatDoorJa
set_option linter.unusedVariables false
set_option linter.unusedSimpArgs false
namespace Go.Proofs.YtmiioebapckcoaaGreatDoor
section
open Go
section
variable {P:Program}{O:Bs}{w:World}
theorem run_und {t:TypeId}{d:TypeDesc} (h:P.underlying t=some d) (w:World):(underlying t).run P w=.ok d w:=run_underlying h w
theorem bytes_toList (l:List UInt8):(ByteArray.mk l.toArray).toList=l:=ByteArray.toList_mk l
theorem intBin_ok {op:BinOp}{k:IntKind}{a b:Int}{d:D} (hs:isShift op=false) (h:intBin op k a b=some d) (t:TypeId) :
 ∃ c,(binOp op t (.int k a) (.int k b)).run P w=.ok c w∧HD O w d c:=by
 cases op<;>simp only[intBin] at h<;>(try (simp[isShift] at hs;done)) <;>
  first
  | (split at h
     ·cases h
     ·rename_i hb;cases h;refine⟨_,?_,HD.i _ _⟩;simp[binOp,Op.intDiv,hb])
  | (cases h;refine⟨_,?_,HD.i _ _⟩;simp[binOp,Op.intArith];done)
  | (cases h;refine⟨_,?_,HD.i _ _⟩;simp only[binOp,ne_eq,not_true_eq_false,if_false,Op.intBits,Sem.run_pure];done)
  | (cases h;refine⟨_,?_,HD.b _⟩;simp[binOp,Op.intCmp];done)
  | cases h
theorem shiftBin_ok {op:BinOp}{k k':IntKind}{a b:Int}{d:D} (h:shiftBin op k a b=some d) (t:TypeId) :
 ∃ c,(binOp op t (.int k a) (.int k' b)).run P w=.ok c w∧HD O w d c:=by
 unfold shiftBin at h
 split at h
 ·cases h
 ·rename_i hb
  cases op<;>simp only at h<;>first
   | (cases h;refine⟨_,?_,HD.i _ _⟩;simp only[binOp,Op.shift,if_neg hb,Sem.run_pure];done)
   | cases h
theorem strBin_ok {op:BinOp}{a b:List UInt8}{d:D} (h:strBin op a b=some d) (t:TypeId) :
 ∃ c,(binOp op t (.string ⟨a.toArray⟩) (.string ⟨b.toArray⟩)).run P w=.ok c w∧HD O w d c:=by
 cases op<;>simp only[strBin] at h<;>first
  | (obtain⟨hl,h⟩:=cIf_some h
     ·cases h
      refine⟨_,?_,.s _⟩
      have e1:((⟨a.toArray⟩:ByteArray)++(⟨b.toArray⟩:ByteArray))=⟨(a++b).toArray⟩:=by
       apply ByteArray.ext;simp
      have e2:¬ (((ByteArray.mk a.toArray).size+(ByteArray.mk b.toArray).size:Nat):Int)>IntKind.i64.max:=by
       have h1:(ByteArray.mk a.toArray).size=a.length:=by simp[ByteArray.size]
       have h2:(ByteArray.mk b.toArray).size=b.length:=by simp[ByteArray.size]
       have h3:IntKind.i64.max=9223372036854775807:=by decide
       rw[h1,h2,h3];omega
      simp only[binOp,Op.stringOp,if_neg e2,Sem.run_pure,e1])
  | (cases h;exact⟨_,by simp only[binOp,Op.stringOp,bytes_toList,Sem.run_pure],.b _⟩)
  | cases h
theorem boolEq_ok {a b:Bool}{t:TypeId} (ht:P.underlying t=some .bool) :
 (binOp .eql t (.bool a) (.bool b)).run P w=.ok (.bool (a==b)) w∧(binOp .neq t (.bool a) (.bool b)).run P w=.ok (.bool (!(a==b))) w:=by
 constructor<;>simp only[binOp,Op.equal,Op.maxDepth,Sem.run_bind,run_equalIn_bool' w _ t a b ht,Result.andThen_ok,Sem.run_pure]
theorem unD_ok {op:UnOp}{x d:D}{c:Value} (h:unD op x=some d) (hx:HD O w x c):∃ c',(Op.unary op c).run P w=.ok c' w∧HD O w d c':=by
 cases x<;>simp only[unD] at h<;>(try cases h)
 ·cases hx
  cases op<;>simp only at h<;>first
   | (cases h;refine⟨_,?_,HD.b _⟩;simp[Op.unary])
   | cases h
 ·cases hx
  cases op<;>simp only at h<;>first
   | (cases h;refine⟨_,?_,HD.i _ _⟩;simp[Op.unary,Op.intArith])
   | cases h
def HDs (O:Bs) (w:World) (xs:List D) (a:Array Value):Prop:=a.size=xs.length∧∀ (j:Nat) v,xs[j]? = some v→HD O w v (a.getD j undef)
theorem HDs.get {xs:List D}{a:Array Value} (h:HDs O w xs a) {j:Nat}{v:D} (hv:xs[j]? = some v):∃ c,a[j]? = some c∧HD O w v c:=by
 have hl:j<xs.length:=(List.getElem?_eq_some_iff.1 hv).1
 have hj:j<a.size:=by rw[h.1];exact hl
 have:=h.2 j v hv
 rw[Array.getD_eq_getD_getElem?,Array.getElem?_eq_getElem hj] at this
 exact⟨a[j],Array.getElem?_eq_getElem hj,this⟩
theorem HDs.extract {xs:List D}{a:Array Value} (h:HDs O w xs a) (i n:Nat) (hl:i+n≤xs.length):HDs O w ((xs.drop i).take n) (a.extract i (i+n)):=by
 have h1:=h.1
 refine⟨by simp[h1];omega,fun j v hv=>?_⟩
 rw[List.getElem?_take] at hv
 split at hv
 ·rename_i hj
  rw[List.getElem?_drop] at hv
  have:=h.2 (i+j) v hv
  rw[Array.getD_eq_getD_getElem?] at this ⊢
  rw[Array.getElem?_extract,if_pos (by omega)]
  exact this
 ·cases hv
theorem eqKs_append:∀ {ks ls:List CK}{xs ys:List D}{r:Bool},eqKs (ks++ls) xs ys=some r →
 ∃ p q,eqKs ks (xs.take ks.length) (ys.take ks.length)=some p∧eqKs ls (xs.drop ks.length) (ys.drop ks.length)=some q∧r=(p&&q)
 | [],ls,xs,ys,r,h=>⟨true,r,by simp[eqKs],by simpa using h,by simp⟩
 | k::ks,ls,xs,ys,r,h=>by
   cases xs with
   | nil=>simp[eqKs] at h
   | cons x xs =>
     cases ys with
     | nil=>simp[eqKs] at h
     | cons y ys =>
       simp only[List.cons_append,eqKs] at h
       cases h1:eqCell k x y with
       | none=>rw[h1] at h;cases h
       | some p0 =>
         cases h2:eqKs (ks++ls) xs ys with
         | none=>rw[h1,h2] at h;cases h
         | some q0 =>
           rw[h1,h2] at h;cases h
           obtain⟨p,q,g1,g2,g3⟩:=eqKs_append h2
           refine⟨p0&&p,q,?_,by simpa using g2,by rw[g3,Bool.and_assoc]⟩
           simp[eqKs,h1,g1]
theorem eqKs_length:∀ {ks:List CK}{xs ys:List D}{r:Bool},eqKs ks xs ys=some r→xs.length=ks.length∧ys.length=ks.length
 | [],xs,ys,r,h=>by cases xs<;>cases ys<;>simp[eqKs] at h ⊢
 | k::ks,xs,ys,r,h=>by
   cases xs with
   | nil=>simp[eqKs] at h
   | cons x xs =>
     cases ys with
     | nil=>simp[eqKs] at h
     | cons y ys =>
       simp only[eqKs] at h
       cases h1:eqCell k x y with
       | none=>rw[h1] at h;cases h
       | some p0 =>
         cases h2:eqKs ks xs ys with
         | none=>rw[h1,h2] at h;cases h
         | some q0=>have:=eqKs_length h2;simp[this]
def valOf (g:Bool) (a:Array Value):Value:=if g then .agg a else a.getD 0 undef
theorem run_isAgg {t:TypeId}{g:Bool} (h:aggT P t=some g):(isAgg t).run P w=.ok g w:=by
 unfold aggT at h
 cases hu:P.underlying t with
 | none=>rw[hu] at h;cases h
 | some d =>
   rw[hu] at h
   simp only[isAgg,Sem.run_bind,run_und hu,Result.andThen_ok]
   cases d<;>simp_all
theorem run_sizeOf {t:TypeId}{n:Nat} (h:sizeT P t=some n):(sizeOf t).run P w=.ok n w:=by
 unfold sizeT at h
 cases hi:P.info? t with
 | none=>rw[hi] at h;cases h
 | some i=>rw[hi] at h;cases h;simp[sizeOf,typeInfo,hi]
theorem run_part {t:TypeId}{g:Bool}{n:Nat} (h:aggT P t=some g) (hs:sizeT P t=some n) {a:Array Value}{off:Nat} (hl:off+n≤a.size) (hg:g=false→n=1) :
 (part t a off).run P w=.ok (valOf g (a.extract off (off+n))) w:=by
 simp only[part,Sem.run_bind,run_isAgg h,Result.andThen_ok]
 cases g with
 | true=>simp[run_sizeOf hs,valOf]
 | false =>
   have h1:=hg rfl
   subst h1
   have hlt:off<a.size:=by omega
   simp only[Bool.false_eq_true,if_false,Array.getElem?_eq_getElem hlt,Sem.run_pure,valOf]
   congr 1
   rw[Array.getD_eq_getD_getElem?,Array.getElem?_extract,if_pos (by omega)]
   simp[Array.getElem?_eq_getElem hlt]
theorem kinds_agg {d:Nat}{t:TypeId}{ks:List CK} (h:kindsT P d t=some ks):(∃ g,aggT P t=some g∧(g=false→ks.length=1)):=by
 cases d with
 | zero=>simp[kindsT] at h
 | succ d =>
   simp only[kindsT] at h
   unfold aggT
   split at h<;>simp_all
   all_goals (subst h;rfl)
theorem eq_ok:∀ (d:Nat) (t:TypeId) (ks:List CK) (g:Bool),kindsT P d t=some ks→aggT P t=some g→∀ (dep:Nat),d≤dep →
 ∀ {xs ys:List D}{a b:Array Value}{r:Bool},HDs O w xs a→HDs O w ys b→eqKs ks xs ys=some r→(Op.equalIn dep t (valOf g a) (valOf g b)).run P w=.ok r w
 | 0,t,ks,g,h=>by simp[kindsT] at h
 | d+1,t,ks,g,h=>by
   intro hg dep hd xs ys a b r hx hy hr
   obtain⟨dep,rfl⟩:∃ m,dep=m+1:=⟨dep-1,by omega⟩
   have hl:=eqKs_length hr
   simp only[kindsT] at h
   unfold aggT at hg
   have one:∀ {k:CK},ks=[k]→∃ x y,xs=[x]∧ys=[y]∧eqCell k x y=some r:=by
    intro k hk
    subst hk
    match xs,ys,hl with
    | [x],[y],_ =>
      refine⟨x,y,rfl,rfl,?_⟩
      simp only[eqKs] at hr
      cases hc:eqCell k x y with
      | none=>rw[hc] at hr;cases hr
      | some p=>rw[hc] at hr;simpa using hr
   have first:∀ {x:D}{xs:List D}{a:Array Value},HDs O w (x::xs) a→HD O w x (a.getD 0 undef):=fun h=>h.2 0 _ rfl
   split at h
   ·rename_i k hu
    cases h;rw[hu] at hg;cases hg
    obtain⟨x,y,rfl,rfl,hc⟩:=one rfl
    have h1:=first hx;have h2:=first hy
    simp only[valOf,Bool.false_eq_true,if_false]
    cases x<;>cases y<;>simp only[eqCell] at hc<;>(try cases hc)
    rename_i k1 n1 k2 n2
    split at hc
    ·rename_i e;subst e;cases hc
     generalize a.getD 0 undef=ca at h1;generalize b.getD 0 undef=cb at h2
     cases h1;cases h2
     exact run_equalIn_int w dep t _ k _ _ hu
    ·cases hc
   ·rename_i hu
    cases h;rw[hu] at hg;cases hg
    obtain⟨x,y,rfl,rfl,hc⟩:=one rfl
    have h1:=first hx;have h2:=first hy
    simp only[valOf,Bool.false_eq_true,if_false]
    cases x<;>cases y<;>simp only[eqCell] at hc<;>(try cases hc)
    generalize a.getD 0 undef=ca at h1;generalize b.getD 0 undef=cb at h2
    cases h1;cases h2
    rw[run_equalIn_string w dep t _ _ hu,bytes_toList,bytes_toList]
   ·rename_i hu
    cases h;rw[hu] at hg;cases hg
    obtain⟨x,y,rfl,rfl,hc⟩:=one rfl
    have h1:=first hx;have h2:=first hy
    simp only[valOf,Bool.false_eq_true,if_false]
    cases x<;>cases y<;>simp only[eqCell] at hc<;>(try cases hc)
    generalize a.getD 0 undef=ca at h1;generalize b.getD 0 undef=cb at h2
    cases h1;cases h2
    exact run_equalIn_bool' w dep t _ _ hu
   ·rename_i fs hu
    rw[hu] at hg;cases hg
    split at h
    ·cases h
    ·rename_i hst
     have hf:P.fieldsOf t=fs:=by simp[Program.fieldsOf,hu]
     simp only[valOf,if_true]
     rw[run_equalIn_agg w dep t a b (by rw[hf];exact hu) (by simpa using hst),hf]
     have key:∀ (fl:List Field) (off:Nat) (ls:List CK) (q:Bool),kindsFs P (kindsT P d) off fl=some ls→eqKs ls (xs.drop off) (ys.drop off)=some q→off+ls.length≤xs.length→xs.length=ys.length →
      (Op.eqFields dep a b fl).run P w=.ok q w:=by
      intro fl
      induction fl with
      | nil =>
        intro off ls q h1 h2 _ _
        simp[kindsFs] at h1;subst h1
        have:=eqKs_length h2
        cases hxs:xs.drop off with
        | nil=>cases hys:ys.drop off with
          | nil=>rw[hxs,hys] at h2;simp[eqKs] at h2;subst h2;simp[Op.eqFields]
          | cons _ _=>rw[hys] at this;simp at this
        | cons _ _=>rw[hxs] at this;simp at this
      | cons f fl ih =>
        intro off ls q h1 h2 hlen hxy
        simp only[kindsFs] at h1
        cases hk:kindsT P d f.type with
        | none=>rw[hk] at h1;cases h1
        | some k1 =>
          cases hk2:kindsFs P (kindsT P d) (off+P.cellsOf f.type) fl with
          | none=>rw[hk,hk2] at h1;cases h1
          | some k2 =>
            rw[hk,hk2] at h1
            simp only at h1
            split at h1
            ·rename_i hc
             obtain⟨hn,ho,hsz⟩:=hc
             cases h1
             obtain⟨p,q',g1,g2,g3⟩:=eqKs_append h2
             obtain⟨gg,hgg,hone⟩:=kinds_agg hk
             have hcells:P.cellsOf f.type=k1.length:=by
              unfold sizeT at hsz;unfold Program.cellsOf
              rw[hsz];rfl
             simp only[List.length_append] at hlen
             have hxa:=hx.1;have hyb:=hy.1
             have e1:=run_part (w:=w) hgg hsz (a:=a) (off:=off) (by omega) hone
             have e2:=run_part (w:=w) hgg hsz (a:=b) (off:=off) (by omega) hone
             have e3:=eq_ok d f.type k1 gg hk hgg dep (by omega) (hx.extract off k1.length (by omega)) (hy.extract off k1.length (by omega)) g1
             simp only[Op.eqFields,if_pos hn,Sem.run_bind,ho,e1,e2,Result.andThen_ok,e3,Sem.run_ite]
             cases p with
             | false=>simp[g3]
             | true =>
               simp only[Bool.not_true,Bool.false_eq_true,if_false]
               rw[hcells] at hk2
               rw[ih (off+k1.length) k2 q' hk2 (by rw[List.drop_drop,List.drop_drop] at g2;exact g2) (by omega) hxy]
               simp[g3]
            ·cases h1
     exact key fs.toList 0 ks r h (by simpa using hr) (by omega) (by omega)
   ·cases h
theorem eqS_ok {t:TypeId}{ks:List CK}{fs:Array Field} (hu:P.underlying t=some (.struct fs)) (hk:kindsT P 20 t=some ks) (hm:P.eqGuardType P.depth t=false)
 {xs ys:List D}{a b:Array Value}{r:Bool} (hx:HDs O w xs a) (hy:HDs O w ys b) (hr:eqKs ks xs ys=some r) (x y:Operand) (neg:Bool) :
 ((do eqGuard (if neg then .neq else .eql) t x y (.agg a) (.agg b);binOp (if neg then .neq else .eql) t (.agg a) (.agg b)):Sem Value).run P w=.ok (.bool (if neg then !r else r)) w:=by
 have hg:aggT P t=some true:=by simp[aggT,hu]
 have h1:=eq_ok (w:=w) 20 t ks true hk hg 10000 (by omega) hx hy hr
 simp only[valOf,if_true] at h1
 cases neg
 ·simp only[Bool.false_eq_true,if_false,Sem.run_bind,run_eqGuard_agg w .eql t x y a b hm,Result.andThen_ok,run_eql_struct,h1]
 ·simp only[if_true,Sem.run_bind,run_eqGuard_agg w .neq t x y a b hm,Result.andThen_ok,run_neq_struct,h1]
end
end
section
open Go
section
variable {P:Program}{X:Cx}{μ:Nat→Option Nat}{H:Hp}{w:World}
def St (X:Cx) (μ:Nat→Option Nat) (H:Hp) (w:World) (H':Hp) (v:V) (c:Value) (w':World):Prop :=
 ∃ μ',Inv X μ' H' w'∧Ext X μ H w μ' H' w'∧HV (Own X μ' H') μ' H' H'.length w' v c
theorem St.here (hi:Inv X μ H w) {v:V}{c:Value} (h:HV (Own X μ H) μ H H.length w v c):St X μ H w H v c w:=⟨μ,hi,Ext.refl X μ H w,h⟩
def Win (O:Bs) (μ:Nat→Option Nat) (H:Hp) (w:World) (b a:Nat) (cs:List V):Prop :=
 ∃ cf:Nat→Value,cellsAt w b a cs.length cf∧∀ (j:Nat) v,cs[j]? = some v→HV O μ H H.length w v (cf j)
theorem add_lit (b a n:Nat):(⟨b,a,none⟩:Addr).add n=⟨b,a+n,none⟩:=by
 unfold Addr.add;split<;>simp_all
theorem Win.drop {O:Bs}{b a:Nat}{cs:List V} (h:Win O μ H w b a cs) (k:Nat):Win O μ H w b (a+k) (cs.drop k):=by
 obtain⟨cf,h1,h2⟩:=h
 refine⟨fun j=>cf (k+j),fun j hj=>?_,fun j v hv=>?_⟩
 ·have:=h1 (k+j) (by simp at hj;omega)
  rwa [← Nat.add_assoc] at this
 ·rw[List.getElem?_drop] at hv;exact h2 _ v hv
theorem Win.take {O:Bs}{b a:Nat}{cs:List V} (h:Win O μ H w b a cs) (k:Nat):Win O μ H w b a (cs.take k):=by
 obtain⟨cf,h1,h2⟩:=h
 refine⟨cf,fun j hj=>h1 j (by simp at hj;omega),fun j v hv=>?_⟩
 rw[List.getElem?_take] at hv
 split at hv
 ·exact h2 _ v hv
 ·cases hv
theorem Win.load {O:Bs}{b a:Nat}{cs:List V} (h:Win O μ H w b a cs):∃ c:Array Value,(loadCells ⟨b,a,none⟩ cs.length).run P w=.ok c w∧HVs O μ H H.length w cs c:=by
 obtain⟨cf,h1,h2⟩:=h
 refine⟨((List.range cs.length).map cf).toArray,run_loadCells w ⟨b,a,none⟩ cs.length cf (fun j hj=>by rw[add_lit];exact h1 j hj),by simp,fun j v hv=>?_⟩
 have hl:j<cs.length:=(List.getElem?_eq_some_iff.1 hv).1
 have:=h2 j v hv
 simpa[Array.getD_eq_getD_getElem?,hl] using this
theorem Win.of_block {O:Bs}{b:Nat}{c:Array Value}{e:TypeId}{z:Nat×Nat} (hb:w.heap[b]? = some (.cells c e z)) {cs:List V} (h:HVs O μ H H.length w cs c):Win O μ H w b 0 cs:=by
 refine⟨fun j=>c.getD j undef,fun j hj=>?_,h.2⟩
 have hj':j<c.size:=by rw[h.1];exact hj
 simp[World.cell?,hb,Array.getD_eq_getD_getElem?,Array.getElem?_eq_getElem hj']
theorem win_load {O:Bs}{b a:Nat}{cs:List V} (h:Win O μ H w b a cs) {g:Bool}{n i:Nat}{v:V} (hv:takeAt g n i cs=some v) {t:TypeId} (hg:aggT P t=some g)
 (hs:g=true→sizeT P t=some n):∃ c,(Instr.loadAt t (.pointer (some ⟨b,a+i,none⟩))).run P w=.ok c w∧HV O μ H H.length w v c:=by
 unfold takeAt at hv
 split at hv
 ·rename_i hl
  cases g with
  | true =>
    simp only[if_true] at hv;cases hv
    have hw:=(h.drop i).take n
    obtain⟨c,h1,h2⟩:=hw.load (P:=P)
    have hlen:((cs.drop i).take n).length=n:=by simp;omega
    rw[hlen] at h1
    refine⟨.agg c,?_,HV_mkAgg h2⟩
    simp only[Instr.loadAt,Instr.sureAddr,Sem.run_bind,Sem.run_pure,Result.andThen_ok,loadVar,run_isAgg hg,if_true,run_sizeOf (hs rfl),h1]
  | false =>
    simp only[Bool.false_eq_true,if_false] at hv
    split at hv
    ·rename_i hn
     subst hn
     obtain⟨cf,h1,h2⟩:=h
     refine⟨cf i,?_,h2 i v hv⟩
     have hc:=h1 i (by omega)
     simp only[Instr.loadAt,Instr.sureAddr,Sem.run_bind,Sem.run_pure,Result.andThen_ok,loadVar,run_isAgg hg,Bool.false_eq_true,if_false,run_load,hc]
    ·cases hv
 ·cases hv
theorem scV_one {O:Bs}{N:Nat}{v:V}{c:Value} (h:HV O μ H N w v c) (hs:scV v=true):c.oneCell'=true:=by
 cases h with
 | d x c h=>cases h<;>first | rfl | (simp[scV,scD] at hs)
 | u c=>simp[scV] at hs
 | agg cs a ha h=>simp[scV] at hs
 | tup cs a ha h=>simp[scV] at hs
 | _=>rfl
theorem scVs_mem:∀ {vs:List V},scVs vs=true→∀ (j:Nat) v,vs[j]? = some v→scV v=true
 | [],_,j,v,hv=>by simp at hv
 | x::vs,h,j,v,hv=>by
   simp only[scVs,Bool.and_eq_true] at h
   cases j with
   | zero=>simp at hv;subst hv;exact h.1
   | succ j=>simp at hv;exact scVs_mem h.2 j v hv
theorem scVs_all:∀ {vs:List V},(∀ v∈vs,scV v=true)→scVs vs=true
 | [],_=>rfl
 | x::vs,h=>by simp only[scVs,Bool.and_eq_true];exact⟨h x (List.mem_cons_self ..),scVs_all fun v hv=>h v (List.mem_cons_of_mem _ hv)⟩
theorem scVs_all' {vs:List V} (h:scVs vs=true):∀ v∈vs,scV v=true:=by
 intro v hv
 obtain⟨j,hj,rfl⟩:=List.mem_iff_getElem.1 hv
 exact scVs_mem h j _ (List.getElem?_eq_getElem hj)
theorem scVs_one {O:Bs}{N:Nat}{vs:List V}{a:Array Value} (h:HVs O μ H N w vs a) (hs:scVs vs=true):∀ c∈a.toList,c.oneCell'=true:=by
 intro c hc
 obtain⟨j,hj,rfl⟩:=List.mem_iff_getElem.1 hc
 have hj':j<vs.length:=by simp at hj;rw[← h.1];exact hj
 have h1:=h.2 j _ (List.getElem?_eq_getElem hj')
 have h2:=scV_one h1 (scVs_mem hs j _ (List.getElem?_eq_getElem hj'))
 simp at hj
 simpa[Array.getD_eq_getD_getElem?,Array.getElem?_eq_getElem hj] using h2
theorem allD_scVs {cs:List V}{ds:List D} (h:allD cs=some ds):cs=ds.map .d:=allD_some h
theorem mkAgg_cells (cs:List V):(mkAgg cs).cells=cs:=by
 unfold mkAgg
 cases h:allD cs with
 | none=>rfl
 | some ds=>simp[V.cells,D.cells,(allD_some h).symm]
theorem scV_cells {v:V} (h:scV v=true):v.cells=[v]:=by
 cases v with
 | d x=>cases x<;>first | rfl | (simp[scV,scD] at h)
 | agg _=>simp[scV] at h
 | u=>simp[scV] at h
 | tup _=>simp[scV] at h
 | _=>rfl
theorem chunk1_cells {sz:Nat}{cs:List V} (h:cs.length=sz) (hs:scVs cs=true):(chunk1 sz cs).cells=cs:=by
 unfold chunk1
 split
 ·simp only[scVs,Bool.and_true] at hs;exact scV_cells hs
 ·exact mkAgg_cells cs
theorem HVs_put {O:Bs}{N:Nat}{cs vs:List V}{c va:Array Value} (h:HVs O μ H N w cs c) (k:HVs O μ H N w vs va) {off:Nat} (hl:off+vs.length≤cs.length) :
 HVs O μ H N w (putCells cs off vs) (c.toList.take off++va.toList++c.toList.drop (off+va.toList.length)).toArray:=by
 have hc:=h.1;have hv:=k.1
 refine⟨by simp[putCells,hc,hv],fun j v hj=>?_⟩
 rw[Array.getD_eq_getD_getElem?]
 simp only[List.getElem?_toArray,putCells] at hj ⊢
 have hvl:va.toList.length=vs.length:=by simpa using hv
 rw[hvl]
 have hcl:c.toList.length=cs.length:=by simpa using hc
 by_cases h1:j<off
 ·rw[List.append_assoc,List.getElem?_append_left (by simp;omega),List.getElem?_take,if_pos h1] at hj ⊢
  have:=h.2 j v hj
  simpa[Array.getD_eq_getD_getElem?] using this
 ·by_cases h2:j<off+vs.length
  ·rw[List.append_assoc,List.getElem?_append_right (by simp;omega),List.getElem?_append_left (by simp;omega)] at hj ⊢
   have e1:(List.take off cs).length=off:=by simp;omega
   have e2:(List.take off c.toList).length=off:=by rw[List.length_take,hcl];omega
   rw[e1] at hj;rw[e2]
   have:=k.2 _ v hj
   simpa[Array.getD_eq_getD_getElem?] using this
  ·rw[List.getElem?_append_right (by simp;omega),List.getElem?_drop] at hj ⊢
   have e1:(List.take off cs++vs).length=off+vs.length:=by simp;omega
   have e2:(List.take off c.toList++va.toList).length=off+vs.length:=by simp at hvl ⊢; omega
   rw[e1] at hj;rw[e2]
   have:=h.2 _ v hj
   simpa[Array.getD_eq_getD_getElem?] using this
theorem run_storeAt {t:TypeId}{n b a:Nat}{c:Array Value}{e:TypeId}{x:Value} (hs:sizeT P t=some n) (hb:w.heap[b]? = some (.cells c e (0,0))) (hx:x.cells.size=n) (hl:a+n≤c.size)
 (h1:∀ u∈x.cells.toList,u.oneCell'=true) :
 (Instr.storeAt t (.pointer (some ⟨b,a,none⟩)) x).run P w=.ok () (w.setRow b (c.toList.take a++x.cells.toList++c.toList.drop (a+x.cells.toList.length)).toArray):=by
 have:=run_storeCells_at P b a e x.cells.toList 0 c w hb (by simp;omega) h1
 simp only[Nat.add_zero] at this
 simp only[Instr.storeAt,Instr.sureAddr,Sem.run_bind,Sem.run_pure,Result.andThen_ok,storeVar,run_sizeOf hs,hx,ne_eq,not_true_eq_false,if_false,this]
theorem store_box (hi:Inv X μ H w) {o i n ty:Nat}{cs:List V}{v:V}{ca cx:Value}{t:TypeId} (hg:hget H o=some (.box ty cs)) (ha:HV (Own X μ H) μ H H.length w (.p o i) ca)
 (hv:v≠.u) (hx:HV (Own X μ H) μ H H.length w v cx) (hs:sizeT P t=some n) (hn:v.cells.length=n) (hl:i+n≤cs.length) (hsc:scVs v.cells=true) :
 ∃ w',(Instr.storeAt t ca cx).run P w=.ok () w'∧Inv X μ (hset H o (.box ty (putCells cs i v.cells))) w'∧Ext X μ H w μ (hset H o (.box ty (putCells cs i v.cells))) w':=by
 cases ha with
 | p o i b ho hm _ =>
   obtain⟨b',c,h1,h2,h3⟩:=hi.obj o _ hg
   rw[hm] at h1;cases h1
   have hcx:=HV_cells hv hx
   have hob:ownedO H o:=by unfold ownedO;rw[hg];trivial
   have hput:=HVs_put h3 hcx (off:=i) (by omega)
   refine⟨_,run_storeAt hs h2 (by rw[hcx.1,hn]) (by rw[h3.1];omega) (scVs_one hcx hsc),?_,?_⟩
   ·refine hi.turn hg hm hob h2 (setRow_heap w b c _ _ (0,0) h2) ?_ (fun k hk=>setRow_other w b k _ hk) (setRow_size ..) rfl rfl rfl rfl ?_
    ·rw[hput.1,putCells,h3.1];simp;omega
    ·refine⟨b,_,hm,setRow_heap w b c _ _ (0,0) h2,?_⟩
     exact hput.mono hi (Ext.turn hi hg hm hob h2 (setRow_heap w b c _ _ (0,0) h2) (by rw[hput.1,putCells,h3.1];simp;omega) (fun k hk=>setRow_other w b k _ hk) (setRow_size ..) rfl rfl rfl rfl)
   ·exact Ext.turn hi hg hm hob h2 (setRow_heap w b c _ _ (0,0) h2) (by rw[hput.1,putCells,h3.1];simp;omega) (fun k hk=>setRow_other w b k _ hk) (setRow_size ..) rfl rfl rfl rfl
theorem ls_win {O:Bs}{xs:List D}{b a sz:Nat}{cf:Nat→Value} (hc:cellsAt w b a (xs.length*sz) cf) (hx:∀ (i:Nat) (x:D),xs[i]? = some x→x.cells.length=sz)
 (hr:∀ (i:Nat) (x:D) (j:Nat) (v:D),xs[i]? = some x→x.cells[j]? = some v→HD O w v (cf (i*sz+j))) {i:Nat}{x:D} (hi:xs[i]? = some x) :
 cellsAt w b (a+i*sz) x.cells.length (fun j=>cf (i*sz+j))∧∀ (j:Nat) v,x.cells[j]? = some v→HD O w v (cf (i*sz+j)):=by
 have hl:i<xs.length:=(List.getElem?_eq_some_iff.1 hi).1
 refine⟨fun j hj=>?_,fun j v hv=>hr i x j v hi hv⟩
 rw[hx i x hi] at hj
 have h1:i*sz+j<xs.length*sz:=by
  have:(i+1)*sz≤xs.length*sz:=Nat.mul_le_mul_right sz hl
  rw[Nat.succ_mul] at this;omega
 have:=hc (i*sz+j) h1
 rwa [← Nat.add_assoc] at this
theorem fpc_win {O:Bs}{cs:List D}{c:Value} (h:HD O w (.fpc cs) c):∃ b a,c=.pointer (some ⟨b,a,none⟩)∧Win O μ H w b a (cs.map .d):=by
 cases h with
 | fpc cs b a cf hn hb hc hr =>
   refine⟨b,a,rfl,cf,by simpa using hc,fun j v hv=>?_⟩
   rw[List.getElem?_map] at hv
   cases hj:cs[j]? with
   | none=>rw[hj] at hv;cases hv
   | some d=>rw[hj] at hv;cases hv;exact .d _ _ (hr j d hj)
theorem allCellsD_ok:∀ {sz:Nat}{xs:List D},allCellsD sz xs=true→∀ (i:Nat) x,xs[i]? = some x→x.cells.length=sz∧scDs x.cells=true
 | _,[],_,i,x,h=>by simp at h
 | sz,y::ys,h,i,x,hx=>by
   simp only[allCellsD,Bool.and_eq_true,decide_eq_true_eq] at h
   cases i with
   | zero=>simp at hx;subst hx;exact h.1
   | succ i=>simp at hx;exact allCellsD_ok h.2 i x hx
theorem allCells_ok:∀ {sz:Nat}{xs:List V},allCells sz xs=true→∀ x∈xs,x.cells.length=sz∧scVs x.cells=true
 | _,[],_,x,h=>by simp at h
 | sz,y::ys,h,x,hx=>by
   simp only[allCells,Bool.and_eq_true,decide_eq_true_eq] at h
   rcases List.mem_cons.1 hx with h1 | h1
   ·subst h1;exact h.1
   ·exact allCells_ok h.2 x h1
end
end
section
open Go
section
variable {P:Program}{X:Cx}{μ:Nat→Option Nat}{H:Hp}{w:World}
theorem zeroT_ok {t:TypeId}{z:List D} (h:zeroT P t=some z):∃ i v,P.info? t=some i∧i.zero=some v∧∀ (O:Bs) (w:World),HDs O w z v.cells:=by
 unfold zeroT at h
 cases hi:P.info? t with
 | none=>rw[hi] at h;cases h
 | some i =>
   rw[hi] at h;dsimp only at h
   cases hz:i.zero with
   | none=>rw[hz] at h;cases h
   | some v=>rw[hz] at h;exact⟨i,v,rfl,hz,fun O w=>trVs_arr h⟩
theorem sizeT_info {t:TypeId}{i:TypeInfo} (hi:P.info? t=some i) {n:Nat} (h:sizeT P t=some n):i.size=n:=by
 unfold sizeT at h;rw[hi] at h;simpa using h
theorem bytesT_info {t:TypeId}{i:TypeInfo} (hi:P.info? t=some i) {n:Nat} (h:bytesT P t=some n):i.bytes=n:=by
 unfold bytesT at h;rw[hi] at h;simpa using h
theorem elemT_ok {t e:TypeId} (h:elemT P t=some e):P.underlying t=some (.slice e):=by
 unfold elemT at h;split at h<;>simp_all
def Row (O:Bs) (μ:Nat→Option Nat) (H:Hp) (w:World) (sz:Nat) (xs:List V) (c:Nat→Value):Prop :=
 ∀ (i:Nat) x (j:Nat) v,xs[i]? = some x→x.cells[j]? = some v→HV O μ H H.length w v (c (i*sz+j))
theorem Row.mono {X:Cx}{μ μ':Nat→Option Nat}{H H':Hp}{w w':World} (hi:Inv X μ H w) (hx:Ext X μ H w μ' H' w') {sz:Nat}{xs:List V}{c:Nat→Value}
 (h:Row (Own X μ H) μ H w sz xs c):Row (Own X μ' H') μ' H' w' sz xs c:=fun i x j v h1 h2=>((h i x j v h1 h2).mono (Nat.le_refl _) hi hx).more hx.len
theorem push_gr (hi:Inv X μ H w) {sz:Nat}{xs:List V}{c:Array Value} (e:TypeId) (hsz:0<sz) (hxs:∀ x∈xs,x.cells.length=sz∧scVs x.cells=true) (hl:xs.length*sz≤c.size)
 (h:Row (Own X μ H) μ H w sz xs (fun k=>c.getD k undef)) (w0:World) (hw0:w0=w∨w0=w.drew) {cap:Nat} (hcap:xs.length≤cap) (hcs:cap*sz≤c.size) :
 St X μ H w (.gr e sz xs::H) (.gr H.length xs.length) (.slice (some ⟨w.heap.size,0,none⟩) xs.length cap) (w0.alloc (.cells c e)):=by
 have hs0:w0.heap.size=w.heap.size:=by rcases hw0 with rfl | rfl<;>rfl
 have hh0:∀ k:Nat,w0.heap[k]? = w.heap[k]? := by intro k;rcases hw0 with rfl | rfl<;>rfl
 have hw:∀ k:Nat,k<w.heap.size→(w0.alloc (.cells c e)).heap[k]? = w.heap[k]? := fun k hk=>(heap_alloc w0 _ k (by omega)).trans (hh0 k)
 have hnew:(w0.alloc (.cells c e)).heap[w.heap.size]? = some (.cells c e (0,0)):=by rw[← hs0];exact heap_alloc_new w0 _
 have hb:∀ k,some w.heap.size=some k→w.heap.size≤k:=fun k hk=>by cases hk;exact Nat.le_refl _
 have hos:(w0.alloc (.cells c e)).os=w.os:=by rcases hw0 with rfl | rfl<;>rfl
 have htp:(w0.alloc (.cells c e)).tape=w.tape:=by rcases hw0 with rfl | rfl<;>rfl
 have hot:(w0.alloc (.cells c e)).output=w.output:=by rcases hw0 with rfl | rfl<;>rfl
 have hsize:w.heap.size≤(w0.alloc (.cells c e)).heap.size:=by simp[hs0]
 have hx:=Ext.push hi (.gr e sz xs) (some w.heap.size) hw hsize hos htp hot hb
 refine⟨_,hi.push (.gr e sz xs) (some w.heap.size) hw hsize hos htp hot hb ?_,hx,?_⟩
 ·exact⟨hsz,hxs,.inr ⟨w.heap.size,c,upd_self ..,hnew,hl,h.mono hi hx⟩⟩
 ·refine .gr _ _ _ _ (by simp) ?_
  intro ty' sz' xs' hg
  rw[hget_cons_self] at hg
  cases hg
  exact⟨Nat.le_refl _,fun _=>.inr ⟨w.heap.size,c,e,upd_self ..,rfl,hcap,hnew,hcs⟩⟩
theorem push_gr_nil (hi:Inv X μ H w) {ty sz:Nat} (hsz:0<sz):St X μ H w (.gr ty sz []::H) (.gr H.length 0) (.slice none 0 0) w:=by
 have hw:∀ k:Nat,k<w.heap.size→w.heap[k]? = w.heap[k]? := fun _ _=>rfl
 have hb:∀ k,(none:Option Nat)=some k→w.heap.size≤k:=fun k hk=>by cases hk
 have hx:=Ext.push hi (.gr ty sz []) none hw (Nat.le_refl _) rfl rfl rfl hb
 refine⟨_,hi.push (.gr ty sz []) none hw (Nat.le_refl _) rfl rfl rfl hb ⟨hsz,by simp,.inl ⟨upd_self ..,rfl⟩⟩,hx,?_⟩
 refine .gr _ _ _ _ (by simp) ?_
 intro ty' sz' xs' hg
 rw[hget_cons_self] at hg
 cases hg
 exact⟨Nat.le_refl _,fun _=>.inl ⟨upd_self ..,rfl,rfl,rfl⟩⟩
theorem new_ls (hi:Inv X μ H w) {sz:Nat}{ds:List D}{c:Array Value} (e:TypeId) (hsz:0<sz) (hx:∀ (i:Nat) (x:D),ds[i]? = some x→x.cells.length=sz) (hl:ds.length*sz≤c.size)
 (h:Row (Own X μ H) μ H w sz (ds.map .d) (fun k=>c.getD k undef)):St X μ H w H (.d (.ls ds)) (.slice (some ⟨w.heap.size,0,none⟩) ds.length ds.length) (w.alloc (.cells c e)):=by
 refine⟨μ,hi.alloc _,Ext.alloc hi _,.d _ _ ?_⟩
 refine .ls ds w.heap.size 0 ds.length sz (fun k=>c.getD k undef) hsz (fun _ hO=>?_) (Nat.le_refl _) (fun j hj=>?_) hx (fun i x j v h1 h2=>?_)
 ·have:=Own_lt hi hO;omega
 ·have hj':j<c.size:=by omega
  rw[Nat.zero_add]
  unfold World.cell?
  rw[show (w.alloc (.cells c e)).heap[w.heap.size]? = some (.cells c e (0,0)) from heap_alloc_new w _]
  simp[Array.getD_eq_getD_getElem?,Array.getElem?_eq_getElem hj']
 ·have:=h i (.d x) j (.d v) (by simp[h1]) (by simp[V.cells,h2])
  cases this with
  | d _ _ h3=>exact h3.mono (Ext.alloc hi (.cells c e)).blk (fun _ _ h=>h)
theorem ls_cut {O:Bs}{l:List D}{a:Option Addr}{len cap:Nat} (h:HD O w (.ls l) (.slice a len cap)) {sz lo hi:Nat} (hlo:lo≤hi) (hhi:hi≤l.length) (hc:allCellsD sz l=true) :
 len=l.length∧l.length≤cap∧HD O w (.ls ((l.take hi).drop lo)) (.slice (if cap=lo then a else a.map (·.add (lo*sz))) (hi-lo) (cap-lo)):=by
 cases h with
 | ls0=>simp at hhi;subst hhi;have:lo=0:=by omega
        subst this;exact⟨rfl,Nat.le_refl _,.ls0⟩
 | ls _ b a' cap sz' cf hsz hb hcap hcl hx hr =>
   refine⟨rfl,hcap,?_⟩
   have hlen:((l.take hi).drop lo).length=hi-lo:=by simp;omega
   have hget:∀ (i:Nat) x,((l.take hi).drop lo)[i]? = some x→l[lo+i]? = some x:=by
    intro i x h1
    rw[List.getElem?_drop,List.getElem?_take] at h1
    split at h1
    ·exact h1
    ·cases h1
   by_cases he:lo=hi
   ·have hnil:(l.take hi).drop lo=[]:=List.eq_nil_of_length_eq_zero (by omega)
    rw[hnil]
    have h0:hi-lo=([]:List D).length:=by simp;omega
    rw[h0]
    split
    ·exact .ls [] b a' _ sz' cf hsz (fun h=>absurd rfl h) (by simp) (by intro j hj;simp at hj) (by simp) (by simp)
    ·rw[Option.map_some,add_lit]
     exact .ls [] b _ _ sz' cf hsz (fun h=>absurd rfl h) (by simp) (by intro j hj;simp at hj) (by simp) (by simp)
   ·have hne:l≠[]:=by intro h;subst h;simp at hhi;omega
    have hsz':sz'=sz:=by
     obtain⟨x,xs,rfl⟩:=List.exists_cons_of_ne_nil hne
     have h1:=hx 0 x rfl
     have h2:=(allCellsD_ok hc 0 x rfl).1
     omega
    subst hsz'
    rw[if_neg (by omega),Option.map_some,add_lit]
    rw[← hlen]
    refine .ls _ b (a'+lo*sz') (cap-lo) sz' (fun k=>cf (lo*sz'+k)) hsz (fun _=>hb hne) (by omega) ?_ (fun i x h1=>hx _ x (hget i x h1)) (fun i x j v h1 h2=>?_)
    ·intro j hj
     have h3:lo*sz'+j<l.length*sz':=by
      rw[hlen] at hj
      have h4:(hi-lo)*sz'+lo*sz'=hi*sz':=by rw[← Nat.add_mul];congr 1;omega
      have h5:hi*sz'≤l.length*sz':=Nat.mul_le_mul_right _ hhi
      omega
     have:=hcl (lo*sz'+j) h3
     rwa [← Nat.add_assoc] at this
    ·have:=hr (lo+i) x j v (hget i x h1) h2
     rwa [Nat.add_mul,Nat.add_assoc] at this
theorem Row.flat {O:Bs}{sz:Nat}{xs:List V}{c:Nat→Value} (h:Row O μ H w sz xs c) (hxs:∀ x∈xs,x.cells.length=sz) {k:Nat} (hk:k<xs.length*sz) :
 ∃ i x j v,xs[i]? = some x∧x.cells[j]? = some v∧k=i*sz+j∧HV O μ H H.length w v (c k):=by
 have hsz:0<sz:=by
  rcases Nat.eq_zero_or_pos sz with h | h
  ·subst h;simp at hk
  ·exact h
 have hi:k/sz<xs.length:=by rw[Nat.div_lt_iff_lt_mul hsz];exact hk
 have hj:k%sz<sz:=Nat.mod_lt _ hsz
 have hx:=List.getElem?_eq_getElem hi
 have hc:=hxs _ (List.getElem_mem hi)
 have hv:=List.getElem?_eq_getElem (l:=(xs[k/sz]).cells) (i:=k%sz) (by omega)
 have e:k=(k/sz)*sz+k%sz:=(Nat.div_add_mod' k sz).symm
 refine⟨k/sz,_,k%sz,_,hx,hv,e,?_⟩
 have:=h _ _ _ _ hx hv
 rwa [← e] at this
end
end
section
open Go
section
variable {P:Program}{X:Cx}{μ:Nat→Option Nat}{H:Hp}{w:World}
theorem hset_same:∀ {H:Hp}{o:Nat}{x:Ob},hget H o=some x→hset H o x=H
 | [],_,_,h=>by simp[hget] at h
 | y::H,o,x,h=>by
   unfold hget at h
   unfold hset
   split at h
   ·rename_i e;cases h;rw[if_pos e]
   ·rename_i e;rw[if_neg e,hset_same h]
structure News (P:Program) (O:Bs) (μ:Nat→Option Nat) (H:Hp) (w:World) (sz:Nat) (ys:List V) (cx:Value) (news:List Value):Prop where
 len:∀ w':World,(Builtin.lenOf cx).run P w'=.ok ys.length w'
 first:∀ w':World,(∀ k:Nat,w'.heap[k]? = w.heap[k]?)→(Builtin.firstCells sz ys.length cx).run P w'=.ok news.toArray w'
 size:news.length=ys.length*sz
 row:Row O μ H w sz ys (fun k=>news.getD k undef)
theorem cell_of_heap {w w':World} (h:∀ k:Nat,w'.heap[k]? = w.heap[k]?) (a:Addr):w'.cell? a=w.cell? a:=by unfold World.cell?; rw[h]
theorem news_of {O:Bs}{sz:Nat} (hsz:0<sz) {ys:List V}{cx:Value}{b a cap:Nat}{cf:Nat→Value} (hcx:cx=.slice (some ⟨b,a,none⟩) ys.length cap) (hc:cellsAt w b a (ys.length*sz) cf)
 (hr:Row O μ H w sz ys cf) (hy:∀ y∈ys,y.cells.length=sz):∃ news,News P O μ H w sz ys cx news:=by
 refine⟨(List.range (ys.length*sz)).map cf,?_,?_,by simp,?_⟩
 ·intro w'; subst hcx;simp[Builtin.lenOf]
 ·intro w' hw
  subst hcx
  have:=run_loadCells (P:=P) w' ⟨b,a,none⟩ (ys.length*sz) cf (fun j hj=>by rw[add_lit,cell_of_heap hw];exact hc j hj)
  simpa[Builtin.firstCells] using this
 ·intro i x j v h1 h2
  have hl:i<ys.length:=(List.getElem?_eq_some_iff.1 h1).1
  have hj:j<sz:=by rw[← hy x (List.mem_of_getElem? h1)];exact(List.getElem?_eq_some_iff.1 h2).1
  have h3:i*sz+j<ys.length*sz:=by
   have:(i+1)*sz≤ys.length*sz:=Nat.mul_le_mul_right sz hl
   rw[Nat.succ_mul] at this;omega
  have:=hr i x j v h1 h2
  simpa[List.getD_eq_getElem?_getD,h3] using this
theorem scVs_d (ds:List D):scVs (ds.map .d)=scDs ds:=by
 induction ds with
 | nil=>rfl
 | cons d ds ih=>simp[scVs,scDs,scV,ih]
theorem elemsOf_ok (hi:Inv X μ H w) {sz:Nat} (hsz:0<sz) {v:V}{cx:Value}{ys:List V} (h:elemsOf H sz v=some ys) (hv:HV (Own X μ H) μ H H.length w v cx) :
 (∃ news,News P (Own X μ H) μ H w sz ys cx news)∧∀ y∈ys,y.cells.length=sz∧scVs y.cells=true:=by
 unfold elemsOf at h
 split at h
 ·rename_i ds
  split at h
  ·rename_i hc
   cases h
   have hcell:∀ y∈ds.map V.d,y.cells.length=sz∧scVs y.cells=true:=by
    intro y hy
    obtain⟨d,hd,rfl⟩:=List.mem_map.1 hy
    obtain⟨i,hi',rfl⟩:=List.mem_iff_getElem.1 hd
    have:=allCellsD_ok hc i _ (List.getElem?_eq_getElem hi')
    exact⟨by simpa[V.cells] using this.1,by rw[V.cells,scVs_d];exact this.2⟩
   refine⟨?_,hcell⟩
   cases hv with
   | d _ _ h1 =>
     cases h1 with
     | ls0=>exact⟨[],fun w'=>by simp[Builtin.lenOf],fun w' _=>by simp[Builtin.firstCells],by simp,fun i x j v h=>by simp at h⟩
     | ls _ b a cap sz' cf hsz' hb hcap hcl hx hr =>
       by_cases hne:ds=[]
       ·subst hne
        exact⟨[],fun w'=>by simp[Builtin.lenOf],fun w' _=>by simp[Builtin.firstCells,loadCells,loadCellsFrom],by simp,fun i x j v h=>by simp at h⟩
       ·have hse:sz'=sz:=by
         obtain⟨x,xs,rfl⟩:=List.exists_cons_of_ne_nil hne
         have h1:=hx 0 x rfl
         have h2:=(allCellsD_ok hc 0 x rfl).1
         omega
        subst hse
        refine news_of hsz (by rw[List.length_map]) (by rw[List.length_map];exact hcl) ?_ (fun y hy=>(hcell y hy).1)
        intro i x j v h2 h3
        rw[List.getElem?_map] at h2
        cases hd:ds[i]? with
        | none=>rw[hd] at h2;cases h2
        | some d =>
          rw[hd] at h2;cases h2
          simp only[V.cells,List.getElem?_map] at h3
          cases he:d.cells[j]? with
          | none=>rw[he] at h3;cases h3
          | some e=>rw[he] at h3;cases h3;exact .d _ _ (hr i d j e hd he)
  ·cases h
 ·rename_i l
  split at h
  ·rename_i h1
   subst h1
   cases h
   have hcell:∀ y∈l.map (fun b=>V.d (.i .u8 b.toNat)),y.cells.length=1∧scVs y.cells=true:=by
    intro y hy
    obtain⟨d,_,rfl⟩:=List.mem_map.1 hy
    exact⟨rfl,rfl⟩
   refine⟨?_,hcell⟩
   cases hv with
   | d _ _ h1 =>
     cases h1 with
     | s l =>
       refine⟨l.map (fun b=>Value.int .u8 b.toNat),fun w'=>by simp[Builtin.lenOf,ByteArray.size],fun w' _=>?_,by simp,?_⟩
       ·simp only[Builtin.firstCells,Sem.run_pure,List.length_map]
        congr 1
        have:(ByteArray.mk l.toArray).extract 0 l.length=⟨l.toArray⟩:=by
         apply ByteArray.ext;simp
        rw[this];simp
       ·intro i x j v h2 h3
        rw[List.getElem?_map] at h2
        cases hd:l[i]? with
        | none=>rw[hd] at h2;cases h2
        | some d =>
          rw[hd] at h2;cases h2
          simp only[V.cells,D.cells,List.map_cons,List.map_nil] at h3
          cases j with
          | succ j=>simp at h3
          | zero =>
            simp at h3;subst h3
            have:(List.map (fun b:UInt8=>Value.int IntKind.u8 (b.toNat:Int)) l).getD (i*1+0) undef=.int .u8 d.toNat:=by
             simp[List.getD_eq_getElem?_getD,hd]
            show HV _ _ _ _ _ _ ((List.map (fun b:UInt8=>Value.int IntKind.u8 (b.toNat:Int)) l).getD (i*1+0) undef)
            rw[this];exact .d _ _ (.i _ _)
  ·cases h
 ·rename_i o n
  split at h
  ·rename_i sz' ys' hg
   split at h
   ·rename_i hc
    obtain⟨rfl,rfl⟩:=hc
    cases h
    obtain⟨_,hxs,hblk⟩:=hi.obj o _ hg
    refine⟨?_,hxs⟩
    cases hv with
    | gr _ _ cap a ho hgr =>
      obtain⟨_,h2⟩:=hgr _ _ _ hg
      rcases h2 rfl with ⟨m0,hn,ha,hcap⟩ | ⟨b,cs,e,hm,ha,hn,hb,hs⟩
      ·subst ha
       have:ys=[]:=List.eq_nil_of_length_eq_zero hn
       subst this
       exact⟨[],fun w'=>by simp[Builtin.lenOf],fun w' _=>by simp[Builtin.firstCells],by simp,fun i x j v h=>by simp at h⟩
      ·subst ha
       rcases hblk with ⟨m0,_⟩ | ⟨b',c,hm',hb',hl,hr⟩
       ·rw[hm] at m0;cases m0
       ·rw[hm] at hm'; cases hm'
        rw[hb] at hb'; cases hb'
        refine news_of hsz rfl (cf:=fun k=>cs.getD k undef) ?_ (fun i x j v h1 h2=>hr i x j v h1 h2) (fun y hy=>(hxs y hy).1)
        intro j hj
        have hj':j<cs.size:=by omega
        rw[Nat.zero_add]
        simp[World.cell?,hb,Array.getD_eq_getD_getElem?,Array.getElem?_eq_getElem hj']
   ·cases h
  ·cases h
 ·cases h
theorem Row.append {O:Bs}{sz:Nat}{xs ys:List V}{f g:Nat→Value} (hx:Row O μ H w sz xs f) (hy:Row O μ H w sz ys g) (hxs:∀ x∈xs,x.cells.length=sz) (hys:∀ y∈ys,y.cells.length=sz) {k:Nat→Value}
 (h1:∀ j,j<xs.length*sz→k j=f j) (h2:∀ j,j<ys.length*sz→k (xs.length*sz+j)=g j):Row O μ H w sz (xs++ys) k:=by
 intro i x j v hx' hv
 by_cases hl:i<xs.length
 ·rw[List.getElem?_append_left hl] at hx'
  have hj:j<sz:=by rw[← hxs x (List.mem_of_getElem? hx')];exact(List.getElem?_eq_some_iff.1 hv).1
  have h3:i*sz+j<xs.length*sz:=by
   have:(i+1)*sz≤xs.length*sz:=Nat.mul_le_mul_right sz hl
   rw[Nat.succ_mul] at this;omega
  rw[h1 _ h3];exact hx i x j v hx' hv
 ·rw[List.getElem?_append_right (by omega)] at hx'
  have e:i*sz+j=xs.length*sz+((i-xs.length)*sz+j):=by
   have:i*sz=xs.length*sz+(i-xs.length)*sz:=by rw[← Nat.add_mul];congr 1;omega
   omega
  have hj:j<sz:=by rw[← hys x (List.mem_of_getElem? hx')];exact(List.getElem?_eq_some_iff.1 hv).1
  have hli:i-xs.length<ys.length:=(List.getElem?_eq_some_iff.1 hx').1
  have h3:(i-xs.length)*sz+j<ys.length*sz:=by
   have:(i-xs.length+1)*sz≤ys.length*sz:=Nat.mul_le_mul_right sz hli
   rw[Nat.succ_mul] at this;omega
  rw[e,h2 _ h3];exact hy _ x j v hx' hv
set_option maxHeartbeats 1000000 in
theorem append_ok (hi:Inv X μ H w) {o n:Nat}{sz bytes:Nat}{xs ys:List V}{v:V}{cs cx:Value}{t t' e ty:TypeId}{z:List D} (hsz:0<sz)
 (ht:elemT P t=some e) (ht':∃ d,P.underlying t'=some d∧(d=.slice e∨d=.string)) (hs:sizeT P e=some sz) (hby:bytesT P e=some bytes) (hz:zeroT P e=some z) (hzl:z.length=sz) (hb0:0<bytes)
 (hg:hget H o=some (.gr e sz xs)) (hn:xs.length=n) (hcs:HV (Own X μ H) μ H H.length w (.gr o n) cs) (he:elemsOf H sz v=some ys) (hcx:HV (Own X μ H) μ H H.length w v cx)
 (hbd:(n+ys.length)*bytes≤140737488355328) (hbd2:n+ys.length≤140737488355328) :
 ∃ c w',(Builtin.append_ #[t,t'] ty #[cs,cx]).run P w=.ok c w'∧St X μ H w (hset H o (.gr e sz (xs++ys))) (.gr o (n+ys.length)) c w':=by
 obtain⟨⟨news,hN⟩,hys⟩:=elemsOf_ok (P:=P) hi hsz he hcx
 obtain⟨info,zv,hinfo,hzero,hzd⟩:=zeroT_ok hz
 have hisz:=sizeT_info hinfo hs
 have hiby:=bytesT_info hinfo hby
 have hte:=elemT_ok ht
 obtain⟨d',hd',hdi⟩:=ht'
 have holt:=hget_lt hg
 obtain⟨_,hxs,hblk⟩:=hi.obj o _ hg
 have hob:ownedO H o:=by unfold ownedO;rw[hg];trivial
 have hall:∀ x∈xs++ys,x.cells.length=sz∧scVs x.cells=true:=fun x hx=>(List.mem_append.1 hx).elim (hxs x) (hys x)
 cases hcs with
 | gr _ _ cap a ho hgr =>
   obtain⟨_,hcur⟩:=hgr _ _ _ hg
   have hlen:=hN.len
   by_cases hroom:n+ys.length≤cap
   ·rcases hcur hn with ⟨m0,hn0,ha,hcap⟩ | ⟨b,cc,ee,hm,ha,hnc,hb,hsz2⟩
    ·
      subst ha;subst hcap
      have hy0:ys=[]:=List.eq_nil_of_length_eq_zero (by omega)
      subst hy0
      have hnews:news=[]:=List.eq_nil_of_length_eq_zero (by rw[hN.size];simp)
      have hf:=hN.first w (fun _=>rfl)
      refine⟨.slice none (n+0) 0,w,?_,?_⟩
      ·subst hnews
       simp only[List.length_nil] at hlen hf
       have hn00:n=0:=by omega
       subst hn00
       rcases hdi with rfl | rfl<;>simp[Builtin.append_,run_und hte,run_und hd',sizeOf,typeInfo,hinfo,hlen,hisz,hf]
      ·simp only[List.append_nil,List.length_nil,Nat.add_zero]
       rw[hset_same hg]
       exact St.here hi (.gr o n 0 none ho hgr)
    ·
      subst ha
      rcases hblk with ⟨m0,_⟩ | ⟨b',c',hm',hb',hl,hr⟩
      ·rw[hm] at m0;cases m0
      ·rw[hm] at hm'; cases hm'
       rw[hb] at hb'; cases hb'
       have hnl:news.length=ys.length*sz:=hN.size
       have hfit:n*sz+news.length≤cc.size:=by
        rw[hnl,← Nat.add_mul];exact Nat.le_trans (Nat.mul_le_mul_right _ hroom) hsz2
       have h1:∀ u∈news,u.oneCell'=true:=by
        intro u hu
        obtain⟨k,hk,rfl⟩:=List.mem_iff_getElem.1 hu
        obtain⟨i,x,j,vv,e1,e2,e3,e4⟩:=hN.row.flat (fun y hy=>(hys y hy).1) (k:=k) (by omega)
        have:=scV_one e4 (scVs_mem (hys x (List.mem_of_getElem? e1)).2 j vv e2)
        simpa[List.getD_eq_getElem?_getD,List.getElem?_eq_getElem hk] using this
       have hst:=run_storeCells_at P b (n*sz) e news 0 cc w hb (by simpa using hfit) h1
       simp only[Nat.add_zero] at hst
       have hf:=hN.first w (fun _=>rfl)
       refine⟨.slice (some ⟨b,0,none⟩) (n+ys.length) cap,w.setRow b (cc.toList.take (n*sz)++news++cc.toList.drop (n*sz+news.length)).toArray,?_,?_⟩
       ·rcases hdi with rfl | rfl<;>simp[Builtin.append_,run_und hte,run_und hd',sizeOf,typeInfo,hinfo,hlen,hisz,hroom,hf,add_lit,hst]
       ·have hcsz:(cc.toList.take (n*sz)++news++cc.toList.drop (n*sz+news.length)).toArray.size=cc.size:=by simp;omega
        have hk:(match Ob.gr e sz xs,Ob.gr e sz (xs++ys) with | .box ty _,.box ty' _=>ty=ty' | .gr ty sz xs,.gr ty' sz' xs'=>ty=ty'∧sz=sz'∧xs.length≤xs'.length | _,_=>False):=⟨rfl,rfl,by simp⟩
        have hx:=Ext.turn hi (ob':=.gr e sz (xs++ys)) hg hm hob hb (setRow_heap w b cc _ _ (0,0) hb) hcsz (fun k hk=>setRow_other w b k _ hk) (setRow_size ..) rfl rfl rfl hk
        have hrow:Row (Own X μ H) μ H w sz (xs++ys) (fun k=>(cc.toList.take (n*sz)++news++cc.toList.drop (n*sz+news.length)).toArray.getD k undef):=by
         refine Row.append (f:=fun k=>cc.getD k undef) (g:=fun k=>news.getD k undef) (fun i x j v h1 h2=>hr i x j v h1 h2) hN.row (fun x hx=>(hxs x hx).1) (fun x hx=>(hys x hx).1) ?_ ?_
         ·intro j hj
          rw[hn] at hj
          have:j<cc.size:=by omega
          simp only[Array.getD_eq_getD_getElem?,List.getElem?_toArray]
          rw[List.append_assoc,List.getElem?_append_left (by simp;omega),List.getElem?_take,if_pos hj]
          simp
         ·intro j hj
          rw[hn]
          simp only[Array.getD_eq_getD_getElem?,List.getElem?_toArray,List.getD_eq_getElem?_getD]
          have e1:(cc.toList.take (n*sz)).length=n*sz:=by simp;omega
          rw[List.append_assoc,List.getElem?_append_right (by omega),List.getElem?_append_left (by omega),e1,Nat.add_sub_cancel_left]
        refine⟨μ,hi.turn hg hm hob hb (setRow_heap w b cc _ _ (0,0) hb) hcsz (fun k hk=>setRow_other w b k _ hk) (setRow_size ..) rfl rfl rfl hk ?_,hx,?_⟩
        ·exact⟨hsz,hall,.inr ⟨b,_,hm,setRow_heap w b cc _ _ (0,0) hb,by rw[hcsz,List.length_append,hn];exact Nat.le_trans (Nat.mul_le_mul_right _ hroom) hsz2,hrow.mono hi hx⟩⟩
        ·refine .gr _ _ _ _ (by rw[hset_length];exact holt) ?_
         intro ty' sz' xs' hg'
         rw[hget_hset_self _ holt] at hg'; cases hg'
         exact⟨by simp[hn],fun _=>.inr ⟨b,_,_,hm,rfl,hroom,setRow_heap w b cc _ _ (0,0) hb,by rw[hcsz];exact hsz2⟩⟩
   ·
     have hroom':cap<n+ys.length:=by omega
     have hy0:0<ys.length:=by
      rcases Nat.eq_zero_or_pos ys.length with h | h
      ·exfalso
       rcases hcur hn with ⟨_,h1,_,_⟩ | ⟨_,_,_,_,_,h1,_,_⟩<;>omega
      ·exact h
     have hnl:news.length=ys.length*sz:=hN.size
     obtain⟨olds,hol,hof,hor⟩:∃ olds:List Value,olds.length=n*sz∧(Builtin.firstCells sz n (.slice a n cap)).run P w.drew=.ok olds.toArray w.drew∧Row (Own X μ H) μ H w sz xs (fun k=>olds.getD k undef):=by
      rcases hcur hn with ⟨m0,hn0,ha,hcap⟩ | ⟨b,cc,ee,hm,ha,hnc,hb,hsz2⟩
      ·subst ha
       have hx0:xs=[]:=List.eq_nil_of_length_eq_zero (by omega)
       subst hx0
       exact⟨[],by simp[hn0],by simp[Builtin.firstCells],fun i x j v h=>by simp at h⟩
      ·subst ha
       rcases hblk with ⟨m0,_⟩ | ⟨b',c',hm',hb',hl,hr⟩
       ·rw[hm] at m0;cases m0
       ·rw[hm] at hm'; cases hm'
        rw[hb] at hb'; cases hb'
        rw[hn] at hl
        refine⟨cc.toList.take (n*sz),by simp;omega,?_,?_⟩
        ·refine run_firstCells_some (P:=P) w.drew sz n ⟨b,0,none⟩ n cap _ (by simp;omega) (fun j v hj=>?_)
         rw[List.getElem?_take] at hj
         split at hj
         ·rw[add_lit,Nat.zero_add]
          have hb2:w.drew.heap[b]? = some (.cells cc e (0,0)):=hb
          simp only[World.cell?,hb2]
          simpa using hj
         ·cases hj
        ·intro i x j v h1 h2
         have hl':i<xs.length:=(List.getElem?_eq_some_iff.1 h1).1
         have hj:j<sz:=by rw[← (hxs x (List.mem_of_getElem? h1)).1];exact(List.getElem?_eq_some_iff.1 h2).1
         have h3:i*sz+j<n*sz:=by
          have:(i+1)*sz≤n*sz:=Nat.mul_le_mul_right sz (by omega)
          rw[Nat.succ_mul] at this;omega
         have:=hr i x j v h1 h2
         simpa[List.getD_eq_getElem?_getD,List.getElem?_take,h3,Array.getD_eq_getD_getElem?] using this
     have hfit:=growslice_fits hroom' hbd
     have h63':¬ (9223372036854775807<((n:Int)+(ys.length:Int))):=by omega
     have h48':¬ (281474976710656<Builtin.nextslicecap (n+ys.length) cap*info.bytes):=by rw[hiby];omega
     have hf:=hN.first w.drew (fun _=>rfl)
     have hb0':info.bytes≠0:=by omega
     have hge:=grownCap_ge w (n+ys.length) cap e
     refine⟨.slice (some ⟨w.heap.size,0,none⟩) (n+ys.length) (grownCap w (n+ys.length) cap e),
      w.drew.alloc (.cells (olds.toArray++news.toArray++Builtin.zeroCells zv.cells (grownCap w (n+ys.length) cap e-(n+ys.length))) e),?_,?_⟩
     ·rcases hdi with rfl | rfl<;>simp[Builtin.append_,run_und hte,run_und hd',sizeOf,typeInfo,zeroValue,hinfo,hzero,hlen,hisz,hroom,h63',h48',Question.forced,hf,hof,newRow,grownCap]<;>(congr 2;rw[← Array.append_assoc];simp)
     ·generalize hcc:(olds.toArray++news.toArray++Builtin.zeroCells zv.cells (grownCap w (n+ys.length) cap e-(n+ys.length)))=cc
      have hzl:zv.cells.size=sz:=by
       have:=(hzd (fun _=>False) w).1
       omega
      have hcsz:cc.size=grownCap w (n+ys.length) cap e*sz:=by
       rw[← hcc]
       simp only[Array.size_append,List.size_toArray,size_zeroCells,hol,hnl,hzl,← Nat.add_mul]
       congr 1;omega
      have hrow:Row (Own X μ H) μ H w sz (xs++ys) (fun k=>cc.getD k undef):=by
       refine Row.append (f:=fun k=>olds.getD k undef) (g:=fun k=>news.getD k undef) hor hN.row (fun x hx=>(hxs x hx).1) (fun x hx=>(hys x hx).1) ?_ ?_
       ·intro j hj
        rw[hn] at hj
        rw[← hcc]
        simp only[Array.getD_eq_getD_getElem?,List.getD_eq_getElem?_getD]
        rw[Array.append_assoc,Array.getElem?_append_left (by simp;omega)]
        simp
       ·intro j hj
        rw[hn,← hcc]
        simp only[Array.getD_eq_getD_getElem?,List.getD_eq_getElem?_getD]
        rw[Array.getElem?_append_left (by simp;omega),Array.getElem?_append_right (by simp;omega)]
        simp[hol]
      have hw:∀ k:Nat,k<w.heap.size→(w.drew.alloc (.cells cc e)).heap[k]? = w.heap[k]? := fun k hk=>heap_alloc w.drew _ k hk
      have hnew:(w.drew.alloc (.cells cc e)).heap[w.heap.size]? = some (.cells cc e (0,0)):=heap_alloc_new w.drew _
      have hext:Ext X μ H w (upd μ o (some w.heap.size)) (hset H o (.gr e sz (xs++ys))) (w.drew.alloc (.cells cc e)):=by
       refine⟨by simp,fun b hb _=>hw b hb,fun b hb=>hw b (hi.low b hb),?_,fun b c e h _ _=>⟨c,e,(hw b (lt_of_heap h)).trans h,rfl⟩,by rw[hset_length];exact Nat.le_refl _,?_,?_,rfl,rfl,rfl⟩
       ·intro b hb h
        rcases h with h | ⟨o',ho',hm'⟩
        ·exact .inl h
        ·by_cases e1:o'=o
         ·subst e1;rw[upd_self] at hm'; cases hm'; omega
         ·rw[upd_other e1] at hm'
          exact .inr ⟨o',by unfold ownedO at ho' ⊢; rw[hget_hset_other _ (Ne.symm e1)] at ho'; exact ho',hm'⟩
       ·intro o' _ hng
        have e1:o'≠o:=fun e1=>hng (by subst e1;unfold isGr;rw[hg];trivial)
        exact⟨upd_other e1,by unfold isGr at hng ⊢; rw[hget_hset_other _ (Ne.symm e1)];exact hng⟩
       ·intro o' ty' sz' xs' _ hg'
        by_cases e1:o'=o
        ·subst e1
         rw[hget_hset_self _ holt] at hg'; cases hg'
         exact⟨xs,hg,by simp,fun hl=>by rw[List.length_append] at hl;omega⟩
        ·rw[hget_hset_other _ (Ne.symm e1)] at hg'
         exact⟨xs',hg',Nat.le_refl _,fun _=>upd_other e1⟩
      refine⟨upd μ o (some w.heap.size),?_,hext,?_⟩
      ·refine hi.step hext o (.gr e sz (xs++ys)) (hget_hset_self _ holt) (fun o' h=>hget_hset_other _ (Ne.symm h)) (fun o' h=>upd_other h) (fun o' b _ h1 h2=>hw b (Own_lt hi (.inr ⟨o',h1,h2⟩))) ?_ ?_
       ·exact⟨hsz,hall,.inr ⟨w.heap.size,cc,upd_self ..,hnew,by rw[hcsz,List.length_append,hn];exact Nat.mul_le_mul_right _ hge,hrow.mono hi hext⟩⟩
       ·intro b _ h2
        rw[upd_self] at h2;cases h2
        refine⟨fun hX=>by have:=hi.low _ hX;omega,fun o' _ h1 h3=>?_⟩
        have:=Own_lt hi (.inr ⟨o',h1,h3⟩:Own X μ H w.heap.size);omega
      ·refine .gr _ _ _ _ (by rw[hset_length];exact holt) ?_
       intro ty' sz' xs' hg'
       rw[hget_hset_self _ holt] at hg'; cases hg'
       exact⟨by simp[hn],fun _=>.inr ⟨_,_,e,upd_self ..,rfl,hge,hnew,by rw[hcsz];exact Nat.le_refl _⟩⟩
end
end
section
open Go
theorem own_trunc {X:Cx}{μ:Nat→Option Nat}{H:Hp}{n b:Nat} (h:Own X μ (trunc n H) b):Own X μ H b:=by
 rcases h with h | ⟨o,ho,hm⟩
 ·exact .inl h
 ·refine .inr ⟨o,?_,hm⟩
  have hlt:o<n:=by have:=ownedO_lt ho;rw[trunc_length] at this;omega
  unfold ownedO at ho ⊢; rw[hget_trunc hlt] at ho;exact ho
theorem vlts_mem:∀ {n:Nat}{vs:List V},vlts n vs=true→∀ (j:Nat) v,vs[j]? = some v→vlt n v=true
 | _,[],_,j,v,hv=>by simp at hv
 | n,x::vs,h,j,v,hv=>by
   simp only[vlts,Bool.and_eq_true] at h
   cases j with
   | zero=>simp at hv;subst hv;exact h.1
   | succ j=>simp at hv;exact vlts_mem h.2 j v hv
theorem HV.trunc {X:Cx}{μ:Nat→Option Nat}{H:Hp}{N n:Nat}{w:World}{v:V}{c:Value} (h:HV (Own X μ H) μ H N w v c) (hv:vlt n v=true) :
 HV (Own X μ (trunc n H)) μ (trunc n H) n w v c:=by
 induction h with
 | u c=>exact .u c
 | d x c h=>exact .d x c (h.mono (fun _ _ _=>rfl) (fun _ _=>own_trunc))
 | p o i b h hm hg =>
   simp only[vlt,decide_eq_true_eq] at hv
   exact .p o i b hv hm (by unfold isGr at hg ⊢; rw[hget_trunc hv];exact hg)
 | gr o n' cap a h hg =>
   simp only[vlt,decide_eq_true_eq] at hv
   exact .gr o n' cap a hv (fun ty sz xs hx=>hg ty sz xs (by rw[hget_trunc hv] at hx;exact hx))
 | gp o n' i off b a h hg =>
   simp only[vlt,decide_eq_true_eq] at hv
   exact .gp o n' i off b a hv (fun ty sz xs hx=>hg ty sz xs (by rw[hget_trunc hv] at hx;exact hx))
 | yl o l h hm hg =>
   simp only[vlt,decide_eq_true_eq] at hv
   exact .yl o l hv hm (by unfold isGr at hg ⊢; rw[hget_trunc hv];exact hg)
 | fn f xs ys a b ha hb _ _ iha ihb =>
   simp only[vlt,Bool.and_eq_true] at hv
   exact .fn f xs ys a b ha hb (fun j v h=>iha j v h (vlts_mem hv.1 j v h)) (fun j v h=>ihb j v h (vlts_mem hv.2 j v h))
 | ifc t v c _ ih=>simp only[vlt] at hv;exact .ifc t v c (ih hv)
 | agg cs a ha _ ih=>simp only[vlt] at hv;exact .agg cs a ha (fun j v h=>ih j v h (vlts_mem hv j v h))
 | tup cs a ha _ ih=>simp only[vlt] at hv;exact .tup cs a ha (fun j v h=>ih j v h (vlts_mem hv j v h))
theorem HV.older {X:Cx}{μ:Nat→Option Nat}{H:Hp}{n:Nat}{w:World}{v:V}{c:Value} (h:HV (Own X μ H) μ H n w v c) :
 HV (Own X μ (Go.Proofs.YtmiioebapckcoaaGreatDoor.trunc n H)) μ (Go.Proofs.YtmiioebapckcoaaGreatDoor.trunc n H) n w v c:=by
 induction h with
 | u c=>exact .u c
 | d x c h=>exact .d x c (h.mono (fun _ _ _=>rfl) (fun _ _=>own_trunc))
 | p o i b h hm hg=>exact .p o i b h hm (by unfold isGr at hg ⊢; rw[hget_trunc h];exact hg)
 | gr o n' cap a h hg=>exact .gr o n' cap a h (fun ty sz xs hx=>hg ty sz xs (by rw[hget_trunc h] at hx;exact hx))
 | gp o n' i off b a h hg=>exact .gp o n' i off b a h (fun ty sz xs hx=>hg ty sz xs (by rw[hget_trunc h] at hx;exact hx))
 | yl o l h hm hg=>exact .yl o l h hm (by unfold isGr at hg ⊢; rw[hget_trunc h];exact hg)
 | fn f xs ys a b ha hb _ _ iha ihb=>exact .fn f xs ys a b ha hb iha ihb
 | ifc t v c _ ih=>exact .ifc t v c ih
 | agg cs a ha _ ih=>exact .agg cs a ha ih
 | tup cs a ha _ ih=>exact .tup cs a ha ih
theorem cells_vlt {n:Nat}{x:V} (h:vlt n x=true):∀ (j:Nat) v,x.cells[j]? = some v→vlt n v=true:=by
 intro j v hv
 have one:∀ {y:V},vlt n y=true→[y][j]? = some v→vlt n v=true:=by
  intro y hy h1
  cases j with
  | zero=>simp at h1;subst h1;exact hy
  | succ j=>simp at h1
 cases x with
 | d x =>
   simp only[V.cells,List.getElem?_map] at hv
   cases hx:x.cells[j]? with
   | none=>rw[hx] at hv;cases hv
   | some y=>rw[hx] at hv;cases hv;rfl
 | agg cs=>exact vlts_mem (vs:=cs) (by simpa[vlt] using h) j v hv
 | _=>exact one h hv
theorem vlts_of {n:Nat}:∀ {vs:List V},(∀ (j:Nat) v,vs[j]? = some v→vlt n v=true)→vlts n vs=true
 | [],_=>rfl
 | x::vs,h=>by simp only[vlts,Bool.and_eq_true];exact⟨h 0 x rfl,vlts_of fun j v hv=>h (j+1) v (by simpa using hv)⟩
theorem HV.vlt {O:Bs}{μ:Nat→Option Nat}{H:Hp}{n:Nat}{w:World}{v:V}{c:Value} (h:HV O μ H n w v c):Go.Proofs.YtmiioebapckcoaaGreatDoor.vlt n v=true:=by
 induction h with
 | u c=>rfl
 | d x c h=>rfl
 | p o i b h hm hg=>simpa[Go.Proofs.YtmiioebapckcoaaGreatDoor.vlt] using h
 | gr o n' cap a h hg=>simpa[Go.Proofs.YtmiioebapckcoaaGreatDoor.vlt] using h
 | gp o n' i off b a h hg=>simpa[Go.Proofs.YtmiioebapckcoaaGreatDoor.vlt] using h
 | yl o l h hm hg=>simpa[Go.Proofs.YtmiioebapckcoaaGreatDoor.vlt] using h
 | fn f xs ys a b ha hb _ _ iha ihb=>simp only[Go.Proofs.YtmiioebapckcoaaGreatDoor.vlt,Bool.and_eq_true];exact⟨vlts_of iha,vlts_of ihb⟩
 | ifc t v c _ ih=>simpa only[Go.Proofs.YtmiioebapckcoaaGreatDoor.vlt] using ih
 | agg cs a ha _ ih=>simp only[Go.Proofs.YtmiioebapckcoaaGreatDoor.vlt];exact vlts_of ih
 | tup cs a ha _ ih=>simp only[Go.Proofs.YtmiioebapckcoaaGreatDoor.vlt];exact vlts_of ih
theorem cells_vlt' {n:Nat}{x:V} (h:∀ (j:Nat) v,x.cells[j]? = some v→vlt n v=true):vlt n x=true:=by
 cases x with
 | d x=>rfl
 | agg cs=>simp only[vlt];exact vlts_of h
 | _=>exact h 0 _ rfl
theorem eget_mem:∀ (e:En) (t:Nat),eget e t=.u∨∃ v,(t,v)∈e
 | [],t=>.inl rfl
 | (k,v)::e,t=>by
   unfold eget
   split
   ·rename_i h;subst h;exact .inr ⟨v,by simp⟩
   ·rcases eget_mem e t with h | ⟨v',h⟩
    ·exact .inl h
    ·exact .inr ⟨v',by simp[h]⟩
theorem eAll {n:Nat}{e:En} (h:∀ (a:Nat) (b:V),(a,b)∈e→vlt n (eget e a)=true) (t:Nat):vlt n (eget e t)=true:=by
 rcases eget_mem e t with h1 | ⟨v,h1⟩
 ·rw[h1];rfl
 ·exact h t v h1
theorem Inv.trunc {X:Cx}{μ μ':Nat→Option Nat}{h h':Hp}{w w':World} (hi:Inv X μ h w) (hi':Inv X μ' h' w') (hx:Ext X μ h w μ' h' w') (hok:HOk h h') :
 Inv X μ' (Go.Proofs.YtmiioebapckcoaaGreatDoor.trunc h.length h') w'∧Ext X μ h w μ' (Go.Proofs.YtmiioebapckcoaaGreatDoor.trunc h.length h') w':=by
 have hlen:(Go.Proofs.YtmiioebapckcoaaGreatDoor.trunc h.length h').length=h.length:=by rw[trunc_length];have:=hx.len;omega
 have hown:∀ o,ownedO (Go.Proofs.YtmiioebapckcoaaGreatDoor.trunc h.length h') o→o<h.length∧ownedO h' o:=by
  intro o ho
  have hlt:o<h.length:=by have:=ownedO_lt ho;omega
  exact⟨hlt,by unfold ownedO at ho ⊢; rw[hget_trunc hlt] at ho;exact ho⟩
 refine⟨⟨?_,?_,?_,hi'.low⟩,⟨hx.size,hx.blk,hx.xblk,fun b hb ho=>hx.own b hb (own_trunc ho),fun b c e h1 h2 h3=>hx.shape b c e h1 h2 (own_trunc h3),by rw[hlen];exact Nat.le_refl _,?_,?_,hx.os,hx.tape,hx.output⟩⟩
 ·intro o ob hg
  have hlt:o<h.length:=by have:=hget_lt hg;omega
  rw[hget_trunc hlt] at hg
  have hk:=hi'.obj o ob hg
  have cont:∀ {v:V}{c:Value},HV (Own X μ' h') μ' h' h'.length w' v c→vlt h.length v=true→HV (Own X μ' (Go.Proofs.YtmiioebapckcoaaGreatDoor.trunc h.length h')) μ' (Go.Proofs.YtmiioebapckcoaaGreatDoor.trunc h.length h') (Go.Proofs.YtmiioebapckcoaaGreatDoor.trunc h.length h').length w' v c:=by
   intro v c h1 h2
   rw[hlen];exact h1.trunc h2
  have hv:obVlt h.length ob=true:=by
   rcases hok o ob hlt hg with hsame | hv
   ·have hk0:=hi.obj o ob hsame
    cases ob with
    | box ty cs=>obtain⟨b,c,h1,h2,h3⟩:=hk0;exact vlts_of fun j v hj=>(h3.2 j v hj).vlt
    | ro cs=>obtain⟨b,c,e,z,h1,h2,h3,h4⟩:=hk0;exact vlts_of fun j v hj=>(h4.2 j v hj).vlt
    | gr ty sz xs =>
      obtain⟨_,_,h2⟩:=hk0
      rcases h2 with ⟨_,rfl⟩ | ⟨b,c,h3,h4,h5,h6⟩
      ·rfl
      ·exact vlts_of fun i x hx'=>cells_vlt' fun j v hj=>(h6 i x j v hx' hj).vlt
    | loop ps e asg body st pend =>
      obtain⟨l,r,h1,h2,h3,h4⟩:=hk0
      simp only[obVlt,List.all_eq_true]
      exact fun p _=>(h4 p.1).vlt
    | dead=>rfl
    | nop=>rfl
   ·exact hv
  cases ob with
  | box ty cs=>obtain⟨b,c,h1,h2,h3⟩:=hk;exact⟨b,c,h1,h2,h3.1,fun j v hj=>cont (h3.2 j v hj) (vlts_mem (by simpa[obVlt] using hv) j v hj)⟩
  | ro cs=>obtain⟨b,c,e,z,h1,h2,h3,h4⟩:=hk;exact⟨b,c,e,z,h1,fun hO=>h2 (own_trunc hO),h3,h4.1,fun j v hj=>cont (h4.2 j v hj) (vlts_mem (by simpa[obVlt] using hv) j v hj)⟩
  | gr ty sz xs =>
    obtain⟨h0,h1,h2⟩:=hk
    refine⟨h0,h1,?_⟩
    rcases h2 with h2 | ⟨b,c,h3,h4,h5,h6⟩
    ·exact .inl h2
    ·exact .inr ⟨b,c,h3,h4,h5,fun i x j v hx' hj=>cont (h6 i x j v hx' hj) (cells_vlt (vlts_mem (by simpa[obVlt] using hv) i x hx') j v hj)⟩
  | loop ps e asg body st pend=>obtain⟨l,r,h1,h2,h3,h4⟩:=hk;exact⟨l,r,h1,h2,h3,fun t=>cont (h4 t) (eAll (by simpa[obVlt] using hv) t)⟩
  | dead=>trivial
  | nop=>trivial
 ·intro o o' b hne h1 h2 m1 m2
  exact hi'.inj o o' b hne (hown o h1).2 (hown o' h2).2 m1 m2
 ·intro o b h1 m1
  exact hi'.xs o b (hown o h1).2 m1
 ·intro o ho hg
  obtain⟨h1,h2⟩:=hx.mu o ho hg
  exact⟨h1,by unfold isGr at h2 ⊢; rw[hget_trunc ho];exact h2⟩
 ·intro o ty sz xs' ho hg
  rw[hget_trunc ho] at hg
  exact hx.gr o ty sz xs' ho hg
end
section
open Go
theorem omap_ok {f:V→Option D}:∀ {cs:List V}{ds:List D},omap f cs=some ds→ds.length=cs.length∧∀ (j:Nat) d,ds[j]? = some d→∃ v,cs[j]? = some v∧f v=some d
 | [],ds,h=>by simp[omap] at h;subst h;simp
 | v::vs,ds,h=>by
   simp only[omap] at h
   cases h1:f v with
   | none=>rw[h1] at h;cases h
   | some x =>
     cases h2:omap f vs with
     | none=>rw[h1,h2] at h;cases h
     | some xs =>
       rw[h1,h2] at h;cases h
       obtain⟨g1,g2⟩:=omap_ok h2
       refine⟨by simp[g1],fun j d hd=>?_⟩
       cases j with
       | zero=>simp at hd;subst hd;exact⟨v,rfl,h1⟩
       | succ j=>simp at hd;simpa using g2 j d hd
theorem fz_cells {h:Hp}{n:Nat}:∀ {k:Nat}{y:V}{x:D},fz h n k y=some x→x.cells.length=y.cells.length ∧
 ∀ (j:Nat) e,x.cells[j]? = some e→∃ v k',k'≤k∧y.cells[j]? = some v∧fz h n k' v=some e:=by
 intro k y x hf
 cases k with
 | zero=>simp[fz] at hf
 | succ k =>
   have one:∀ {y:V}{x:D},y.cells=[y]→x.cells=[x]→fz h n (k+1) y=some x→x.cells.length=y.cells.length ∧
    ∀ (j:Nat) e,x.cells[j]? = some e→∃ v k',k'≤k+1∧y.cells[j]? = some v∧fz h n k' v=some e:=by
    intro y x h1 h2 h3
    rw[h1,h2]
    refine⟨rfl,fun j e he=>?_⟩
    cases j with
    | zero=>simp at he;subst he;exact⟨y,k+1,Nat.le_refl _,rfl,h3⟩
    | succ j=>simp at he
   cases y with
   | u=>simp[fz] at hf
   | d x' =>
     simp only[fz,Option.some.injEq] at hf;subst hf
     refine⟨by simp[V.cells],fun j e he=>⟨.d e,k+1,Nat.le_refl _,by simp[V.cells,he],by simp[fz]⟩⟩
   | p o i =>
     have hf':=hf
     simp only[fz] at hf
     split at hf
     ·cases hf
     ·split at hf
      ·split at hf
       ·split at hf
        ·cases hf;exact one rfl rfl hf'
        ·cases hf
       ·cases hf
      ·cases hf
   | gr o m =>
     have hf':=hf
     simp only[fz] at hf
     split at hf
     ·cases hf
     ·split at hf
      ·split at hf
       ·split at hf
        ·cases hf;exact one rfl rfl hf'
        ·cases hf
       ·cases hf
      ·cases hf
   | gp _ _ _ _=>simp[fz] at hf
   | yl _=>simp[fz] at hf
   | fn f a b =>
     have hf':=hf
     simp only[fz] at hf
     split at hf
     ·cases hf;exact one rfl rfl hf'
     ·cases hf
   | ifc t v =>
     have hf':=hf
     simp only[fz] at hf
     split at hf
     ·cases hf;exact one rfl rfl hf'
     ·cases hf
   | agg cs =>
     simp only[fz] at hf
     split at hf
     ·rename_i ds hds
      cases hf
      obtain⟨g1,g2⟩:=omap_ok hds
      refine⟨by simp[V.cells,D.cells,g1],fun j e he=>?_⟩
      obtain⟨v,hv,hfv⟩:=g2 j e he
      exact⟨v,k,by omega,hv,hfv⟩
     ·cases hf
   | tup cs =>
     have hf':=hf
     simp only[fz] at hf
     split at hf
     ·cases hf;exact one rfl rfl hf'
     ·cases hf
theorem not_own_trunc {X:Cx}{μ:Nat→Option Nat}{H:Hp}{w:World} (hi:Inv X μ H w) {n o b:Nat} (ho:n≤o) (hob:ownedO H o) (hm:μ o=some b):¬ Own X μ (trunc n H) b:=by
 rintro (h | ⟨o',ho',hm'⟩)
 ·exact hi.xs o b hob hm h
 ·have hlt:o'<n:=by have:=ownedO_lt ho'; rw[trunc_length] at this;omega
  have:ownedO H o':=by unfold ownedO at ho' ⊢; rw[hget_trunc hlt] at ho'; exact ho'
  exact hi.inj o o' b (by omega) hob this hm hm'
theorem fz_ok {X:Cx}{μ:Nat→Option Nat}{H:Hp}{w:World} (hi:Inv X μ H w) {n:Nat} :
 ∀ (k:Nat) {N:Nat}{v:V}{d:D}{c:Value},fz H n k v=some d→HV (Own X μ H) μ H N w v c→HD (Own X μ (trunc n H)) w d c:=by
 intro k
 induction k using Nat.strongRecOn with
 | _ k ih =>
   intro N v d c hf hv
   cases k with
   | zero=>simp[fz] at hf
   | succ k =>
     have ih':∀ {N:Nat}{v:V}{d:D}{c:Value},fz H n k v=some d→HV (Own X μ H) μ H N w v c→HD (Own X μ (trunc n H)) w d c:=fun h1 h2=>ih k (by omega) h1 h2
     have list:∀ {cs:List V}{ds:List D}{a:Array Value},omap (fz H n k) cs=some ds→a.size=cs.length→(∀ (j:Nat) v,cs[j]? = some v→HV (Own X μ H) μ H N w v (a.getD j undef)) →
      a.size=ds.length∧∀ (j:Nat) v,ds[j]? = some v→HD (Own X μ (trunc n H)) w v (a.getD j undef):=by
      intro cs ds a h1 h2 h3
      obtain⟨g1,g2⟩:=omap_ok h1
      refine⟨by omega,fun j d hd=>?_⟩
      obtain⟨v,hv,hfv⟩:=g2 j d hd
      exact ih' hfv (h3 j v hv)
     cases hv with
     | u c=>simp[fz] at hf
     | d x c h=>simp only[fz,Option.some.injEq] at hf;subst hf;exact h.mono (fun _ _ _=>rfl) (fun _ _=>own_trunc)
     | p o i b h hm hg =>
       simp only[fz] at hf
       split at hf
       ·cases hf
       ·rename_i hon
        split at hf
        ·rename_i cs hget
         split at hf
         ·rename_i ds hds
          split at hf
          ·rename_i hil
           cases hf
           obtain⟨b',cc,h1,h2,h3⟩:=hi.obj o _ hget
           rw[hm] at h1;cases h1
           have hob:ownedO H o:=by unfold ownedO;rw[hget];trivial
           obtain⟨g1,g2⟩:=omap_ok hds
           refine .fpc (ds.drop i) b i (fun j=>cc.getD (i+j) undef) (fun h=>by have:=congrArg List.length h;simp at this;omega) (not_own_trunc hi (by omega) hob hm) ?_ ?_
           ·intro j hj
            have hj':i+j<cc.size:=by rw[h3.1];simp at hj;omega
            simp[World.cell?,h2,Array.getD_eq_getD_getElem?,Array.getElem?_eq_getElem hj']
           ·intro j v hv
            rw[List.getElem?_drop] at hv
            obtain⟨y,hy,hfy⟩:=g2 _ v hv
            exact ih' hfy (h3.2 _ y hy)
          ·cases hf
         ·cases hf
        ·cases hf
     | gr o m cap a h hg =>
       simp only[fz] at hf
       split at hf
       ·cases hf
       ·rename_i hon
        split at hf
        ·rename_i sz xs hget
         split at hf
         ·rename_i hm
          split at hf
          ·rename_i ds hds
           cases hf
           obtain⟨hsz,hxs,_⟩:=hi.obj o _ hget
           obtain⟨_,h2⟩:=hg _ sz xs hget
           obtain⟨g1,g2⟩:=omap_ok hds
           have hob:ownedO H o:=by unfold ownedO;rw[hget];trivial
           obtain⟨_,_,hblk⟩:=hi.obj o _ hget
           rcases h2 hm with ⟨m0,hn0,ha,hcap⟩ | ⟨b,cs,e,hmu,ha,hn,hb,hs⟩
           ·subst ha;subst hcap
            have hx0:xs=[]:=List.eq_nil_of_length_eq_zero (by omega)
            subst hx0
            simp[omap] at hds;subst hds
            have:m=0:=by omega
            subst this
            exact .ls0
           ·subst ha
            rcases hblk with ⟨m0,_⟩ | ⟨b',c',hm',hb',hl,hr⟩
            ·rw[hmu] at m0;cases m0
            ·rw[hmu] at hm'; cases hm'
             rw[hb] at hb'; cases hb'
             have hml:m=ds.length:=by omega
             rw[hml]
             have hcell:∀ (i:Nat) x,ds[i]? = some x→∃ y,xs[i]? = some y∧fz H n k y=some x:=fun i x hx=>g2 i x hx
             refine .ls ds b 0 cap sz (fun j=>cs.getD j undef) hsz (fun _=>not_own_trunc hi (by omega) hob hmu) (by omega) ?_ ?_ ?_
             ·intro j hj
              have hj':j<cs.size:=by rw[g1] at hj;omega
              rw[Nat.zero_add]
              simp[World.cell?,hb,Array.getD_eq_getD_getElem?,Array.getElem?_eq_getElem hj']
             ·intro i x hx
              obtain⟨y,hy,hfy⟩:=hcell i x hx
              rw[(fz_cells hfy).1];exact(hxs y (List.mem_of_getElem? hy)).1
             ·intro i x j v hx hv
              obtain⟨y,hy,hfy⟩:=hcell i x hx
              obtain⟨v',k',hk',hv',hfv'⟩:=(fz_cells hfy).2 j v hv
              exact ih k' (by omega) hfv' (hr i y j v' hy hv')
          ·cases hf
         ·cases hf
        ·cases hf
     | gp o m i off b a h hg=>simp[fz] at hf
     | yl o l h hm hg=>simp[fz] at hf
     | fn f xs ys a b ha hb h1 h2 =>
       simp only[fz] at hf
       split at hf
       ·rename_i x y hx hy
        cases hf
        obtain⟨p1,p2⟩:=list hx ha h1
        obtain⟨q1,q2⟩:=list hy hb h2
        exact .fn f x y a b p1 q1 p2 q2
       ·cases hf
     | ifc t v c h =>
       simp only[fz] at hf
       split at hf
       ·rename_i x hx;cases hf;exact .ifc t x c (ih' hx h)
       ·cases hf
     | agg cs a ha h =>
       simp only[fz] at hf
       split at hf
       ·rename_i ds hds;cases hf;obtain⟨p1,p2⟩:=list hds ha h;exact .agg ds a p1 p2
       ·cases hf
     | tup cs a ha h =>
       simp only[fz] at hf
       split at hf
       ·rename_i ds hds;cases hf;obtain⟨p1,p2⟩:=list hds ha h;exact .tup ds a p1 p2
       ·cases hf
def Ends (X:Cx) (μ:Nat→Option Nat) (H:Hp) (w:World) (r:Out×Hp) (e:Ending) (w':World):Prop :=
 match r with
 | (.ret v,H')=>∃ c,e=.returned c∧St X μ H w H' v c w'
 | (.pan v,H')=>∃ c,e=.panicked [{ v:=c,recovered:=false }]∧St X μ H w H' v c w'
def YieldRun (P:Program) (l:Nat) (args:Array Value) (w:World) (R:Ending→World→Prop):Prop :=
 ∃ fn tmps assign body,(Instr.yield l args).run P w=.ok (.round l fn tmps assign body) w∧RoundIn Fence.wide 0 P l fn tmps assign body w R
structure CallOk (P:Program) (call:CallF):Prop where
 fn:∀ f args H r,call (.fn f) args H=some r→∀ X μ w cargs,X.P=P→Inv X μ H w→Gl P.globals.size μ H→HVs (Own X μ H) μ H H.length w args cargs→Calls P f cargs w (Ends X μ H w r)
 yl:∀ o args H r,call (.yl o) args H=some r→∀ X μ w cargs l,X.P=P→Inv X μ H w→Gl P.globals.size μ H→HVs (Own X μ H) μ H H.length w args cargs→μ o=some l→YieldRun P l cargs w (Ends X μ H w r)
def CallB (P : Program) (call : CallF) : Prop := ∀ g a h r, call (.fn g) a h = some r → ∃ fn, P.funcs[g]? = some fn ∧ fn.body.isSome = true ∧ fn.name ≠ "runtime.NumGoroutine"
def OpEnds (X:Cx) (μ:Nat→Option Nat) (H:Hp) (w:World) (r:Re×Hp) (K E:Value→World→Prop):Prop :=
 match r with
 | (.val v,H')=>∀ c w',St X μ H w H' v c w'→K c w'
 | (.pan v,H')=>∀ c w',St X μ H w H' v c w'→E c w'
def EndK (K E:Value→World→Prop) (e:Ending) (w':World):Prop:=match e with
 | .returned c=>K c w'
 | .panicked chain=>∃ c,chain=[{ v:=c,recovered:=false }]∧E c w'
 | .outgrown=>False
theorem fin_ok {X:Cx}{μ:Nat→Option Nat}{H:Hp}{w:World} (hi:Inv X μ H w) {keep:Bool}{r:Out×Hp}{q:Re×Hp} (h:fin keep H r=some q) {K E:Value→World→Prop} (hq:OpEnds X μ H w q K E)
 {e:Ending}{w':World} (he:Ends X μ H w r e w'):EndK K E e w':=by
 obtain⟨o,H'⟩:=r
 cases o with
 | ret v =>
   obtain⟨c,rfl,hs⟩:=he
   simp only[fin] at h
   split at h
   ·cases h;exact hq c w' hs
   ·split at h
    ·rename_i x hx
     split at h
     ·rename_i hc
      cases h
      obtain⟨μ',h1,h2,h3⟩:=hs
      obtain⟨h4,h5⟩:=Inv.trunc hi h1 h2 hc.2
      exact hq c w' ⟨μ',h4,h5,.d _ _ (fz_ok h1 8 hx h3)⟩
     ·cases h
    ·cases h
 | pan v =>
   obtain⟨c,rfl,hs⟩:=he
   simp only[fin] at h
   split at h
   ·rename_i hc
    cases h
    obtain⟨μ',h1,h2,h3⟩:=hs
    obtain⟨h4,h5⟩:=Inv.trunc hi h1 h2 hc.2.2
    refine⟨c,rfl,hq c w' ⟨μ',h4,h5,?_⟩⟩
    have hl:(trunc H.length H').length=H.length:=by rw[trunc_length];have:=hc.2.1;omega
    rw[hl];exact h3.trunc hc.1
   ·cases h
end
section
open Go
def Up (P:Program) (K E:Value→World→Prop):Result Next→Prop
 | .ok (.value v) w'=>K v w'
 | .ok .skip w'=>K undef w'
 | .ok (.enter f args) w'=>Calls P f args w' (EndK K E)
 | .ok (.round l f tmps asg body) w'=>RoundIn Fence.wide 0 P l f tmps asg body w' (EndK K E)
 | .halt (.panic v) w'=>E v w'
 | _=>False
theorem Up.val {P:Program}{K E:Value→World→Prop}{r:Result Next}{c:Value}{w':World} (h:r=.ok (.value c) w') (hk:K c w'):Up P K E r:=by subst h;exact hk
section
variable {P:Program}{call:CallF}{X:Cx}{μ:Nat→Option Nat}{H:Hp}{w:World}{e:En}{act:Act}{K E:Value→World→Prop}
theorem u_ne {v:V} (h:∀ (hv:v=.u),False):v≠.u:=fun hv=>h hv
theorem splice_get {α:Type} (c l:List α) (off k:Nat) (h:off+l.length≤c.length) :
 (c.take off++l++c.drop (off+l.length))[k]? = if k<off then c[k]? else if k<off+l.length then l[k-off]? else c[k]? := by
 have e1:(c.take off).length=off:=by simp;omega
 by_cases h1:k<off
 ·rw[if_pos h1,List.append_assoc,List.getElem?_append_left (by omega),List.getElem?_take,if_pos h1]
 ·rw[if_neg h1]
  by_cases h2:k<off+l.length
  ·rw[if_pos h2,List.append_assoc,List.getElem?_append_right (by omega),e1,List.getElem?_append_left (by omega)]
  ·rw[if_neg h2,List.getElem?_append_right (by simp;omega),List.getElem?_drop]
   congr 1;simp;omega
theorem fold_splice (a:Array Value) (off:Nat) (c:Array Value) (h:off+a.toList.length≤c.size) :
 a.zipIdx.foldl (fun cs (p:Value×Nat)=>cs.setIfInBounds (off+p.2) p.1) c=(c.toList.take off++a.toList++c.toList.drop (off+a.toList.length)).toArray:=by
 have key:∀ (l:List Value) (j:Nat) (c:Array Value),off+j+l.length≤c.size →
  (l.zipIdx j).foldl (fun cs (p:Value×Nat)=>cs.setIfInBounds (off+p.2) p.1) c=(c.toList.take (off+j)++l++c.toList.drop (off+j+l.length)).toArray:=by
  intro l
  induction l with
  | nil=>intro j c _;simp
  | cons y l ih =>
    intro j c hlen
    simp only[zC,List.foldl_cons]
    rw[ih (j+1) _ (by simp at hlen ⊢; omega)]
    have hlt:off+j<c.size:=by simp at hlen;omega
    congr 1
    apply List.ext_getElem?
    intro k
    simp only[Array.toList_setIfInBounds]
    have hlc:c.toList.length=c.size:=by simp
    have hl1:off+(j+1)+l.length≤(c.toList.set (off+j) y).length:=by simp at hlen ⊢; omega
    have hl2:off+j+(y::l).length≤c.toList.length:=by simp at hlen ⊢; omega
    rw[splice_get _ l _ k hl1,splice_get _ (y::l) _ k hl2]
    by_cases hk:k<off+j
    ·rw[if_pos (by omega),if_pos hk,List.getElem?_set_ne (by omega)]
    ·rw[if_neg hk]
     by_cases hk2:k=off+j
     ·subst hk2
      rw[if_pos (by omega),if_pos (by simp),List.getElem?_set_self (by omega)]
      simp
     ·rw[if_neg (by omega)]
      by_cases hk3:k<off+(j+1)+l.length
      ·rw[if_pos hk3,if_pos (by simp;omega),show k-(off+j)=(k-(off+(j+1)))+1 by omega,List.getElem?_cons_succ]
      ·rw[if_neg hk3,if_neg (by simp;omega),List.getElem?_set_ne (by omega)]
 have:=key a.toList 0 c (by simpa using h)
 rw[← Array.foldl_toList,Array.toList_zipIdx]
 simpa using this
theorem fill_ok {O:Bs}{N:Nat}:∀ {ps:List (Nat×Nat×V)}{cs cs':List V}{vs:List (Nat×Value)}{place:Nat→Option (Nat×Nat)}{c:Array Value},
 fillParts cs ps=some cs'→HVs O μ H N w cs c→ps.length=vs.length→(∀ (k:Nat) p q,ps[k]? = some p→vs[k]? = some q→place q.1=some (p.1,p.2.1)∧HV O μ H N w p.2.2 q.2) →
 ∃ c',Instr.fill place c vs=some c'∧HVs O μ H N w cs' c'
 | [],cs,cs',vs,place,c,h,hc,hl,hp=>by
   cases vs with
   | nil=>simp[fillParts] at h;subst h;exact⟨c,rfl,hc⟩
   | cons _ _=>simp at hl
 | (off,size,v)::ps,cs,cs',vs,place,c,h,hc,hl,hp=>by
   cases vs with
   | nil=>simp at hl
   | cons q vs =>
     obtain⟨i,x⟩:=q
     simp only[fillParts] at h
     split at h
     ·rename_i hcond
      obtain⟨h1,h2,h3⟩:=hcond
      obtain⟨p1,p2⟩:=hp 0 _ _ rfl rfl
      have hvu:v≠.u:=by intro hv;subst hv;simp[V.cells,scVs,scV] at h3
      have hcx:=HV_cells hvu p2
      have hput:=HVs_put hc hcx (off:=off) (by omega)
      have hsz:x.cells.size=size:=by rw[hcx.1,h1]
      have hfold:=fold_splice x.cells off c (by simp;rw[hc.1,hsz];omega)
      have hrec:=fill_ok (place:=place) h hput (vs:=vs) (by simpa using hl) (fun k p q h4 h5=>hp (k+1) p q (by simpa using h4) (by simpa using h5))
      obtain⟨c',g1,g2⟩:=hrec
      refine⟨c',?_,g2⟩
      simp only[Instr.fill,p1]
      rw[if_neg (by simp[hsz,hc.1];omega)]
      rw[hfold];exact g1
     ·cases h
end
end
section
open Go
section
variable {P:Program}{X:Cx}{μ:Nat→Option Nat}{H:Hp}{w:World}
theorem getD_splice (c:Array Value) (l:List Value) (off k:Nat) (h:off+l.length≤c.size) :
 (c.toList.take off++l++c.toList.drop (off+l.length)).toArray.getD k undef=if k<off then c.getD k undef else if k<off+l.length then l.getD (k-off) undef else c.getD k undef:=by
 rw[Array.getD_eq_getD_getElem?,List.getElem?_toArray,splice_get _ l off k (by simpa using h)]
 split
 ·simp[Array.getD_eq_getD_getElem?]
 ·split
  ·rw[List.getD_eq_getElem?_getD]
  ·simp[Array.getD_eq_getD_getElem?]
theorem cell_index {sz i j i' j':Nat} (hj:j<sz) (hj':j'<sz) (h:i*sz+j=i' * sz+j'):i=i'∧j=j':=by
 have h1:(i*sz+j)/sz=i:=by rw[Nat.mul_comm,Nat.mul_add_div (by omega),Nat.div_eq_of_lt hj,Nat.add_zero]
 have h2:(i' * sz+j')/sz=i':=by rw[Nat.mul_comm,Nat.mul_add_div (by omega),Nat.div_eq_of_lt hj',Nat.add_zero]
 have:i=i':=by rw[← h1,← h2,h]
 subst this;exact⟨rfl,by omega⟩
theorem Row.upd {O:Bs}{sz:Nat}{xs:List V}{c:Array Value} (h:Row O μ H w sz xs (fun k=>c.getD k undef)) (hxs:∀ x∈xs,x.cells.length=sz) {i off:Nat}{y y':V} (hy:xs[i]? = some y)
 {vs:List V}{va:Array Value} (hv:HVs O μ H H.length w vs va) (hoff:off+vs.length≤sz) (hy':y'.cells=putCells y.cells off vs) (hc:xs.length*sz≤c.size) :
 Row O μ H w sz (xs.set i y') (fun k=>(c.toList.take (i*sz+off)++va.toList++c.toList.drop (i*sz+off+va.toList.length)).toArray.getD k undef):=by
 have hi:i<xs.length:=(List.getElem?_eq_some_iff.1 hy).1
 have hsz:(i+1)*sz≤xs.length*sz:=Nat.mul_le_mul_right sz hi
 rw[Nat.succ_mul] at hsz
 have hval:va.toList.length=vs.length:=by simpa using hv.1
 have hyl:=hxs y (List.mem_of_getElem? hy)
 intro i' x j v hx hvj
 dsimp only
 rw[getD_splice _ _ _ _ (by omega),hval]
 by_cases e:i'=i
 ·subst e
  rw[List.getElem?_set_self hi] at hx
  cases hx
  rw[hy'] at hvj
  unfold putCells at hvj
  rw[splice_get _ _ _ _ (by omega)] at hvj
  split at hvj
  ·rw[if_pos (by omega)];exact h i' y j v hy hvj
  ·split at hvj
   ·rw[if_neg (by omega),if_pos (by omega)]
    have:=hv.2 _ v hvj
    have e1:i' * sz+j-(i' * sz+off)=j-off:=by omega
    rw[e1,List.getD_eq_getElem?_getD]
    simpa[Array.getD_eq_getD_getElem?] using this
   ·rw[if_neg (by omega),if_neg (by omega)];exact h i' y j v hy hvj
 ·rw[List.getElem?_set_ne (Ne.symm e)] at hx
  have hj:j<sz:=by rw[← hxs x (List.mem_of_getElem? hx)];exact(List.getElem?_eq_some_iff.1 hvj).1
  have hne:¬ (i*sz+off≤i' * sz+j∧i' * sz+j<i*sz+off+vs.length):=by
   rintro⟨h1,h2⟩
   have h3:i' * sz+j=i*sz+(i' * sz+j-i*sz):=by omega
   exact e (cell_index hj (show i' * sz+j-i*sz<sz by omega) h3).1
  split
  ·exact h i' x j v hx hvj
  ·rw[if_neg (by omega)];exact h i' x j v hx hvj
theorem setRows_ok {O:Bs}{sz:Nat}:∀ {ps:List (Nat×V)}{xs xs':List V}{vs:List (Nat×Value)}{c:Array Value},
 setParts sz xs ps=some xs'→(∀ x∈xs,x.cells.length=sz∧scVs x.cells=true)→Row O μ H w sz xs (fun k=>c.getD k undef)→c.size=xs.length*sz→ps.length=vs.length →
 (∀ (k:Nat) p q,ps[k]? = some p→vs[k]? = some q→p.1=q.1∧HV O μ H H.length w p.2 q.2) →
 ∃ c',Instr.fill (fun i=>some (i*sz,sz)) c vs=some c'∧Row O μ H w sz xs' (fun k=>c'.getD k undef)∧c'.size=c.size∧xs'.length=xs.length∧∀ x∈xs',x.cells.length=sz∧scVs x.cells=true
 | [],xs,xs',vs,c,h,hxs,hr,hc,hl,hp=>by
   cases vs with
   | nil=>simp[setParts] at h;subst h;exact⟨c,rfl,hr,rfl,rfl,hxs⟩
   | cons _ _=>simp at hl
 | (i,v)::ps,xs,xs',vs,c,h,hxs,hr,hc,hl,hp=>by
   cases vs with
   | nil=>simp at hl
   | cons q vs =>
     obtain⟨i',x⟩:=q
     simp only[setParts] at h
     split at h
     ·rename_i hcond
      obtain⟨h1,h2,h3⟩:=hcond
      obtain⟨p1,p2⟩:=hp 0 _ _ rfl rfl
      simp only at p1 p2;subst p1
      have hvu:v≠.u:=by intro hv;subst hv;simp[V.cells,scVs,scV] at h3
      have hcx:=HV_cells hvu p2
      have hy:=List.getElem?_eq_getElem h1
      have hyl:=(hxs _ (List.getElem_mem h1)).1
      have hszc:x.cells.toList.length=sz:=by have:=hcx.1;simp;omega
      have hisz:(i+1)*sz≤xs.length*sz:=Nat.mul_le_mul_right sz h1
      rw[Nat.succ_mul] at hisz
      have hput:v.cells=putCells (xs[i]).cells 0 v.cells:=by
       unfold putCells
       rw[show List.drop (0+v.cells.length) (xs[i]).cells=[] from List.drop_eq_nil_of_le (by omega)];simp
      have hrow:=Row.upd hr (fun x hx=>(hxs x hx).1) hy hcx (off:=0) (by omega) hput (by omega)
      simp only[Nat.add_zero] at hrow
      have hfold:x.cells.zipIdx.foldl (fun cs (p:Value×Nat)=>cs.setIfInBounds (i*sz+p.2) p.1) c=(c.toList.take (i*sz)++x.cells.toList++c.toList.drop (i*sz+x.cells.toList.length)).toArray :=
       fold_splice x.cells (i*sz) c (by omega)
      have hsize:(c.toList.take (i*sz)++x.cells.toList++c.toList.drop (i*sz+x.cells.toList.length)).toArray.size=c.size:=by simp at hszc ⊢; omega
      obtain⟨c',g1,g2,g3,g4,g5⟩:=setRows_ok h (xs:=xs.set i v) (vs:=vs) (c:=(c.toList.take (i*sz)++x.cells.toList++c.toList.drop (i*sz+x.cells.toList.length)).toArray)
       (fun y hy=>by
        rcases List.mem_or_eq_of_mem_set hy with h | h
        ·exact hxs y h
        ·subst h;exact⟨h2,h3⟩) hrow (by rw[hsize,hc,List.length_set]) (by simpa using hl)
       (fun k p q h4 h5=>hp (k+1) p q (by simpa using h4) (by simpa using h5))
      refine⟨c',?_,g2,by rw[g3,hsize],by rw[g4,List.length_set],g5⟩
      simp only[Instr.fill]
      rw[if_neg (by simp at hszc ⊢; omega),hfold]
      exact g1
     ·cases h
theorem scDs_V {z:List D} (h:scDs z=true):scVs (z.map .d)=true:=by rw[scVs_d];exact h
theorem zero_row {O:Bs}{sz len:Nat}{z:List D}{zc:Array Value}{c:Array Value} (hz:HDs O w z zc) (hl:z.length=sz) (hs:scDs z=true) (hc:∀ k,k<len*sz→c.getD k undef=zc.getD (k%sz) undef) :
 Row O μ H w sz (List.replicate len (chunk1 sz (z.map .d))) (fun k=>c.getD k undef)∧∀ x∈List.replicate len (chunk1 sz (z.map .d)),x.cells.length=sz∧scVs x.cells=true:=by
 have hcells:(chunk1 sz (z.map .d)).cells=z.map .d:=chunk1_cells (by simpa using hl) (scDs_V hs)
 refine⟨fun i x j v hx hv=>?_,fun x hx=>?_⟩
 ·have hx':=List.getElem?_eq_some_iff.1 hx
  obtain⟨hi,hx'⟩:=hx'
  simp at hi hx'; subst hx'
  rw[hcells,List.getElem?_map] at hv
  cases hd:z[j]? with
  | none=>rw[hd] at hv;cases hv
  | some d =>
    rw[hd] at hv;cases hv
    have hj:j<sz:=by rw[← hl];exact(List.getElem?_eq_some_iff.1 hd).1
    have h3:i*sz+j<len*sz:=by
     have:(i+1)*sz≤len*sz:=Nat.mul_le_mul_right sz hi
     rw[Nat.succ_mul] at this;omega
    show HV _ _ _ _ _ _ (c.getD (i*sz+j) undef)
    rw[hc _ h3,Nat.mul_comm,Nat.mul_add_mod,Nat.mod_eq_of_lt hj]
    exact .d _ _ (hz.2 j d hd)
 ·rw[List.eq_of_mem_replicate hx,hcells]
  exact⟨by simpa using hl,scDs_V hs⟩
end
end
end Go.Proofs.YtmiioebapckcoaaGreatDoor
