/- Part 1 of a proof: the small semantics, its soundness, the functions of the program in it, and the law. -/
import GoSem.Dispatch
import Derived.Stop.Asserts
import Derived.Calls
import Derived.Below
set_option linter.unusedVariables false
set_option linter.unusedSimpArgs false
namespace Go.Proofs.YtmiioebapckcoaaGreatDoor
theorem zC {α : Type} {a : α} {as : List α} {i : Nat} : (a :: as).zipIdx i = (a, i) :: as.zipIdx (i + 1) := List.zipIdx_cons
theorem zN {α : Type} {i : Nat} : ([] : List α).zipIdx i = [] := List.zipIdx_nil
section
open Go
inductive D where
 | b (x:Bool)
 | i (k:IntKind) (n:Int)
 | s (l:List UInt8)
 | nilp | nilf | nili
 | ls (xs:List D)
 | fpc (cs:List D)
 | fn (f:FuncId) (first cap:List D)
 | ifc (t:TypeId) (v:D)
 | agg (cs:List D)
 | tup (vs:List D)
 deriving Inhabited
inductive V where
 | u
 | d (x:D)
 | p (o i:Nat)
 | gr (o n:Nat)
 | gp (o n i off:Nat)
 | yl (o:Nat)
 | fn (f:FuncId) (first cap:List V)
 | ifc (t:TypeId) (v:V)
 | agg (cs:List V)
 | tup (vs:List V)
 deriving Inhabited
abbrev En:=List (Nat×V)
def eget:En→Nat→V
 | [],_=>.u
 | (k,v)::e,t=>if t=k then v else eget e t
def eset:En→Nat→V→En
 | [],t,v=>[(t,v)]
 | (k,x)::e,t,v=>if t=k then (k,v)::e else (k,x)::eset e t v
def ekeep (l:List Nat) (e:En):En:=l.map fun t=>(t,eget e t)
inductive Ar where
 | t (n:Nat)
 | c (x:D)
 | g (n:Nat)
 | f (n:FuncId)
 deriving Inhabited
def aval (e:En):Ar→V
 | .t n=>eget e n
 | .c x=>.d x
 | .g n=>.p n 0
 | .f n=>.d (.fn n [] [])
inductive CK where
 | s | i | b
 deriving Inhabited
inductive SOp where
 | move (x:Ar)
 | newGr (ty sz:Nat)
 | pick (c a b:Ar)
 | alloc (ty:Nat) (zero:List D)
 | box (ty:Nat) (x:Ar)
 | build (zero:List D) (parts:List (Nat×Nat×Ar))
 | bslice (own:Bool) (ty sz:Nat) (zero:List D) (len:Nat) (parts:List (Nat×Ar))
 | load (isAgg:Bool) (n:Nat) (x:Ar)
 | store (n:Nat) (a x:Ar)
 | nilCheck (x:Ar)
 | bin (op:BinOp) (x y:Ar)
 | eqS (neg:Bool) (ks:List CK) (x y:Ar)
 | eqB (neg:Bool) (x y:Ar)
 | un (op:UnOp) (x:Ar)
 | conv (k:IntKind) (x:Ar)
 | convBS (x:Ar)
 | mkI (t:TypeId) (x:Ar)
 | mkF (f:FuncId) (first cap:List Ar)
 | mkSl (ty sz bytes:Nat) (zero:List D) (l c:Ar)
 | slS (x:Ar) (lo hi:Option Ar)
 | slL (sz:Nat) (x:Ar) (lo hi:Option Ar)
 | fieldAddr (off:Nat) (x:Ar)
 | field (isAgg:Bool) (n off:Nat) (x:Ar)
 | ixS (sz:Nat) (x i:Ar)
 | ixA (len sz:Nat) (x i:Ar)
 | ixStr (x i:Ar)
 | ixAg (len:Nat) (isAgg:Bool) (sz:Nat) (x i:Ar)
 | ext (x:Ar) (k:Nat)
 | len (str:Bool) (x:Ar)
 | app (ty sz bytes:Nat) (s x:Ar)
 | mm (isMax:Bool) (args:List Ar)
 | call (keep:Bool) (f:Ar) (args:List Ar)
 | panic (x:Ar)
 | allocG (bt ty sz k:Nat) (zero:List D)
 | asI (ts:List TypeId) (x:Ar)
 | buildG (ty sz k:Nat) (zero:List D) (parts:List (Nat×Nat×Ar))
 | appF (ty sz bytes:Nat) (s x:Ar)
 | frzM (x:Ar)
 | frzL (isAgg:Bool) (n:Nat) (x:Ar)
 deriving Inhabited
structure SO where
 dst:Option Nat
 op:SOp
 guard:Option (Nat×Bool)
 deriving Inhabited
structure DI where
 idx:Nat
 so:SO
 kind:Nat
 again:List Nat
 deriving Inhabited
inductive C where
 | skip
 | reg (ops:List SO) (keep:List Nat)
 | draw (items:List DI) (keep:List Nat)
 | seq (a b:C)
 | cond (c:Ar) (a b:C)
 | block (id:Nat) (a:C)
 | loop (a:C)
 | exit (id:Nat)
 | ret
 | scope (a:C)
 | label (l:Nat)
 | goto (l:Nat)
 | range (f:Ar) (ps:List Nat) (asg body:C)
 deriving Inhabited
inductive Jp where
 | rt
 | ex (id:Nat)
 | go (l:Nat)
 deriving Inhabited
inductive Ob where
 | box (ty:Nat) (cs:List V)
 | ro (cs:List V)
 | gr (ty sz:Nat) (xs:List V)
 | loop (ps:List Nat) (e:En) (asg body:C) (st:Nat) (pend:Option Jp)
 | dead
 | nop
 deriving Inhabited
abbrev Hp:=List Ob
def hget:Hp→Nat→Option Ob
 | [],_=>none
 | x::h,o=>if o=h.length then some x else hget h o
def hset:Hp→Nat→Ob→Hp
 | [],_,_=>[]
 | x::h,o,y=>if o=h.length then y::h else x::hset h o y
def trunc (n:Nat):Hp→Hp
 | []=>[]
 | x::h=>if h.length<n then x::h else trunc n h
def D.cells:D→List D
 | .agg cs=>cs
 | x=>[x]
def V.cells:V→List V
 | .d x=>x.cells.map .d
 | .agg cs=>cs
 | x=>[x]
def allD:List V→Option (List D)
 | []=>some []
 | .d x::vs=>match allD vs with
   | some ds=>some (x::ds)
   | none=>none
 | _::_=>none
def mkAgg (cs:List V):V:=match allD cs with
 | some ds=>.d (.agg ds)
 | none=>.agg cs
def mkTup (cs:List V):V:=match allD cs with
 | some ds=>.d (.tup ds)
 | none=>.tup cs
def mkFn (f:FuncId) (a b:List V):V:=match allD a,allD b with
 | some x,some y=>.d (.fn f x y)
 | _,_=>.fn f a b
def mkIfc (t:TypeId):V→V
 | .d x=>.d (.ifc t x)
 | v=>.ifc t v
inductive RV where
 | t (n:Nat)
 | cell (n:Nat) (isAgg:Bool) (size:Nat)
 deriving Inhabited
structure Df where
 ops:List SO
 fn:Ar
 args:List Ar
 rest:C
 deriving Inhabited
structure SF where
 nt:Nat
 res:List RV
 body:C
 dfr:Option Df
 deriving Inhabited
structure DF where
 nt:Nat
 dst:Nat
 ops:List SO
 keep:List Nat
 rest:C
 deriving Inhabited
inductive Ex where
 | nor
 | ex (id:Nat)
 | go (l:Nat)
 | rt
 | pn (v:V)
 deriving Inhabited
inductive Out where
 | ret (v:V)
 | pan (v:V)
 deriving Inhabited
inductive Re where
 | val (v:V)
 | pan (v:V)
 deriving Inhabited
mutual
def vlt (n:Nat):V→Bool
 | .u=>true
 | .d _=>true
 | .p o _=>decide (o<n)
 | .gr o _=>decide (o<n)
 | .gp o _ _ _=>decide (o<n)
 | .yl o=>decide (o<n)
 | .fn _ a b=>vlts n a&&vlts n b
 | .ifc _ v=>vlt n v
 | .agg cs=>vlts n cs
 | .tup cs=>vlts n cs
def vlts (n:Nat):List V→Bool
 | []=>true
 | v::vs=>vlt n v&&vlts n vs
end
def omap (f:V→Option D):List V→Option (List D)
 | []=>some []
 | v::vs=>match f v,omap f vs with
   | some x,some xs=>some (x::xs)
   | _,_=>none
def fz (h:Hp) (n:Nat):Nat→V→Option D
 | 0,_=>none
 | _+1,.u=>none
 | _+1,.d x=>some x
 | k+1,.p o i=>if o<n then none else match hget h o with
   | some (.box _ cs)=>match omap (fz h n k) cs with
     | some ds=>if i<ds.length then some (.fpc (ds.drop i)) else none
     | none=>none
   | _=>none
 | k+1,.gr o m=>if o<n then none else match hget h o with
   | some (.gr _ _ xs)=>if xs.length=m then match omap (fz h n k) xs with
    | some ds=>some (.ls ds)
    | none=>none
     else none
   | _=>none
 | _+1,.gp _ _ _ _=>none
 | _+1,.yl _=>none
 | k+1,.fn f a b=>match omap (fz h n k) a,omap (fz h n k) b with
   | some x,some y=>some (.fn f x y)
   | _,_=>none
 | k+1,.ifc t v=>match fz h n k v with
   | some x=>some (.ifc t x)
   | none=>none
 | k+1,.agg cs=>match omap (fz h n k) cs with
   | some ds=>some (.agg ds)
   | none=>none
 | k+1,.tup cs=>match omap (fz h n k) cs with
   | some ds=>some (.tup ds)
   | none=>none
noncomputable def cIf {α:Type} (p:Prop) (a b:α):α:=@ite α p (Classical.propDecidable p) a b
theorem cIf_pos {α:Type}{p:Prop}{a b:α} (h:p):cIf p a b=a:=if_pos h
theorem cIf_some {α:Type}{p:Prop}{a:Option α}{x:α} (h:cIf p a none=some x):p∧a=some x:=by
 unfold cIf at h
 split at h
 ·exact⟨‹_›,h⟩
 ·cases h
def intBin (op:BinOp) (k:IntKind) (a b:Int):Option D :=
 match op with
 | .add=>some (.i k (k.wrap (a+b)))
 | .sub=>some (.i k (k.wrap (a-b)))
 | .mul=>some (.i k (k.wrap (a*b)))
 | .quo=>if b=0 then none else some (.i k (k.wrap (a.tdiv b)))
 | .rem=>if b=0 then none else some (.i k (a.tmod b))
 | .and=>some (.i k (k.wrap (BitVec.ofInt k.bits a&&&BitVec.ofInt k.bits b).toNat))
 | .or=>some (.i k (k.wrap (BitVec.ofInt k.bits a|||BitVec.ofInt k.bits b).toNat))
 | .xor=>some (.i k (k.wrap (BitVec.ofInt k.bits a ^^^ BitVec.ofInt k.bits b).toNat))
 | .andNot=>some (.i k (k.wrap (BitVec.ofInt k.bits a &&& ~~~ BitVec.ofInt k.bits b).toNat))
 | .eql=>some (.b (a==b))
 | .neq=>some (.b (a != b))
 | .lss=>some (.b (decide (a<b)))
 | .leq=>some (.b (decide (a≤b)))
 | .gtr=>some (.b (decide (a>b)))
 | .geq=>some (.b (decide (a≥b)))
 | _=>none
noncomputable def strBin (op:BinOp) (a b:List UInt8):Option D :=
 match op with
 | .add=>cIf (a.length+b.length≤9223372036854775807) (some (.s (a++b))) none
 | .eql=>some (.b (a==b))
 | .neq=>some (.b (!(a==b)))
 | .lss=>some (.b (Op.bytesLess a b))
 | .leq=>some (.b (Op.bytesLess a b||a==b))
 | .gtr=>some (.b (!(Op.bytesLess a b||a==b)))
 | .geq=>some (.b (!Op.bytesLess a b))
 | _=>none
def shiftBin (op:BinOp) (k:IntKind) (a b:Int):Option D :=
 if b<0 then none else match op with
 | .shl=>some (.i k (k.wrap (a*2 ^ (min b.toNat k.bits))))
 | .shr=>some (.i k (a.fdiv (2 ^ (min b.toNat k.bits))))
 | _=>none
def isShift:BinOp→Bool
 | .shl | .shr=>true
 | _=>false
noncomputable def binD (op:BinOp):D→D→Option D
 | .i k a,.i k' b=>if isShift op then shiftBin op k a b else if k=k' then intBin op k a b else none
 | .s a,.s b=>strBin op a b
 | _,_=>none
def unD (op:UnOp):D→Option D
 | .i k n=>match op with
   | .neg=>some (.i k (k.wrap (0-n)))
   | _=>none
 | .b x=>match op with
   | .not=>some (.b (!x))
   | _=>none
 | _=>none
def eqCell:CK→D→D→Option Bool
 | .s,.s a,.s b=>some (a==b)
 | .i,.i k a,.i k' b=>if k=k' then some (a==b) else none
 | .b,.b a,.b b=>some (a==b)
 | _,_,_=>none
def eqKs:List CK→List D→List D→Option Bool
 | [],[],[]=>some true
 | k::ks,x::xs,y::ys=>match eqCell k x y,eqKs ks xs ys with
   | some p,some q=>some (p&&q)
   | _,_=>none
 | _,_,_=>none
def vInt:V→Option (IntKind×Int)
 | .d (.i k n)=>some (k,n)
 | _=>none
def putCells (cs:List V) (off:Nat) (vs:List V):List V:=cs.take off++vs++cs.drop (off+vs.length)
def scD:D→Bool
 | .agg _=>false
 | .tup _=>false
 | _=>true
def scV:V→Bool
 | .u=>false
 | .d x=>scD x
 | .agg _=>false
 | .tup _=>false
 | _=>true
def scVs:List V→Bool
 | []=>true
 | v::vs=>scV v&&scVs vs
def scDs:List D→Bool
 | []=>true
 | v::vs=>scD v&&scDs vs
def fillParts (cells:List V):List (Nat×Nat×V)→Option (List V)
 | []=>some cells
 | (off,size,v)::rest =>
   if v.cells.length=size∧off+size≤cells.length∧scVs v.cells=true then fillParts (putCells cells off v.cells) rest else none
def chunk1 (sz:Nat) (cs:List V):V:=match sz,cs with
 | 1,[x]=>x
 | _,_=>mkAgg cs
def setParts (sz:Nat) (xs:List V):List (Nat×V)→Option (List V)
 | []=>some xs
 | (i,v)::rest=>if i<xs.length∧v.cells.length=sz∧scVs v.cells=true then setParts sz (xs.set i v) rest else none
def allCells (sz:Nat):List V→Bool
 | []=>true
 | x::xs=>decide (x.cells.length=sz)&&scVs x.cells&&allCells sz xs
def allCellsD (sz:Nat):List D→Bool
 | []=>true
 | x::xs=>decide (x.cells.length=sz)&&scDs x.cells&&allCellsD sz xs
def bytesOf:List D→Option (List UInt8)
 | []=>some []
 | .i .u8 n::ds=>match bytesOf ds with
   | some l=>some (UInt8.ofNat n.toNat::l)
   | none=>none
 | _=>none
def takeAt (isAgg:Bool) (n i:Nat) (cs:List V):Option V :=
 if i+n≤cs.length then
  if isAgg then some (mkAgg ((cs.drop i).take n))
  else if n=1 then cs[i]? else none
 else none
def boundOf (e:En) (most dflt:Nat):Option Ar→Option Nat
 | some a=>match vInt (aval e a) with
   | some (_,n)=>if 0≤n∧n≤most then some n.toNat else none
   | none=>none
 | none=>some dflt
def bounds (e:En) (len:Nat) (lo hi:Option Ar):Option (Nat×Nat) :=
 match boundOf e len len hi with
 | none=>none
 | some h=>match boundOf e h 0 lo with
   | some l=>some (l,h)
   | none=>none
inductive Tg where
 | fn (f:FuncId)
 | yl (o:Nat)
 deriving Inhabited
abbrev CallF:=Tg→List V→Hp→Option (Out×Hp)
structure Sp where
 F:FuncId→Option SF
 orc:FuncId→List D→Option D
 X:FuncId→Option (CallF→List V→Hp→Option (Out×Hp))
 D:FuncId→Option DF
def obVlt (n:Nat):Ob→Bool
 | .box _ cs=>vlts n cs
 | .ro cs=>vlts n cs
 | .gr _ _ xs=>vlts n xs
 | .loop _ e _ _ _ _=>e.all fun p=>vlt n (eget e p.1)
 | .dead=>true
 | .nop=>true
def HOk (h h':Hp):Prop:=∀ o ob,o<h.length→hget h' o=some ob→hget h o=some ob∨obVlt h.length ob=true
open Classical in
noncomputable def fin (keep:Bool) (h:Hp):Out×Hp→Option (Re×Hp)
 | (.ret v,h')=>if keep then some (.val v,h') else match fz h' h.length 8 v with
   | some x=>if h.length≤h'.length∧HOk h h' then some (.val (.d x),trunc h.length h') else none
   | none=>none
 | (.pan v,h')=>if vlt h.length v=true∧h.length≤h'.length∧HOk h h' then some (.pan v,trunc h.length h') else none
noncomputable def callV (call:CallF) (keep:Bool) (f:V) (args:List V) (h:Hp):Option (Re×Hp) :=
 match f with
 | .d (.fn g first cap)=>match call (.fn g) (first.map .d++args++cap.map .d) h with
   | some r=>fin keep h r
   | none=>none
 | .fn g first cap=>match call (.fn g) (first++args++cap) h with
   | some r=>fin keep h r
   | none=>none
 | .yl o=>match call (.yl o) args h with
   | some r=>fin keep h r
   | none=>none
 | _=>none
def ok (v:V) (h:Hp):Option (Re×Hp):=some (.val v,h)
def okO (v:Option V) (h:Hp):Option (Re×Hp):=match v with
 | some v=>some (.val v,h)
 | none=>none
def okD (v:Option D) (h:Hp):Option (Re×Hp):=match v with
 | some v=>some (.val (.d v),h)
 | none=>none
def elemsOf (h:Hp) (sz:Nat):V→Option (List V)
 | .d (.ls ys)=>if allCellsD sz ys then some (ys.map .d) else none
 | .d (.s l)=>if sz=1 then some (l.map fun b=>.d (.i .u8 b.toNat)) else none
 | .gr o n=>match hget h o with
   | some (.gr _ sz' ys)=>if sz'=sz∧ys.length=n then some ys else none
   | _=>none
 | _=>none
def notGr (o:Nat):V→Bool
 | .gr o' _=>decide (o'≠o)
 | _=>true
def frzV (h:Hp):V→Option (Re×Hp)
 | .gr o n=>match hget h o with
   | some (.gr _ _ xs)=>if xs.length=n then (match allD xs with
    | some ds=>some (.val (.d (.ls ds)),hset h o .dead)
    | none=>none) else none
   | _=>none
 | .d x=>some (.val (.d x),h)
 | _=>none
noncomputable def evApp (ty sz bytes:Nat) (s x:V) (h:Hp):Option (Re×Hp):=match s with
 | .gr o n=>match hget h o,elemsOf h sz x with
   | some (.gr ty' sz' xs),some ys =>
     cIf (ty'=ty∧sz'=sz∧allCells sz ys=true∧xs.length=n∧0<sz∧(n+ys.length)*bytes≤140737488355328∧n+ys.length≤140737488355328∧notGr o x=true)
      (ok (.gr o (n+ys.length)) (hset h o (.gr ty sz (xs++ys)))) none
   | _,_=>none
 | _=>none
def frzR:Option (Re×Hp)→Option (Re×Hp)
 | some (.val v,h)=>frzV h v
 | r=>r
noncomputable def evOp (call:CallF) (op:SOp) (e:En) (h:Hp):Option (Re×Hp) :=
 match op with
 | .move x=>ok (aval e x) h
 | .newGr ty sz=>ok (.gr h.length 0) (.gr ty sz []::h)
 | .pick c a b=>match aval e c with
   | .d (.b t)=>ok (if t then aval e a else aval e b) h
   | _=>none
 | .alloc ty z=>ok (.p h.length 0) (.box ty (z.map .d)::h)
 | .box ty x=>match aval e x with
   | .u=>none
   | v=>ok (.p h.length 0) (.box ty v.cells::h)
 | .build z parts=>match fillParts (z.map .d) (parts.map fun (o,n,a)=>(o,n,aval e a)) with
   | some cs=>ok (mkAgg cs) h
   | none=>none
 | .bslice own ty sz z len parts =>
   match setParts sz (List.replicate len (chunk1 sz (z.map .d))) (parts.map fun (i,a)=>(i,aval e a)) with
   | some xs=>if z.length=sz∧scDs z=true∧0<sz∧len*sz≤16777216 then
    (if own then ok (.gr h.length len) (.gr ty sz xs::h)
    else match allD xs with
     | some ds=>ok (.d (.ls ds)) h
     | none=>none)
     else none
   | none=>none
 | .load g n x=>match aval e x with
   | .p o i=>match hget h o with
     | some (.box _ cs)=>okO (takeAt g n i cs) h
     | some (.ro cs)=>okO (takeAt g n i cs) h
     | _=>none
   | .d (.fpc cs)=>okO (takeAt g n 0 (cs.map .d)) h
   | .gp o m i off=>match hget h o with
     | some (.gr _ _ xs)=>if xs.length=m then (match xs[i]? with
      | some y=>okO (takeAt g n off y.cells) h
      | none=>none) else none
     | _=>none
   | _=>none
 | .store n a x=>match aval e a with
   | .p o i=>match hget h o with
     | some (.box ty cs)=>match aval e x with
       | .u=>none
       | v=>if v.cells.length=n∧i+n≤cs.length∧scVs v.cells=true then ok (.d (.tup [])) (hset h o (.box ty (putCells cs i v.cells))) else none
     | _=>none
   | .gp o m i off=>match hget h o with
     | some (.gr ty sz xs)=>match aval e x with
       | .u=>none
       | v=>if xs.length=m∧v.cells.length=n∧scVs v.cells=true then (match xs[i]? with
        | some y=>if y.cells.length=sz∧off+n≤sz then ok (.d (.tup [])) (hset h o (.gr ty sz (xs.set i (chunk1 sz (putCells y.cells off v.cells))))) else none
        | none=>none) else none
     | _=>none
   | _=>none
 | .nilCheck x=>match aval e x with
   | .p o i=>ok (.p o i) h
   | .gp o n i off=>ok (.gp o n i off) h
   | .d (.fpc cs)=>ok (.d (.fpc cs)) h
   | .d (.fn f a b)=>ok (.d (.fn f a b)) h
   | .fn f a b=>ok (.fn f a b) h
   | _=>none
 | .bin op x y=>match aval e x,aval e y with
   | .d a,.d b=>okD (binD op a b) h
   | _,_=>none
 | .eqS neg ks x y=>match aval e x,aval e y with
   | .d (.agg xs),.d (.agg ys)=>match eqKs ks xs ys with
     | some r=>ok (.d (.b (if neg then !r else r))) h
     | none=>none
   | _,_=>none
 | .eqB neg x y=>match aval e x,aval e y with
   | .d (.b a),.d (.b b)=>ok (.d (.b (if neg then !(a==b) else a==b))) h
   | _,_=>none
 | .un op x=>match aval e x with
   | .d a=>okD (unD op a) h
   | _=>none
 | .conv k x=>match aval e x with
   | .d (.i _ n)=>ok (.d (.i k (k.wrap n))) h
   | _=>none
 | .convBS x=>match aval e x with
   | .d (.ls xs)=>okD ((bytesOf xs).map .s) h
   | .gr o n=>match hget h o with
     | some (.gr _ 1 xs)=>if xs.length=n then (match allD xs with
      | some ds=>okD ((bytesOf ds).map .s) h
      | none=>none) else none
     | _=>none
   | _=>none
 | .mkI t x=>match aval e x with
   | .u=>none
   | v=>ok (mkIfc t v) h
 | .mkF f a b=>ok (mkFn f (a.map (aval e)) (b.map (aval e))) h
 | .mkSl ty sz bytes z l c=>match vInt (aval e l),vInt (aval e c) with
   | some (k,n),some (k',m)=>cIf (k=.i64∧k'=.i64∧0≤n∧n≤m∧m*bytes≤140737488355328∧m≤140737488355328∧z.length=sz∧0<sz∧scDs z=true)
    (ok (.gr h.length n.toNat) (.gr ty sz (List.replicate n.toNat (chunk1 sz (z.map .d)))::h)) none
   | _,_=>none
 | .slS x lo hi=>match aval e x with
   | .d (.s l)=>match bounds e l.length lo hi with
     | some (a,b)=>ok (.d (.s ((l.take b).drop a))) h
     | none=>none
   | _=>none
 | .slL sz x lo hi=>match aval e x with
   | .d (.ls l)=>match bounds e l.length lo hi with
     | some (a,b)=>if allCellsD sz l then ok (.d (.ls ((l.take b).drop a))) h else none
     | none=>none
   | _=>none
 | .fieldAddr off x=>match aval e x with
   | .p o i=>ok (.p o (i+off)) h
   | .gp o n i k=>ok (.gp o n i (k+off)) h
   | .d (.fpc cs)=>if off<cs.length then ok (.d (.fpc (cs.drop off))) h else none
   | _=>none
 | .field g n off x=>match aval e x with
   | .d (.agg cs)=>okO (takeAt g n off (cs.map .d)) h
   | .agg cs=>okO (takeAt g n off cs) h
   | _=>none
 | .ixS sz x i=>match vInt (aval e i) with
   | some (_,n)=>match aval e x with
     | .d (.ls xs)=>if 0≤n∧n<xs.length∧allCellsD sz xs then (match xs[n.toNat]? with
      | some y=>ok (.d (.fpc y.cells)) h
      | none=>none) else none
     | .gr o m=>match hget h o with
       | some (.gr _ sz' xs)=>if sz'=sz∧xs.length=m∧0≤n∧n<m then ok (.gp o m n.toNat 0) h else none
       | _=>none
     | _=>none
   | none=>none
 | .ixA len sz x i=>match vInt (aval e i) with
   | some (_,n)=>if 0≤n∧n<len then (match aval e x with
     | .p o j=>ok (.p o (j+n.toNat*sz)) h
     | .d (.fpc cs)=>if n.toNat*sz<cs.length then ok (.d (.fpc (cs.drop (n.toNat*sz)))) h else none
     | _=>none) else none
   | none=>none
 | .ixStr x i=>match vInt (aval e i) with
   | some (_,n)=>match aval e x with
     | .d (.s l)=>if 0≤n then (match l[n.toNat]? with
      | some c=>ok (.d (.i .u8 c.toNat)) h
      | none=>none) else none
     | _=>none
   | none=>none
 | .ixAg len g sz x i=>match vInt (aval e i) with
   | some (_,n)=>if 0≤n∧n<len then (match aval e x with
     | .d (.agg cs)=>okO (takeAt g sz (n.toNat*sz) (cs.map .d)) h
     | .agg cs=>okO (takeAt g sz (n.toNat*sz) cs) h
     | _=>none) else none
   | none=>none
 | .ext x k=>match aval e x with
   | .d (.tup vs)=>okD vs[k]? h
   | .tup vs=>okO vs[k]? h
   | _=>none
 | .len str x=>match aval e x with
   | .d (.s l)=>if str then ok (.d (.i .i64 l.length)) h else none
   | .d (.ls l)=>if str then none else ok (.d (.i .i64 l.length)) h
   | .gr _ n=>if str then none else ok (.d (.i .i64 n)) h
   | _=>none
 | .app ty sz bytes s x=>evApp ty sz bytes (aval e s) (aval e x) h
 | .mm isMax args=>match args.map (aval e) with
   | [.d (.i k a),.d (.i k' b)]=>if k=k' then ok (.d (.i k (if isMax then (if b>a then b else a) else (if b<a then b else a)))) h else none
   | _=>none
 | .call keep f args=>callV call keep (aval e f) (args.map (aval e)) h
 | .panic x=>match aval e x with
   | .d (.ifc t v)=>some (.pan (.d (.ifc t v)),h)
   | .ifc t v=>some (.pan (.ifc t v),h)
   | _=>none
 | .allocG bt ty sz k z=>match z[k]? with
   | some (.ls [])=>if 0<sz then ok (.p (h.length+1) 0) (.box bt ((z.map .d).set k (.gr h.length 0))::.gr ty sz []::h) else none
   | _=>none
 | .asI ts x=>match aval e x with
   | .d .nili=>ok (.d (.tup [.nili,.b false])) h
   | .d (.ifc t v)=>if ts.contains t then ok (.d (.tup [.ifc t v,.b true])) h else none
   | .ifc t v=>if ts.contains t then ok (.tup [.ifc t v,.d (.b true)]) h else none
   | _=>none
 | .buildG ty sz k z parts=>match z[k]? with
   | some (.ls [])=>match fillParts ((z.map .d).set k (.gr h.length 0)) (parts.map fun (o,n,a)=>(o,n,aval e a)) with
     | some cs=>if 0<sz then ok (mkAgg cs) (.gr ty sz []::h) else none
     | none=>none
   | _=>none
 | .appF ty sz bytes s x=>frzR (evApp ty sz bytes (aval e s) (aval e x) h)
 | .frzM x=>frzV h (aval e x)
 | .frzL g n x=>match aval e x with
   | .p o i=>match hget h o with
     | some (.box _ cs)=>match takeAt g n i cs with
       | some v=>frzV h v
       | none=>none
     | _=>none
   | _=>none
def put (e:En):Option Nat→V→En
 | some t,v=>eset e t v
 | none,_=>e
def wantsG (e:En):Option (Nat×Bool)→Option Bool
 | none=>some true
 | some (t,w)=>match eget e t with
   | .d (.b x)=>some (x==w)
   | .d (.tup _)=>some false
   | _=>none
noncomputable def evG (call:CallF) (o:SO) (e:En) (h:Hp):Option (Re×Hp):=match wantsG e o.guard with
 | some true=>evOp call o.op e h
 | some false=>some (.val (.d (.tup [])),h)
 | none=>none
noncomputable def evOps (call:CallF):List SO→En→Hp→Option (Ex×En×Hp)
 | [],e,h=>some (.nor,e,h)
 | o::os,e,h=>match evG call o e h with
   | some (.val v,h')=>evOps call os (put e o.dst v) h'
   | some (.pan v,h')=>some (.pn v,e,h')
   | none=>none
def Stays (call:CallF) (again:List Nat) (past:List DI) (e:En) (h:Hp):Prop :=
 ∀ p∈past,p.idx∈again→∃ t,p.so.dst=some t∧evG call p.so e h=some (.val (eget e t),h)
open Classical in
noncomputable def evD (call:CallF) (keep:List Nat):List DI→List DI→En→Hp→Option (Ex×En×Hp)
 | _,[],e,h=>some (.nor,ekeep keep e,h)
 | past,d::ds,e,h=>match evG call d.so e h with
   | some (.val v,h')=>if h'=h∨Stays call d.again past (put e d.so.dst v) h' then evD call keep (d::past) ds (put e d.so.dst v) h' else none
   | some (.pan v,h')=>some (.pn v,[],h')
   | none=>none
def kills:List DI→En→En
 | [],e=>e
 | d::ds,e=>kills ds (if d.kind=2 then put e d.so.dst .u else e)
def iter (f:En→Hp→Option (Ex×En×Hp)):Nat→En→Hp→Option (Ex×En×Hp)
 | 0,_,_=>none
 | k+1,e,h=>match f e h with
   | some (.nor,e',h')=>iter f k e' h'
   | r=>r
def hasL:C→Nat→Bool
 | .seq a b,l=>hasL a l||hasL b l
 | .label l',l=>l'==l
 | _,_=>false
def jumps (l:Nat) (f:En→Hp→Option (Ex×En×Hp)):Nat→En→Hp→Option (Ex×En×Hp)
 | 0,_,_=>none
 | k+1,e,h=>match f e h with
   | some (.go l',e',h')=>if l'=l then jumps l f k e' h' else none
   | r=>r
noncomputable def callR (call:CallF) (f:V) (args:List V) (h:Hp):Option (Re×Hp):=match f with
 | .yl _=>none
 | f=>callV call false f args h
def jpEx:Jp→Ex
 | .rt=>.rt
 | .ex id=>.ex id
 | .go l=>.go l
def jpOf:Ex→Option Jp
 | .rt=>some .rt
 | .ex id=>some (.ex id)
 | .go l=>some (.go l)
 | _=>none
open Classical in
noncomputable def rangeEnd (e:En) (h:Hp):Option (Re×Hp)→Option (Ex×En×Hp)
 | some (.val _,h2)=>match hget h2 h.length with
   | some (.loop _ _ _ _ st pend)=>if (st=0∨st=2)∧h.length≤h2.length∧HOk h h2 then
    some ((match pend with
     | none=>.nor
     | some j=>jpEx j),e,trunc h.length h2) else none
   | _=>none
 | some (.pan v,h2)=>if vlt h.length v=true∧h.length≤h2.length∧HOk h h2 then some (.pn v,e,trunc h.length h2) else none
 | none=>none
noncomputable def evC (call:CallF) (n:Nat):C→Option Nat→En→Hp→Option (Ex×En×Hp)
 | .skip,_,e,h=>some (.nor,e,h)
 | .reg ops keep,_,e,h=>match evOps call ops e h with
   | some (.nor,e',h')=>some (.nor,ekeep keep e',h')
   | r=>r
 | .draw items keep,_,e,h=>evD call keep [] items (kills items e) h
 | .seq a b,none,e,h=>match evC call n a none e h with
   | some (.nor,e',h')=>evC call n b none e' h'
   | r=>r
 | .seq a b,some l,e,h=>if hasL a l then (match evC call n a (some l) e h with
  | some (.nor,e',h')=>evC call n b none e' h'
  | r=>r)
   else evC call n b (some l) e h
 | .cond c a b,_,e,h=>match aval e c with
   | .d (.b t)=>if t then evC call n a none e h else evC call n b none e h
   | _=>none
 | .block id a,_,e,h=>match evC call n a none e h with
   | some (.ex id',e',h')=>if id'=id then some (.nor,e',h') else some (.ex id',e',h')
   | r=>r
 | .loop a,_,e,h=>iter (evC call n a none) n e h
 | .exit id,_,e,h=>some (.ex id,e,h)
 | .ret,_,e,h=>some (.rt,e,h)
 | .scope a,_,e,h=>match evC call n a none e h with
   | some (.go l,e',h')=>if hasL a l then jumps l (evC call n a (some l)) n e' h' else none
   | r=>r
 | .label _,_,e,h=>some (.nor,e,h)
 | .goto l,_,e,h=>some (.go l,e,h)
 | .range f ps asg body,_,e,h=>rangeEnd e h (callR call (aval e f) [.yl h.length] (.loop ps e asg body 0 none::h))
def resV (e:En) (h:Hp):RV→Option V
 | .t n=>match eget e n with
   | .u=>none
   | v=>some v
 | .cell n g size=>match eget e n with
   | .p o i=>match hget h o with
     | some (.box _ cs)=>takeAt g size i cs
     | _=>none
   | _=>none
def resAll (e:En) (h:Hp):List RV→Option (List V)
 | []=>some []
 | r::rs=>match resV e h r,resAll e h rs with
   | some v,some vs=>some (v::vs)
   | _,_=>none
def resOf (e:En) (h:Hp):List RV→Option V
 | [r]=>resV e h r
 | rs=>match resAll e h rs with
   | some vs=>some (mkTup vs)
   | none=>none
def enter (args:List V):En:=args.zipIdx.map fun (v,i)=>(i,v)
def outOf (res:List RV):Option (Ex×En×Hp)→Option (Out×Hp)
 | some (.nor,e,h)=>match resOf e h res with
   | some v=>some (.ret v,h)
   | none=>none
 | some (.rt,e,h)=>match resOf e h res with
   | some v=>some (.ret v,h)
   | none=>none
 | some (.pn v,_,h)=>some (.pan v,h)
 | _=>none
def orcOf (S:Sp) (f:FuncId) (args:List V):Option D:=match allD args with
 | some ds=>S.orc f ds
 | none=>none
def putsE:En→List Nat→List V→En
 | e,p::ps,v::vs=>putsE (eset e p v) ps vs
 | e,_,_=>e
def setSt (h:Hp) (o from_ to_:Nat) (pend:Option Jp):Option Hp:=match hget h o with
 | some (.loop ps e a b st none)=>if st=from_ then some (hset h o (.loop ps e a b to_ pend)) else none
 | _=>none
noncomputable def roundOf (ev:C→En→Hp→Option (Ex×En×Hp)) (o:Nat) (args:List V) (h:Hp):Option (Out×Hp):=match hget h o with
 | some (.loop ps e asg body 0 none)=>if args.length=ps.length then (match ev asg (putsE e ps args) h with
  | some (.nor,e2,h2)=>match setSt h2 o 0 1 none with
    | some h3=>match ev body e2 h3 with
      | some (.nor,_,h4)=>match setSt h4 o 1 0 none with
        | some h5=>some (.ret (.d (.b true)),h5)
        | none=>none
      | some (.pn _,_,_)=>none
      | some (x,_,h4)=>match setSt h4 o 1 2 (jpOf x) with
        | some h5=>some (.ret (.d (.b false)),h5)
        | none=>none
      | none=>none
    | none=>none
  | _=>none) else none
 | _=>none
noncomputable def runD (S:Sp) (call:CallF) (ev:C→En→Hp→Option (Ex×En×Hp)) (g:FuncId) (args:List V) (pv:Option V) (h:Hp):Option Hp:=match S.D g with
 | some df=>match evOps call df.ops (eset (enter args) df.dst (match pv with | none=>.d .nili | some v=>v)) h with
   | some (.nor,e1,h1)=>match ev df.rest (ekeep df.keep e1) h1 with
     | some (.nor,_,h2)=>some h2
     | some (.rt,_,h2)=>some h2
     | _=>none
   | _=>none
 | none=>none
noncomputable def callD (S:Sp) (call:CallF) (ev:C→En→Hp→Option (Ex×En×Hp)) (f:V) (args:List V) (pv:Option V) (h:Hp):Option Hp:=match f with
 | .d (.fn g first cap)=>runD S call ev g (first.map .d++args++cap.map .d) pv h
 | .fn g first cap=>runD S call ev g (first++args++cap) pv h
 | _=>none
def allCell:List RV→Bool
 | []=>true
 | .cell _ _ _::l=>allCell l
 | _=>false
def retOf (e:En) (res:List RV):Option Hp→Option (Out×Hp)
 | some h=>match resOf e h res with
   | some v=>some (.ret v,h)
   | none=>none
 | none=>none
noncomputable def bodyOf (S:Sp) (call:CallF) (ev:C→En→Hp→Option (Ex×En×Hp)) (sf:SF) (args:List V) (h:Hp):Option (Out×Hp):=match sf.dfr with
 | none=>outOf sf.res (ev sf.body (enter args) h)
 | some d=>match ev sf.body (enter args) h with
   | some (.nor,e1,h1)=>match evOps call d.ops e1 h1 with
     | some (.nor,e2,h2)=>match ev d.rest e2 h2 with
       | some (.nor,e3,h3)=>retOf e3 sf.res (callD S call ev (aval e2 d.fn) (d.args.map (aval e2)) none h3)
       | some (.rt,e3,h3)=>retOf e3 sf.res (callD S call ev (aval e2 d.fn) (d.args.map (aval e2)) none h3)
       | some (.pn v,_,h3)=>if allCell sf.res=true then retOf e2 sf.res (callD S call ev (aval e2 d.fn) (d.args.map (aval e2)) (some v) h3) else none
       | _=>none
     | _=>none
   | _=>none
noncomputable def callN (S:Sp):Nat→CallF
 | 0,_,_,_=>none
 | n+1,.fn f,args,h=>match orcOf S f args with
   | some x=>some (.ret (.d x),h)
   | none=>match S.X f with
     | some g=>g (callN S n) args h
     | none=>match S.F f with
       | none=>none
       | some sf=>bodyOf S (callN S n) (fun c e h=>evC (callN S n) n c none e h) sf args h
 | n+1,.yl o,args,h=>roundOf (fun c e h=>evC (callN S n) n c none e h) o args h
end
section
open Go
def trVs (f:Value→Option D):List Value→Option (List D)
 | []=>some []
 | v::vs=>match f v,trVs f vs with
   | some x,some xs=>some (x::xs)
   | _,_=>none
def trS:Value→Option D
 | .bool b=>some (.b b)
 | .int k n=>some (.i k n)
 | .string s=>some (.s s.data.toList)
 | .pointer none=>some .nilp
 | .nilFunc=>some .nilf
 | .nilIface=>some .nili
 | .slice none 0 0=>some (.ls [])
 | _=>none
def trV:Value→Option D
 | .agg cs=>(trVs trS cs.toList).map .agg
 | v=>trS v
def trA (P:Program):Operand→Option Ar
 | .tmp t=>some (.t t)
 | .const v=>(trV v).map .c
 | .global g=>if g<P.globals.size then some (.g g) else none
 | .func f=>some (.f f)
def trAs (P:Program):List Operand→Option (List Ar)
 | []=>some []
 | x::xs=>match trA P x,trAs P xs with
   | some a,some l=>some (a::l)
   | _,_=>none
def trAo (P:Program):Option Operand→Option (Option Ar)
 | none=>some none
 | some x=>(trA P x).map some
def sizeT (P:Program) (t:TypeId):Option Nat:=(P.info? t).map (·.size)
def bytesT (P:Program) (t:TypeId):Option Nat:=(P.info? t).map (·.bytes)
def zeroT (P:Program) (t:TypeId):Option (List D):=match P.info? t with
 | some i=>match i.zero with
   | some v=>trVs trS v.cells.toList
   | none=>none
 | none=>none
def aggT (P:Program) (t:TypeId):Option Bool:=match P.underlying t with
 | some (.struct _)=>some true
 | some (.array _ _)=>some true
 | some _=>some false
 | none=>none
def fieldT (P:Program) (s:TypeId) (k:Nat):Option (Nat×TypeId):=match P.underlying s with
 | some (.struct fs)=>match fs[k]? with
   | some f=>some (f.offset,f.type)
   | none=>none
 | _=>none
def elemT (P:Program) (t:TypeId):Option TypeId:=match P.underlying t with
 | some (.slice e)=>some e
 | _=>none
def trParts (P:Program):List (Nat×Operand)→(Nat→Option (Nat×Nat))→Option (List (Nat×Nat×Ar))
 | [],_=>some []
 | (i,x)::rest,pl=>match pl i,trA P x,trParts P rest pl with
   | some (o,n),some a,some l=>some ((o,n,a)::l)
   | _,_,_=>none
def trParts1 (P:Program):List (Nat×Operand)→Option (List (Nat×Ar))
 | []=>some []
 | (i,x)::rest=>match trA P x,trParts1 P rest with
   | some a,some l=>some ((i,a)::l)
   | _,_=>none
def kindsFs (P:Program) (g:TypeId→Option (List CK)):Nat→List Field→Option (List CK)
 | _,[]=>some []
 | off,f::fs=>match g f.type,kindsFs P g (off+(P.cellsOf f.type)) fs with
   | some ks, some l => if f.name ≠ "_" ∧ f.offset = off ∧ sizeT P f.type = some ks.length then some (ks ++ l) else none
   | _,_=>none
def kindsT (P:Program):Nat→TypeId→Option (List CK)
 | 0,_=>none
 | d+1,t=>match P.underlying t with
   | some (.int _)=>some [.i]
   | some .string=>some [.s]
   | some .bool=>some [.b]
   | some (.struct fs)=>if P.stoodInHeld t then none else kindsFs P (kindsT P d) 0 fs.toList
   | _=>none
def trEq (P:Program) (neg:Bool) (t:TypeId) (x y:Ar):Option SOp :=
 match P.underlying t with
 | some (.int _)=>some (.bin (if neg then .neq else .eql) x y)
 | some .string=>some (.bin (if neg then .neq else .eql) x y)
 | some .bool=>some (.eqB neg x y)
 | some (.struct _)=>match kindsT P 20 t with
   | some ks=>if P.eqGuardType P.depth t=false then some (.eqS neg ks x y) else none
   | none=>none
 | _=>none
def growT (P:Program):List Field→Option (Nat×Nat×Nat)
 | []=>none
 | f::fs=>match elemT P f.type with
   | some e=>match sizeT P e with
     | some n=>some (f.offset,e,n)
     | none=>none
   | none=>growT P fs
def hasT (P:Program) (want:Array (String×TypeId)) (t:TypeId):Bool:=match P.info? t with
 | some i=>(lacking want i.methods).isEmpty
 | none=>false
def trOp (P:Program) (m:Nat) (ty:TypeId):Op→Option SOp
 | .move x=>if m=1 then (trA P x).map .frzM else (trA P x).map .move
 | .assign x=>if m=1 then (match x,elemT P ty with
  | .const (.slice none 0 0),some e=>match sizeT P e with
    | some n=>if 0<n then some (.newGr e n) else none
    | none=>none
  | _,_=>none)
   else (trA P x).map .move
 | .pick c a b=>match trA P c,trA P a,trA P b with
   | some c,some a,some b=>some (.pick c a b)
   | _,_,_=>none
 | .alloc t=>if m=1 then (match zeroT P t,P.underlying t with
  | some z,some (.struct fs)=>match growT P fs.toList with
    | some (k,e,n)=>some (.allocG t e n k z)
    | none=>none
  | _,_=>none)
   else (zeroT P t).map (.alloc t)
 | .box t x=>(trA P x).map (.box t)
 | .build t parts=>match zeroT P t,P.underlying t with
   | some z,some (.struct fs)=>match trParts P parts.toList (fun k=>match fieldT P t k with
    | some (o,ft)=>(sizeT P ft).map fun n=>(o,n)
    | none=>none) with
     | some ps=>if (fs.toList.all fun f=>(P.info? f.type).isSome)=true then (if m=1 then (match growT P fs.toList with
      | some (k,e,n)=>some (.buildG e n k z ps)
      | none=>none) else some (.build z ps)) else none
     | none=>none
   | some z,some (.array _ e)=>match sizeT P e with
     | some n=>match trParts P parts.toList (fun k=>some (k*n,n)) with
       | some ps=>some (.build z ps)
       | none=>none
     | none=>none
   | _,_=>none
 | .buildSlice t len parts=>match elemT P t with
   | some e=>match sizeT P e,zeroT P e,trParts1 P parts.toList with
     | some n,some z,some ps=>some (.bslice (m==1) e n z len ps)
     | _,_,_=>none
   | none=>none
 | .load t a=>match aggT P t,sizeT P t,trA P a with
   | some g,some n,some a=>if m=1 then some (.frzL g (if g then n else 1) a) else some (.load g (if g then n else 1) a)
   | _,_,_=>none
 | .store t a x=>match sizeT P t,trA P a,trA P x with
   | some n,some a,some x=>some (.store n a x)
   | _,_,_=>none
 | .nilCheck x=>(trA P x).map .nilCheck
 | .binOp op t x y _=>match trA P x,trA P y with
   | some a,some b=>match op with
     | .eql=>trEq P false t a b
     | .neq=>trEq P true t a b
     | _=>some (.bin op a b)
   | _,_=>none
 | .unOp op _ x=>(trA P x).map (.un op)
 | .convert src dst x=>match P.underlying src,P.underlying dst,trA P x with
   | some (.int _),some (.int k),some a=>some (.conv k a)
   | some (.slice e),some .string,some a=>match P.underlying e with
     | some (.int .u8)=>some (.convBS a)
     | _=>none
   | _,_,_=>none
 | .makeInterface t x=>match P.underlying t with
   | some (.interface _)=>none
   | some _=>(trA P x).map (.mkI t)
   | none=>none
 | .makeFunc (.func f) a b=>match trAs P a.toList,trAs P b.toList with
   | some a,some b=>some (.mkF f a b)
   | _,_=>none
 | .makeSlice t l c=>match elemT P t with
   | some e=>match sizeT P e,bytesT P e,zeroT P e,trA P l,trA P c with
     | some n,some bs,some z,some l,some c=>some (.mkSl e n bs z l c)
     | _,_,_,_,_=>none
   | none=>none
 | .slice t x lo hi none=>match trA P x,trAo P lo,trAo P hi with
   | some x,some lo,some hi=>match P.underlying t with
     | some .string=>some (.slS x lo hi)
     | some (.slice e)=>(sizeT P e).map fun n=>.slL n x lo hi
     | _=>none
   | _,_,_=>none
 | .fieldAddr s x k=>match fieldT P s k,trA P x with
   | some (o,ft),some a=>match sizeT P ft with
     | some n=>if 0<n then some (.fieldAddr o a) else none
     | none=>none
   | _,_=>none
 | .field s x k=>match fieldT P s k,trA P x with
   | some (o,ft),some a=>match aggT P ft,sizeT P ft with
     | some g,some n=>some (.field g (if g then n else 1) o a)
     | _,_=>none
   | _,_=>none
 | .indexAddr t x i=>match trA P x,trA P i with
   | some a,some b=>match P.underlying t with
     | some (.slice e)=>match sizeT P e with
       | some n=>if 0<n then some (.ixS n a b) else none
       | none=>none
     | some (.array len e)=>match sizeT P e with
       | some n=>if 0<n then some (.ixA len n a b) else none
       | none=>none
     | _=>none
   | _,_=>none
 | .index t x i=>match trA P x,trA P i with
   | some a,some b=>match P.underlying t with
     | some .string=>some (.ixStr a b)
     | some (.array len e)=>match aggT P e,sizeT P e with
       | some g,some n=>if 0<n∧(g=false→n=1) then some (.ixAg len g n a b) else none
       | _,_=>none
     | _=>none
   | _,_=>none
 | .extract x k=>(trA P x).map fun a=>.ext a k
 | .call c=>match c.callee with
   | .builtin .len=>match c.args.toList,c.argTypes.toList with
     | [x],t::_=>match P.underlying t,trA P x with
       | some .string,some a=>some (.len true a)
       | some (.slice _),some a=>some (.len false a)
       | _,_=>none
     | _,_=>none
   | .builtin .append=>match c.args.toList,c.argTypes.toList with
     | [s,x],[t,t']=>match elemT P t,P.underlying t' with
       | some e,some (.slice _)=>if t'≠t then none else match sizeT P e,bytesT P e,zeroT P e,trA P s,trA P x with
         | some n,some bs,some z,some s,some x=>if 0<bs∧0<n∧z.length=n then some (if m=1 then .appF e n bs s x else .app e n bs s x) else none
         | _,_,_,_,_=>none
       | some e,some .string=>match sizeT P e,bytesT P e,zeroT P e,trA P s,trA P x with
         | some n,some bs,some z,some s,some x=>if 0<bs∧0<n∧z.length=n then some (if m=1 then .appF e n bs s x else .app e n bs s x) else none
         | _,_,_,_,_=>none
       | _,_=>none
     | _,_=>none
   | .builtin .max=>(trAs P c.args.toList).map (.mm true)
   | .builtin .min=>(trAs P c.args.toList).map (.mm false)
   | .builtin _=>none
   | .value f=>match trA P f,trAs P c.args.toList with
     | some f,some as=>some (.call (m==1) f as)
     | _,_=>none
   | .invoke _ _=>none
 | .panic x=>(trA P x).map .panic
 | .typeAssert x _ t true=>match P.underlying t,(match P.info? t with | some i=>i.zero | none=>none),trA P x with
   | some (.interface want),some .nilIface,some a=>some (.asI ((List.range P.types.size).filter (hasT P want)) a)
   | _,_,_=>none
 | _=>none
structure Hints where
 keep:List (Nat×List Nat)
 other:List (Nat×Nat)
def lookupK:List (Nat×List Nat)→Nat→List Nat
 | [],_=>[]
 | (a,l)::r,k=>if a==k then l else lookupK r k
def hasH:List (Nat×Nat)→Nat→Nat→Nat
 | [],_,_=>0
 | (a,b)::r,i,j=>if a==i&&b==j then 1 else hasH r i j
def trGuard (ops:List Oper):Option (Nat×Bool)→Option (Option (Nat×Bool))
 | none=>some none
 | some (j,w)=>match ops[j]? with
   | some o=>match o.dst with
     | some t=>some (some (t,w))
     | none=>none
   | none=>none
def dstOk (nt:Nat):Option Nat→Bool
 | some t=>decide (t<nt)
 | none=>true
def trOpers (P:Program) (hs:Hints) (nt:Nat) (id:Nat) (all:List Oper):Nat→List Oper→Option (List SO)
 | _,[]=>some []
 | k,o::os=>match trOp P (hasH hs.other id k) o.type o.op,trGuard all o.guard,trOpers P hs nt id all (k+1) os with
   | some op,some g,some rest=>if dstOk nt o.dst=true then some ({ dst:=o.dst,op:=op,guard:=g }::rest) else none
   | _,_,_=>none
def SOp.args:SOp→List Ar
 | .move x | .box _ x | .nilCheck x | .un _ x | .conv _ x | .convBS x | .mkI _ x | .fieldAddr _ x | .field _ _ _ x | .ext x _ | .len _ x | .panic x | .load _ _ x | .frzM x | .frzL _ _ x | .asI _ x=>[x]
 | .newGr _ _ | .alloc _ _ | .allocG _ _ _ _ _=>[]
 | .pick c a b=>[c,a,b]
 | .build _ parts | .buildG _ _ _ _ parts=>parts.map (·.2.2)
 | .bslice _ _ _ _ _ parts=>parts.map (·.2)
 | .store _ a x=>[a,x]
 | .bin _ x y | .eqS _ _ x y | .eqB _ x y | .ixS _ x y | .ixA _ _ x y | .ixStr x y | .ixAg _ _ _ x y | .app _ _ _ x y | .appF _ _ _ x y | .mkSl _ _ _ _ x y=>[x,y]
 | .mkF _ a b=>a++b
 | .slS x lo hi | .slL _ x lo hi=>x::(lo.toList++hi.toList)
 | .mm _ as=>as
 | .call _ f as=>f::as
def slotsOf:List Ar→List Nat
 | []=>[]
 | .t n::l=>n::slotsOf l
 | _::l=>slotsOf l
def SO.reads (o:SO):List Nat:=(match o.guard with | some (t,_)=>[t] | none=>[])++slotsOf o.op.args
def freeOp:SOp→Bool
 | .alloc _ _ | .newGr _ _ | .box _ _ | .bslice true _ _ _ _ _ | .store _ _ _ | .mkSl _ _ _ _ _ _ | .app _ _ _ _ _ | .call _ _ _ | .panic _ | .frzM _ | .frzL _ _ _ | .allocG _ _ _ _ _ | .buildG _ _ _ _ _ | .appF _ _ _ _ _=>false
 | _=>true
def heapOp:SOp→Bool
 | .load _ _ _ | .ixS _ _ _ | .convBS _=>true
 | _=>false
def kindOf (op:SOp):Nat:=if freeOp op then 0 else match op with | .alloc _ _=>2 | _=>1
structure Nd where
 idx:Nat
 so:SO
 kind:Nat
 on:List Nat
 anc:Nat
 again:List Nat
 deriving Inhabited
def edgesOf (o:Oper):List Nat:=(o.after.toList.filter (Region.binds .any ·)).map (·.on)
def nodes:Nat→List Oper→List SO→List Nd
 | k,o::os,s::ss=>{ idx:=k,so:=s,kind:=kindOf s.op,on:=edgesOf o,anc:=0,again:=[] }::nodes (k+1) os ss
 | _,_,_=>[]
def bitsIn (mask:Nat):List Nat→Bool
 | []=>true
 | e::es=>mask.testBit e&&bitsIn mask es
def nextOf (mask k:Nat):List Nd→Option Nd
 | []=>none
 | d::ds=>if d.kind==k && !mask.testBit d.idx&&bitsIn mask d.on then some d else nextOf mask k ds
def ancOf (acc:List (Nat×Nat)):List Nat→Option Nat
 | []=>some 0
 | e::es=>match acc.lookup e,ancOf acc es with
   | some m,some r=>some (m|||(2 ^ e|||r))
   | _,_=>none
def ordGo (all:List Nd):Nat→Nat→List (Nat×Nat)→List Nd→Option (List Nd)
 | 0,_,_,out=>some out.reverse
 | f+1,mask,acc,out=>match (match nextOf mask 0 all with
  | some d=>some d
  | none=>match nextOf mask 1 all with
    | some d=>some d
    | none=>nextOf mask 2 all) with
   | some d=>match ancOf acc d.on with
     | some m=>ordGo all f (mask|||2 ^ d.idx) ((d.idx,m)::acc) ({ d with anc:=m }::out)
     | none=>none
   | none=>none
def dstIn (o:Option Nat) (l:List Nat):Bool:=match o with
 | some t=>l.contains t
 | none=>false
def sameDst (a b:Option Nat):Bool:=match a,b with
 | some x,some y=>x==y
 | _,_=>false
def apartN (p q:Nd):Bool := !dstIn p.so.dst q.so.reads && !dstIn q.so.dst p.so.reads && !sameDst p.so.dst q.so.dst
def heapN (p:Nd):Bool:=p.kind==0&&heapOp p.so.op
def pairOk (p q:Nd):Bool :=
 !(p.idx==q.idx)&&(q.anc.testBit p.idx||apartN p q) &&
 (p.kind==0||q.kind==2||q.anc.testBit p.idx)&&(!(p.kind==2||q.kind==2) || !sameDst p.so.dst q.so.dst) &&
 (!heapN p||(!dstIn q.so.dst p.so.reads && !sameDst p.so.dst q.so.dst&&(!(q.kind==1)||q.anc.testBit p.idx||q.again.contains p.idx)))
def oneOk (p:Nd):Bool:=p.kind==kindOf p.so.op&&(!heapN p||(p.so.dst.isSome && !dstIn p.so.dst p.so.reads))&&(!(p.kind==2)||(p.so.guard.isNone&&p.so.dst.isSome))
def pairsOk:List Nd→Bool
 | []=>true
 | p::rest=>rest.all (pairOk p)&&pairsOk rest
def againOf (past:List Nd) (q:Nd):List Nat:=(past.filter fun x=>heapN x && !q.anc.testBit x.idx).map (·.idx)
def withAgain:List Nd→List Nd→List Nd
 | _,[]=>[]
 | past,d::ds=>{ d with again:=if d.kind==1 then againOf past d else [] }::withAgain (d::past) ds
def Nd.di (d:Nd):DI:={ idx:=d.idx,so:=d.so,kind:=d.kind,again:=d.again }
def ancsOk (acc:List (Nat×Nat)):List Nd→Bool
 | []=>true
 | d::ds=>ancOf acc d.on==some d.anc&&ancsOk ((d.idx,d.anc)::acc) ds
def drawOf (ops:List Oper) (l:List SO):Option (List Nd):=match ordGo (nodes 0 ops l) ops.length 0 [] [] with
 | some ns=>some (withAgain [] ns)
 | none=>none
def nodesOk (ops:List Oper) (l:List SO) (idxs:List Nat) (ns:List Nd):Bool :=
 pairsOk ns&&ns.all oneOk&&ancsOk [] ns&&ns.length==ops.length&&(List.range ops.length).all (fun j=>idxs.contains j)
def trN (ops:List Oper) (l:List SO):List (Nat×Nat×List Nat)→Option (List Nd)
 | []=>some []
 | (j,m,ag)::rest=>match ops[j]?,l[j]?,trN ops l rest with
   | some o,some s,some ns=>some ({ idx:=j,so:=s,kind:=kindOf s.op,on:=edgesOf o,anc:=m,again:=ag }::ns)
   | _,_,_=>none
def drawIn (ops:List Oper) (l:List SO):Option (List Nd):=match drawOf ops l with
 | some ns=>match trN ops l (ns.map fun d=>(d.idx,d.anc,d.again)) with
   | some ns'=>if nodesOk ops l (ns'.map (·.idx)) ns'=true then some ns' else none
   | none=>none
 | none=>none
def noR:C→Bool
 | .seq a b=>noR a&&noR b
 | .cond _ a b=>noR a&&noR b
 | .block _ a | .loop a | .scope a=>noR a
 | .range _ _ _ _=>false
 | _=>true
def trC (P:Program) (hs:Hints) (nt:Nat):Code→Option C
 | .skip=>some .skip
 | .region id ops draw=>match trOpers P hs nt id ops.toList 0 ops.toList with
   | some l=>if draw then (match drawIn ops.toList l with
    | some ns=>some (.draw (ns.map Nd.di) (lookupK hs.keep id))
    | none=>none)
     else some (.reg l (lookupK hs.keep id))
   | none=>none
 | .seq a b=>match trC P hs nt a,trC P hs nt b with
   | some x,some y=>some (.seq x y)
   | _,_=>none
 | .cond c a b=>match trA P c,trC P hs nt a,trC P hs nt b with
   | some c,some x,some y=>some (.cond c x y)
   | _,_,_=>none
 | .block id a=>(trC P hs nt a).map (.block id)
 | .loop a=>(trC P hs nt a).map .loop
 | .exit id=>some (.exit id)
 | .ret=>some .ret
 | .scope a=>(trC P hs nt a).map .scope
 | .label l=>some (.label l)
 | .goto l=>some (.goto l)
 | .rangeFunc f ps a b=>match trA P f,trC P hs nt a,trC P hs nt b with
   | some f,some a,some b=>if (ps.toList.all (fun p=>decide (p<nt))&&noR a&&noR b)=true then some (.range f ps.toList a b) else none
   | _,_,_=>none
 | _=>none
def trRes (P:Program) (nt:Nat):List ResultVar→Option (List RV)
 | []=>some []
 | .tmp t::rs=>match trRes P nt rs with
   | some l=>if t<nt then some (.t t::l) else none
   | none=>none
 | .cell t ty::rs=>match trRes P nt rs,aggT P ty,sizeT P ty with
   | some l,some g,some n=>if t<nt then some (.cell t g (if g then n else 1)::l) else none
   | _,_,_=>none
def dstFree (T:List Nat) (o:SO):Bool:=match o.dst with
 | some t => !T.contains t
 | none=>true
def plain (T:List Nat):C→Bool
 | .skip | .exit _ | .ret=>true
 | .reg ops _=>ops.all (dstFree T)
 | .seq a b=>plain T a&&plain T b
 | .cond _ a b=>plain T a&&plain T b
 | .block _ a=>plain T a
 | _=>false
def cellSlots:List RV→List Nat
 | []=>[]
 | .cell n _ _::l=>n::cellSlots l
 | _::l=>cellSlots l
def dfrReg (P:Program) (hs:Hints) (nt id:Nat) (ops:List Oper):Option (List SO×Ar×List Ar):=match ops.reverse with
 | o::rev=>match o.op,o.guard,o.dst with
   | .defer c,none,none=>match c.callee with
     | .value f=>match trOpers P hs nt id ops 0 rev.reverse,trA P f,trAs P c.args.toList with
       | some l,some f,some as=>some (l,f,as)
       | _,_,_=>none
     | _=>none
   | _,_,_=>none
 | []=>none
def trD (P:Program) (hs:Hints) (nt:Nat) (T:List Nat):Code→Option (C×Df)
 | .seq a b=>match (match a with
  | .region id ops false=>match dfrReg P hs nt id ops.toList with
    | some (l,f,as)=>match trC P hs nt b with
      | some r=>if plain T r=true then some (C.skip,{ ops:=l,fn:=f,args:=as,rest:=r }) else none
      | none=>none
    | none=>none
  | _=>none) with
   | some x=>some x
   | none=>match trC P hs nt a,trD P hs nt T b with
     | some ca,some (pre,d)=>if plain [] ca=true then some (.seq ca pre,d) else none
     | _,_=>none
 | _=>none
def trDF (P:Program) (hs:Hints) (f:Func):Option DF:=match f.body with
 | some (.seq (.region id ops false) rest)=>match ops.toList with
   | o::os=>match o.op,o.guard,o.dst with
     | .call c,none,some t=>match c.callee with
       | .builtin .recover=>match trOpers P hs f.ntmps id ops.toList 1 os,trC P hs f.ntmps rest,trRes P f.ntmps f.results.toList with
         | some l,some r,some []=>if t<f.ntmps∧plain [] r=true then some { nt:=f.ntmps,dst:=t,ops:=l,keep:=lookupK hs.keep id,rest:=r } else none
         | _,_,_=>none
       | _=>none
     | _,_,_=>none
   | []=>none
 | _=>none
def trF (P:Program) (hs:Hints) (f:Func):Option SF:=match f.body with
 | some c=>match trC P hs f.ntmps c,trRes P f.ntmps f.results.toList with
   | some x,some r=>some { nt:=f.ntmps,res:=r,body:=x,dfr:=none }
   | _,_=>none
 | none=>none
def trFD (P:Program) (hs:Hints) (f:Func):Option SF:=match f.body with
 | some c=>match trRes P f.ntmps f.results.toList with
   | some r=>match trD P hs f.ntmps (cellSlots r) c with
     | some (x,d)=>some { nt:=f.ntmps,res:=r,body:=x,dfr:=some d }
     | none=>none
   | none=>none
 | none=>none
end
section
open Go
abbrev Bs:=Nat→Prop
def cellsAt (w:World) (b a n:Nat) (cf:Nat→Value):Prop:=∀ j,j<n→w.cell? ⟨b,a+j,none⟩=some (cf j)
inductive HD (O:Bs) (w:World):D→Value→Prop
 | b (x:Bool):HD O w (.b x) (.bool x)
 | i (k:IntKind) (n:Int):HD O w (.i k n) (.int k n)
 | s (l:List UInt8):HD O w (.s l) (.string ⟨l.toArray⟩)
 | nilp:HD O w .nilp (.pointer none)
 | nilf:HD O w .nilf .nilFunc
 | nili:HD O w .nili .nilIface
 | ls0:HD O w (.ls []) (.slice none 0 0)
 | ls (xs:List D) (b a cap sz:Nat) (cf:Nat→Value) (hsz:0<sz) (hb:xs≠[]→¬ O b) (hcap:xs.length≤cap)
  (hc:cellsAt w b a (xs.length*sz) cf) (hx:∀ (i:Nat) (x:D),xs[i]? = some x→x.cells.length=sz)
  (hr:∀ (i:Nat) (x:D) (j:Nat) (v:D),xs[i]? = some x→x.cells[j]? = some v→HD O w v (cf (i*sz+j))):HD O w (.ls xs) (.slice (some ⟨b,a,none⟩) xs.length cap)
 | fpc (cs:List D) (b a:Nat) (cf:Nat→Value) (hn:cs≠[]) (hb:¬ O b) (hc:cellsAt w b a cs.length cf)
  (hr:∀ (j:Nat) (v:D),cs[j]? = some v→HD O w v (cf j)):HD O w (.fpc cs) (.pointer (some ⟨b,a,none⟩))
 | fn (f:FuncId) (xs ys:List D) (a b:Array Value) (ha:a.size=xs.length) (hb:b.size=ys.length)
  (hra:∀ (j:Nat) v,xs[j]? = some v→HD O w v (a.getD j undef)) (hrb:∀ (j:Nat) v,ys[j]? = some v→HD O w v (b.getD j undef)) :
  HD O w (.fn f xs ys) (.func (.func f) a b)
 | ifc (t:TypeId) (d:D) (c:Value) (h:HD O w d c):HD O w (.ifc t d) (.iface t c)
 | agg (cs:List D) (a:Array Value) (ha:a.size=cs.length) (hr:∀ (j:Nat) v,cs[j]? = some v→HD O w v (a.getD j undef)):HD O w (.agg cs) (.agg a)
 | tup (cs:List D) (a:Array Value) (ha:a.size=cs.length) (hr:∀ (j:Nat) v,cs[j]? = some v→HD O w v (a.getD j undef)):HD O w (.tup cs) (.tuple a)
theorem cellsAt_lt {w:World}{b a n:Nat}{cf:Nat→Value} (h:cellsAt w b a n cf) (hn:0<n):b<w.heap.size:=by
 have:=h 0 hn
 exact World.block_lt_of_cell? w _ this
theorem cellsAt_same {w w':World}{b a n:Nat}{cf:Nat→Value} (h:cellsAt w b a n cf) (hb:w'.heap[b]? = w.heap[b]?):cellsAt w' b a n cf:=by
 intro j hj
 have:=h j hj
 unfold World.cell? at this ⊢
 rw[hb];exact this
theorem HD.mono {O O':Bs}{w w':World} (hb:∀ b,b<w.heap.size→¬ O b→w'.heap[b]? = w.heap[b]?) (ho:∀ b,b<w.heap.size→O' b→O b)
 {d:D}{c:Value} (h:HD O w d c):HD O' w' d c:=by
 induction h with
 | b x=>exact .b x
 | i k n=>exact .i k n
 | s l=>exact .s l
 | nilp=>exact .nilp
 | nilf=>exact .nilf
 | nili=>exact .nili
 | ls0=>exact .ls0
 | ls xs b a cap sz cf hsz hb' hcap hc hx _ ih =>
   by_cases hn:xs=[]
   ·refine .ls xs b a cap sz cf hsz (fun h=>absurd hn h) hcap ?_ hx ih
    subst hn;intro j hj;simp at hj
   ·have hpos:0<xs.length*sz:=Nat.mul_pos (List.length_pos_iff.2 hn) hsz
    have hlt:=cellsAt_lt hc hpos
    exact .ls xs b a cap sz cf hsz (fun h hO=>hb' h (ho b hlt hO)) hcap (cellsAt_same hc (hb b hlt (hb' hn))) hx ih
 | fpc cs b a cf hn hb' hc _ ih =>
   have hlt:=cellsAt_lt hc (List.length_pos_iff.2 hn)
   exact .fpc cs b a cf hn (fun hO=>hb' (ho b hlt hO)) (cellsAt_same hc (hb b hlt hb')) ih
 | fn f xs ys a b ha hb' _ _ iha ihb=>exact .fn f xs ys a b ha hb' iha ihb
 | ifc t d c _ ih=>exact .ifc t d c ih
 | agg cs a ha _ ih=>exact .agg cs a ha ih
 | tup cs a ha _ ih=>exact .tup cs a ha ih
structure Cx where
 bs:Bs
 P:Program
instance:CoeFun Cx (fun _=>Nat→Prop):=⟨Cx.bs⟩
def jpCode:Jp→Code
 | .rt=>.ret
 | .ex id=>.exit id
 | .go l=>.goto l
def stOf:Nat→LoopState
 | 0=>.ready
 | 1=>.busy
 | 2=>.done
 | _=>.exhausted
def ownedO (H:Hp) (o:Nat):Prop:=match hget H o with
 | some (.box _ _)=>True
 | some (.gr _ _ _)=>True
 | some (.loop _ _ _ _ _ _)=>True
 | _=>False
def isGr (H:Hp) (o:Nat):Prop:=match hget H o with
 | some (.gr _ _ _)=>True
 | some .dead=>True
 | _=>False
def Own (X:Cx) (μ:Nat→Option Nat) (H:Hp) (b:Nat):Prop:=X b∨∃ o,ownedO H o∧μ o=some b
def GrOk (μ:Nat→Option Nat) (H:Hp) (w:World) (o n cap:Nat) (a:Option Addr):Prop :=
 ∀ ty sz xs,hget H o=some (.gr ty sz xs)→n≤xs.length∧(xs.length=n →
  (μ o=none∧n=0∧a=none∧cap=0)∨∃ b cs e,μ o=some b∧a=some ⟨b,0,none⟩∧n≤cap∧w.heap[b]? = some (.cells cs e (0,0))∧cap*sz≤cs.size)
def GpOk (μ:Nat→Option Nat) (H:Hp) (o n i off:Nat) (a:Addr):Prop :=
 ∀ ty sz xs,hget H o=some (.gr ty sz xs)→n≤xs.length∧(xs.length=n→∃ b,μ o=some b∧a=⟨b,i*sz+off,none⟩)
inductive HV (O:Bs) (μ:Nat→Option Nat) (H:Hp) (N:Nat) (w:World):V→Value→Prop
 | u (c:Value):HV O μ H N w .u c
 | d (x:D) (c:Value) (h:HD O w x c):HV O μ H N w (.d x) c
 | p (o i b:Nat) (h:o<N) (hm:μ o=some b) (hg:¬ isGr H o):HV O μ H N w (.p o i) (.pointer (some ⟨b,i,none⟩))
 | gr (o n cap:Nat) (a:Option Addr) (h:o<N) (hg:GrOk μ H w o n cap a):HV O μ H N w (.gr o n) (.slice a n cap)
 | gp (o n i off b a:Nat) (h:o<N) (hg:GpOk μ H o n i off ⟨b,a,none⟩):HV O μ H N w (.gp o n i off) (.pointer (some ⟨b,a,none⟩))
 | yl (o l:Nat) (h:o<N) (hm:μ o=some l) (hg:¬ isGr H o):HV O μ H N w (.yl o) (.func (.yield l) #[] #[])
 | fn (f:FuncId) (xs ys:List V) (a b:Array Value) (ha:a.size=xs.length) (hb:b.size=ys.length)
  (hra:∀ (j:Nat) v,xs[j]? = some v→HV O μ H N w v (a.getD j undef)) (hrb:∀ (j:Nat) v,ys[j]? = some v→HV O μ H N w v (b.getD j undef)) :
  HV O μ H N w (.fn f xs ys) (.func (.func f) a b)
 | ifc (t:TypeId) (v:V) (c:Value) (h:HV O μ H N w v c):HV O μ H N w (.ifc t v) (.iface t c)
 | agg (cs:List V) (a:Array Value) (ha:a.size=cs.length) (hr:∀ (j:Nat) v,cs[j]? = some v→HV O μ H N w v (a.getD j undef)):HV O μ H N w (.agg cs) (.agg a)
 | tup (cs:List V) (a:Array Value) (ha:a.size=cs.length) (hr:∀ (j:Nat) v,cs[j]? = some v→HV O μ H N w v (a.getD j undef)):HV O μ H N w (.tup cs) (.tuple a)
def HVs (O:Bs) (μ:Nat→Option Nat) (H:Hp) (N:Nat) (w:World) (vs:List V) (a:Array Value):Prop :=
 a.size=vs.length∧∀ (j:Nat) v,vs[j]? = some v→HV O μ H N w v (a.getD j undef)
def LoopOk (P:Program) (ps:List Nat) (asg body:C) (st:Nat) (pend:Option Jp) (r:Loop):Prop :=
 r.state=stOf st∧r.pending=pend.map jpCode∧r.params.toList=ps∧∃ hs nt,trC P hs nt r.assign=some asg∧trC P hs nt r.body=some body∧noR asg=true∧noR body=true∧nt≤r.tmps.size∧∀ p∈ps,p<nt
def ObOk (P:Program) (O:Bs) (μ:Nat→Option Nat) (H:Hp) (w:World) (o:Nat):Ob→Prop
 | .box ty cs=>∃ b c,μ o=some b∧w.heap[b]? = some (.cells c ty (0,0))∧HVs O μ H H.length w cs c
 | .ro cs=>∃ b c e z,μ o=some b∧¬ O b∧w.heap[b]? = some (.cells c e z)∧HVs O μ H H.length w cs c
 | .gr ty sz xs=>0<sz∧(∀ x∈xs,x.cells.length=sz∧scVs x.cells=true)∧((μ o=none∧xs=[])∨∃ b c,μ o=some b∧w.heap[b]? = some (.cells c ty (0,0))∧xs.length*sz≤c.size ∧
  ∀ (i:Nat) x (j:Nat) v,xs[i]? = some x→x.cells[j]? = some v→HV O μ H H.length w v (c.getD (i*sz+j) undef))
 | .loop ps e asg body st pend=>∃ l r,μ o=some l∧w.heap[l]? = some (.loop r)∧LoopOk P ps asg body st pend r∧∀ t,HV O μ H H.length w (eget e t) (r.tmps.getD t undef)
 | .dead=>True
 | .nop=>True
structure Inv (X:Cx) (μ:Nat→Option Nat) (H:Hp) (w:World):Prop where
 obj:∀ o ob,hget H o=some ob→ObOk X.P (Own X μ H) μ H w o ob
 inj:∀ o o' b,o≠o'→ownedO H o→ownedO H o'→μ o=some b→μ o'=some b→False
 xs:∀ o b,ownedO H o→μ o=some b→¬ X b
 low:∀ b,X b→b<w.heap.size
structure Ext (X:Cx) (μ:Nat→Option Nat) (H:Hp) (w:World) (μ':Nat→Option Nat) (H':Hp) (w':World):Prop where
 size:w.heap.size≤w'.heap.size
 blk:∀ b,b<w.heap.size→¬ Own X μ H b→w'.heap[b]? = w.heap[b]?
 xblk:∀ b,X b→w'.heap[b]? = w.heap[b]?
 own:∀ b,b<w.heap.size→Own X μ' H' b→Own X μ H b
 shape:∀ (b:Nat) (c:Array Value) e,w.heap[b]? = some (.cells c e (0,0))→Own X μ H b→Own X μ' H' b→∃ c' e',w'.heap[b]? = some (.cells c' e' (0,0))∧c'.size=c.size
 len:H.length≤H'.length
 mu:∀ o,o<H.length→¬ isGr H o→μ' o=μ o∧¬ isGr H' o
 gr:∀ o ty sz xs',o<H.length→hget H' o=some (.gr ty sz xs')→∃ xs,hget H o=some (.gr ty sz xs)∧xs.length≤xs'.length∧(xs.length=xs'.length→μ' o=μ o)
 os:w'.os=w.os
 tape:w'.tape=w.tape
 output:w'.output=w.output
theorem hget_lt:∀ {H:Hp}{o:Nat}{x:Ob},hget H o=some x→o<H.length
 | [],_,_,h=>by simp[hget] at h
 | y::H,o,x,h=>by
   unfold hget at h
   split at h
   ·rename_i e;subst e;simp
   ·have:=hget_lt h;simp;omega
theorem hget_some:∀ {H:Hp}{o:Nat},o<H.length→∃ x,hget H o=some x
 | [],_,h=>by simp at h
 | y::H,o,h=>by
   unfold hget
   split
   ·exact⟨_,rfl⟩
   ·exact hget_some (by simp at h;omega)
theorem hget_cons_lt {H:Hp}{o:Nat} (x:Ob) (h:o<H.length):hget (x::H) o=hget H o:=by
 unfold hget;rw[if_neg (by omega)];cases H<;>rfl
theorem hget_cons_self (H:Hp) (x:Ob):hget (x::H) H.length=some x:=by unfold hget;simp
theorem hset_length:∀ (H:Hp) (o:Nat) (x:Ob),(hset H o x).length=H.length
 | [],_,_=>rfl
 | y::H,o,x=>by unfold hset;split<;>simp[hset_length H]
theorem hget_hset_self:∀ {H:Hp}{o:Nat} (x:Ob),o<H.length→hget (hset H o x) o=some x
 | [],_,_,h=>by simp at h
 | y::H,o,x,h=>by
   unfold hset
   split
   ·rename_i e;subst e;exact hget_cons_self H x
   ·rename_i e
    have hl:o<H.length:=by simp at h;omega
    rw[hget_cons_lt _ (by rw[hset_length];exact hl)]
    exact hget_hset_self x hl
theorem hget_hset_other:∀ {H:Hp}{o o':Nat} (x:Ob),o≠o'→hget (hset H o x) o'=hget H o'
 | [],_,_,_,_=>rfl
 | y::H,o,o',x,h=>by
   unfold hset
   split
   ·rename_i e;subst e;unfold hget;rw[if_neg (Ne.symm h),if_neg (Ne.symm h)]
   ·unfold hget
    rw[hset_length]
    split
    ·rfl
    ·exact hget_hset_other x h
theorem hget_trunc:∀ {H:Hp}{n o:Nat},o<n→hget (trunc n H) o=hget H o
 | [],_,_,_=>rfl
 | y::H,n,o,h=>by
   unfold trunc
   split
   ·rfl
   ·rw[hget_trunc h];conv=>rhs;unfold hget
    rw[if_neg (by omega)]
theorem trunc_length:∀ (H:Hp) (n:Nat),(trunc n H).length=min n H.length
 | [],n=>by simp[trunc]
 | y::H,n=>by
   unfold trunc
   split
   ·simp;omega
   ·rw[trunc_length H n];simp;omega
theorem trunc_self:∀ (H:Hp),trunc H.length H=H
 | []=>rfl
 | x::H=>by unfold trunc;rw[if_pos (by simp)]
theorem HV.mono {X:Cx}{μ μ':Nat→Option Nat}{H H':Hp}{N:Nat}{w w':World} (hN:N≤H.length) (hi:Inv X μ H w) (hx:Ext X μ H w μ' H' w')
 {v:V}{c:Value} (h:HV (Own X μ H) μ H N w v c):HV (Own X μ' H') μ' H' N w' v c:=by
 induction h with
 | u c=>exact .u c
 | d x c h=>exact .d x c (h.mono hx.blk hx.own)
 | p o i b h hm hg=>obtain⟨h1,h2⟩:=hx.mu o (by omega) hg;exact .p o i b h (h1.trans hm) h2
 | gr o n cap a h hg =>
   refine .gr o n cap a h ?_
   intro ty sz xs' he
   obtain⟨xs,h1,h2,h3⟩:=hx.gr o ty sz xs' (by omega) he
   obtain⟨g1,g2⟩:=hg ty sz xs h1
   refine⟨by omega,fun hl=>?_⟩
   have hlen:xs.length=xs'.length:=by omega
   rcases g2 (by omega) with ⟨m0,r⟩ | ⟨b,cs,e,m1,ha,hn,hb,hs⟩
   ·exact .inl ⟨(h3 hlen).trans m0,r⟩
   ·have ho:Own X μ H b:=.inr ⟨o,by unfold ownedO;rw[h1];trivial,m1⟩
    have ho':Own X μ' H' b:=.inr ⟨o,by unfold ownedO;rw[he];trivial,(h3 hlen).trans m1⟩
    obtain⟨c',e',hb',hs'⟩:=hx.shape b cs e hb ho ho'
    exact .inr ⟨b,c',e',(h3 hlen).trans m1,ha,hn,hb',by omega⟩
 | gp o n i off b a h hg =>
   refine .gp o n i off b a h ?_
   intro ty sz xs' he
   obtain⟨xs,h1,h2,h3⟩:=hx.gr o ty sz xs' (by omega) he
   obtain⟨g1,g2⟩:=hg ty sz xs h1
   refine⟨by omega,fun hl=>?_⟩
   have hlen:xs.length=xs'.length:=by omega
   obtain⟨b,m1,ha⟩:=g2 (by omega)
   exact⟨b,(h3 hlen).trans m1,ha⟩
 | yl o l h hm hg=>obtain⟨h1,h2⟩:=hx.mu o (by omega) hg;exact .yl o l h (h1.trans hm) h2
 | fn f xs ys a b ha hb _ _ iha ihb=>exact .fn f xs ys a b ha hb iha ihb
 | ifc t v c _ ih=>exact .ifc t v c ih
 | agg cs a ha _ ih=>exact .agg cs a ha ih
 | tup cs a ha _ ih=>exact .tup cs a ha ih
theorem HV.more {O:Bs}{μ:Nat→Option Nat}{H:Hp}{N N':Nat}{w:World} (hN:N≤N') {v:V}{c:Value} (h:HV O μ H N w v c):HV O μ H N' w v c:=by
 induction h with
 | u c=>exact .u c
 | d x c h=>exact .d x c h
 | p o i b h hm hg=>exact .p o i b (by omega) hm hg
 | gr o n cap a h hg=>exact .gr o n cap a (by omega) hg
 | gp o n i off b a h hg=>exact .gp o n i off b a (by omega) hg
 | yl o l h hm hg=>exact .yl o l (by omega) hm hg
 | fn f xs ys a b ha hb _ _ iha ihb=>exact .fn f xs ys a b ha hb iha ihb
 | ifc t v c _ ih=>exact .ifc t v c ih
 | agg cs a ha _ ih=>exact .agg cs a ha ih
 | tup cs a ha _ ih=>exact .tup cs a ha ih
theorem Ext.refl (X:Cx) (μ:Nat→Option Nat) (H:Hp) (w:World):Ext X μ H w μ H w :=
 ⟨Nat.le_refl _,fun _ _ _=>rfl,fun _ _=>rfl,fun _ _ h=>h,fun _ c e h _ _=>⟨c,e,h,rfl⟩,Nat.le_refl _,fun _ _ h=>⟨rfl,h⟩,fun _ _ _ xs _ h=>⟨xs,h,Nat.le_refl _,fun _=>rfl⟩,rfl,rfl,rfl⟩
theorem Ext.trans {X:Cx}{μ μ' μ'':Nat→Option Nat}{H H' H'':Hp}{w w' w'':World} (h:Ext X μ H w μ' H' w') (k:Ext X μ' H' w' μ'' H'' w'') :
 Ext X μ H w μ'' H'' w'' where
 size:=Nat.le_trans h.size k.size
 blk b hb ho:=by
  have h1:¬ Own X μ' H' b:=fun hO=>ho (h.own b hb hO)
  exact(k.blk b (Nat.lt_of_lt_of_le hb h.size) h1).trans (h.blk b hb ho)
 xblk b hb:=(k.xblk b hb).trans (h.xblk b hb)
 own b hb ho:=h.own b hb (k.own b (Nat.lt_of_lt_of_le hb h.size) ho)
 shape b c e hb ho ho2:=by
  have hO:Own X μ' H' b:=k.own b (Nat.lt_of_lt_of_le (by
   rcases Nat.lt_or_ge b w.heap.size with h' | h'
   ·exact h'
   ·rw[Array.getElem?_eq_none h'] at hb;cases hb) h.size) ho2
  obtain⟨c',e',h1,h2⟩:=h.shape b c e hb ho hO
  obtain⟨c'',e'',h3,h4⟩:=k.shape b c' e' h1 hO ho2
  exact⟨c'',e'',h3,by omega⟩
 len:=Nat.le_trans h.len k.len
 mu o ho hg:=by
  obtain⟨h1,h2⟩:=h.mu o ho hg
  obtain⟨h3,h4⟩:=k.mu o (Nat.lt_of_lt_of_le ho h.len) h2
  exact⟨h3.trans h1,h4⟩
 gr o ty sz xs'' ho he:=by
  obtain⟨xs',h1,h2,h3⟩:=k.gr o ty sz xs'' (Nat.lt_of_lt_of_le ho h.len) he
  obtain⟨xs,h4,h5,h6⟩:=h.gr o ty sz xs' ho h1
  exact⟨xs,h4,by omega,fun hl=>(h3 (by omega)).trans (h6 (by omega))⟩
 os:=k.os.trans h.os
 tape:=k.tape.trans h.tape
 output:=k.output.trans h.output
end
section
open Go
def upd (μ:Nat→Option Nat) (o:Nat) (b:Option Nat):Nat→Option Nat:=fun k=>if k=o then b else μ k
theorem upd_self (μ:Nat→Option Nat) (o:Nat) (b:Option Nat):upd μ o b o=b:=by simp[upd]
theorem upd_other {μ:Nat→Option Nat}{o k:Nat}{b:Option Nat} (h:k≠o):upd μ o b k=μ k:=by simp[upd,h]
theorem lt_of_heap {w:World}{b:Nat}{x:Obj} (h:w.heap[b]? = some x):b<w.heap.size:=by
 rcases Nat.lt_or_ge b w.heap.size with h' | h'
 ·exact h'
 ·rw[Array.getElem?_eq_none h'] at h;cases h
theorem HVs.mono {X:Cx}{μ μ':Nat→Option Nat}{H H':Hp}{w w':World} (hi:Inv X μ H w) (hx:Ext X μ H w μ' H' w')
 {vs:List V}{a:Array Value} (h:HVs (Own X μ H) μ H H.length w vs a):HVs (Own X μ' H') μ' H' H'.length w' vs a :=
 ⟨h.1,fun j v hv=>((h.2 j v hv).mono (Nat.le_refl _) hi hx).more hx.len⟩
theorem ownedO_lt {H:Hp}{o:Nat} (h:ownedO H o):o<H.length:=by
 unfold ownedO at h
 cases hg:hget H o with
 | none=>rw[hg] at h;exact h.elim
 | some x=>exact hget_lt hg
theorem Own_lt {X:Cx}{μ:Nat→Option Nat}{H:Hp}{w:World} (hi:Inv X μ H w) {b:Nat} (h:Own X μ H b):b<w.heap.size:=by
 rcases h with h | ⟨o,ho,hm⟩
 ·exact hi.low b h
 ·unfold ownedO at ho
  cases hg:hget H o with
  | none=>rw[hg] at ho;exact ho.elim
  | some x =>
    rw[hg] at ho
    have hk:=hi.obj o x hg
    cases x with
    | box ty cs=>obtain⟨b',c,h1,h2,_⟩:=hk;rw[hm] at h1;cases h1;exact lt_of_heap h2
    | gr ty sz xs =>
      obtain⟨_,_,h | ⟨b',c,h1,h2,_⟩⟩:=hk
      ·rw[hm] at h;cases h.1
      ·rw[hm] at h1;cases h1;exact lt_of_heap h2
    | ro cs=>exact ho.elim
    | loop ps e asg body st pend=>obtain⟨l,r,h1,h2,_⟩:=hk;rw[hm] at h1;cases h1;exact lt_of_heap h2
    | dead=>exact ho.elim
    | nop=>exact ho.elim
theorem ObOk.mono {X:Cx}{μ μ':Nat→Option Nat}{H H':Hp}{w w':World} (hi:Inv X μ H w) (hx:Ext X μ H w μ' H' w')
 {o:Nat}{ob:Ob} (ho:hget H o=some ob) (hμ:μ' o=μ o) (hb:∀ b,ownedO H o→μ o=some b→w'.heap[b]? = w.heap[b]?)
 (h:ObOk X.P (Own X μ H) μ H w o ob):ObOk X.P (Own X μ' H') μ' H' w' o ob:=by
 cases ob with
 | box ty cs =>
   obtain⟨b,c,h1,h2,h3⟩:=h
   exact⟨b,c,hμ.trans h1,(hb b (by unfold ownedO;rw[ho];trivial) h1).trans h2,h3.mono hi hx⟩
 | ro cs =>
   obtain⟨b,c,e,z,h1,h2,h3,h4⟩:=h
   have hlt:=lt_of_heap h3
   exact⟨b,c,e,z,hμ.trans h1,fun hO=>h2 (hx.own b hlt hO),(hx.blk b hlt h2).trans h3,h4.mono hi hx⟩
 | gr ty sz xs =>
   obtain⟨h0,h1,h2⟩:=h
   refine⟨h0,h1,?_⟩
   rcases h2 with ⟨m,hn⟩ | ⟨b,c,m,h3,h4,h5⟩
   ·exact .inl ⟨hμ.trans m,hn⟩
   ·exact .inr ⟨b,c,hμ.trans m,(hb b (by unfold ownedO;rw[ho];trivial) m).trans h3,h4,fun i x j v hx' hv=>((h5 i x j v hx' hv).mono (Nat.le_refl _) hi hx).more hx.len⟩
 | loop ps e asg body st pend =>
   obtain⟨l,r,h1,h2,h3,h4⟩:=h
   exact⟨l,r,hμ.trans h1,(hb l (by unfold ownedO;rw[ho];trivial) h1).trans h2,h3,fun t=>((h4 t).mono (Nat.le_refl _) hi hx).more hx.len⟩
 | dead=>trivial
 | nop=>trivial
theorem Inv.step {X:Cx}{μ μ':Nat→Option Nat}{H H':Hp}{w w':World} (hi:Inv X μ H w) (hx:Ext X μ H w μ' H' w') (o0:Nat) (ob':Ob)
 (h0:hget H' o0=some ob') (hh:∀ o,o≠o0→hget H' o=hget H o) (hμ:∀ o,o≠o0→μ' o=μ o)
 (hb:∀ o b,o≠o0→ownedO H o→μ o=some b→w'.heap[b]? = w.heap[b]?)
 (hn:ObOk X.P (Own X μ' H') μ' H' w' o0 ob')
 (hd:∀ b,ownedO H' o0→μ' o0=some b→¬ X b∧∀ o,o≠o0→ownedO H o→μ o≠some b):Inv X μ' H' w':=by
 have own':∀ o,o≠o0→ownedO H' o→ownedO H o:=fun o ho h=>by unfold ownedO at h ⊢; rw[hh o ho] at h;exact h
 refine⟨fun o ob hg=>?_,fun o o' b hne h1 h2 m1 m2=>?_,fun o b h1 m1=>?_,fun b hb'=>Nat.lt_of_lt_of_le (hi.low b hb') hx.size⟩
 ·by_cases e:o=o0
  ·subst e;rw[h0] at hg;cases hg;exact hn
  ·rw[hh o e] at hg
   exact(hi.obj o ob hg).mono hi hx hg (hμ o e) (fun b h1 h2=>hb o b e h1 h2)
 ·by_cases e:o=o0
  ·subst e
   have h3:=own' o' (Ne.symm hne) h2
   exact(hd b h1 m1).2 o' (Ne.symm hne) h3 (by rw[← hμ o' (Ne.symm hne)];exact m2)
  ·by_cases e':o'=o0
   ·subst e'
    exact(hd b h2 m2).2 o e (own' o e h1) (by rw[← hμ o e];exact m1)
   ·exact hi.inj o o' b hne (own' o e h1) (own' o' e' h2) (by rw[← hμ o e];exact m1) (by rw[← hμ o' e'];exact m2)
 ·by_cases e:o=o0
  ·subst e;exact(hd b h1 m1).1
  ·exact hi.xs o b (own' o e h1) (by rw[← hμ o e];exact m1)
theorem heap_alloc (w:World) (o:Obj) (k:Nat) (h:k<w.heap.size):(w.alloc o).heap[k]? = w.heap[k]? := RowKit.Below.heap_alloc w o k h
theorem heap_alloc_new (w:World) (o:Obj):(w.alloc o).heap[w.heap.size]? = some o:=by
 show (w.heap.push o)[w.heap.size]? = _
 rw[Array.getElem?_push,if_pos rfl]
theorem Ext.alloc {X:Cx}{μ:Nat→Option Nat}{H:Hp}{w:World} (hi:Inv X μ H w) (o:Obj):Ext X μ H w μ H (w.alloc o) :=
 ⟨by simp,fun b hb _=>heap_alloc w o b hb,fun b hb=>heap_alloc w o b (hi.low b hb),fun _ _ h=>h,
  fun b c e h _ _=>⟨c,e,(heap_alloc w o b (lt_of_heap h)).trans h,rfl⟩,Nat.le_refl _,fun _ _ h=>⟨rfl,h⟩,fun _ _ _ xs _ h=>⟨xs,h,Nat.le_refl _,fun _=>rfl⟩,rfl,rfl,rfl⟩
theorem Inv.same {X:Cx}{μ:Nat→Option Nat}{H:Hp}{w w':World} (hi:Inv X μ H w) (hx:Ext X μ H w μ H w') (hb:∀ b,b<w.heap.size→w'.heap[b]? = w.heap[b]?):Inv X μ H w' :=
 ⟨fun o ob hg=>(hi.obj o ob hg).mono hi hx hg rfl (fun b h1 h2=>hb b (Own_lt hi (.inr ⟨o,h1,h2⟩))),hi.inj,hi.xs,fun b h=>Nat.lt_of_lt_of_le (hi.low b h) hx.size⟩
theorem Inv.alloc {X:Cx}{μ:Nat→Option Nat}{H:Hp}{w:World} (hi:Inv X μ H w) (o:Obj):Inv X μ H (w.alloc o) :=
 hi.same (Ext.alloc hi o) fun b hb=>heap_alloc w o b hb
theorem Ext.drew (X:Cx) (μ:Nat→Option Nat) (H:Hp) (w:World):Ext X μ H w μ H w.drew :=
 ⟨Nat.le_refl _,fun _ _ _=>rfl,fun _ _=>rfl,fun _ _ h=>h,fun _ c e h _ _=>⟨c,e,h,rfl⟩,Nat.le_refl _,fun _ _ h=>⟨rfl,h⟩,fun _ _ _ xs _ h=>⟨xs,h,Nat.le_refl _,fun _=>rfl⟩,rfl,rfl,rfl⟩
theorem Inv.drew {X:Cx}{μ:Nat→Option Nat}{H:Hp}{w:World} (hi:Inv X μ H w):Inv X μ H w.drew :=
 hi.same (Ext.drew X μ H w) fun _ _=>rfl
theorem isGr_cons {H:Hp}{x:Ob}{o:Nat} (h:o<H.length):isGr (x::H) o=isGr H o:=by unfold isGr;rw[hget_cons_lt _ h]
theorem ownedO_cons {H:Hp}{x:Ob}{o:Nat} (h:o<H.length):ownedO (x::H) o=ownedO H o:=by unfold ownedO;rw[hget_cons_lt _ h]
theorem Ext.push {X:Cx}{μ:Nat→Option Nat}{H:Hp}{w w':World} (hi:Inv X μ H w) (x:Ob) (b:Option Nat)
 (hw:∀ k,k<w.heap.size→w'.heap[k]? = w.heap[k]?) (hs:w.heap.size≤w'.heap.size) (hos:w'.os=w.os) (ht:w'.tape=w.tape) (hout:w'.output=w.output)
 (hb:∀ k,b=some k→w.heap.size≤k):Ext X μ H w (upd μ H.length b) (x::H) w' where
 size:=hs
 blk k hk _:=hw k hk
 xblk k hk:=hw k (hi.low k hk)
 own k hk h:=by
  rcases h with h | ⟨o,ho,hm⟩
  ·exact .inl h
  ·by_cases e:o=H.length
   ·subst e;rw[upd_self] at hm;have:=hb k hm;omega
   ·have hlt:o<H.length:=by have:=ownedO_lt ho;simp at this;omega
    rw[upd_other e] at hm
    exact .inr ⟨o,by rw[ownedO_cons hlt] at ho;exact ho,hm⟩
 shape k c e h _ _:=⟨c,e,(hw k (lt_of_heap h)).trans h,rfl⟩
 len:=by simp
 mu o ho hg:=⟨upd_other (by omega),by rw[isGr_cons ho];exact hg⟩
 gr o ty sz xs ho hg:=⟨xs,by rw[hget_cons_lt _ ho] at hg;exact hg,Nat.le_refl _,fun _=>upd_other (by omega)⟩
 os:=hos
 tape:=ht
 output:=hout
theorem hget_cons_ne {H:Hp}{x:Ob}{o:Nat} (h:o≠H.length):hget (x::H) o=hget H o:=by
 rw[hget,if_neg h]
theorem Inv.push {X:Cx}{μ:Nat→Option Nat}{H:Hp}{w w':World} (hi:Inv X μ H w) (x:Ob) (b:Option Nat)
 (hw:∀ k,k<w.heap.size→w'.heap[k]? = w.heap[k]?) (hs:w.heap.size≤w'.heap.size) (hos:w'.os=w.os) (ht:w'.tape=w.tape) (hout:w'.output=w.output)
 (hb:∀ k,b=some k→w.heap.size≤k) (hn:ObOk X.P (Own X (upd μ H.length b) (x::H)) (upd μ H.length b) (x::H) w' H.length x):Inv X (upd μ H.length b) (x::H) w':=by
 have hx:=Ext.push hi x b hw hs hos ht hout hb
 refine hi.step hx H.length x (hget_cons_self H x) (fun o ho=>hget_cons_ne ho) (fun o ho=>upd_other ho) (fun o k ho h1 h2=>hw k (Own_lt hi (.inr ⟨o,h1,h2⟩))) hn ?_
 intro k _ hm
 rw[upd_self] at hm
 have hk:=hb k hm
 refine⟨fun hX=>by have:=hi.low k hX;omega,fun o _ h1 h2=>?_⟩
 have:=Own_lt hi (.inr ⟨o,h1,h2⟩:Own X μ H k);omega
theorem push_box {X:Cx}{μ:Nat→Option Nat}{H:Hp}{w:World} (hi:Inv X μ H w) {cs:List V}{c:Array Value} (e:TypeId)
 (h:HVs (Own X μ H) μ H H.length w cs c) :
 Inv X (upd μ H.length (some w.heap.size)) (.box e cs::H) (w.alloc (.cells c e))∧Ext X μ H w (upd μ H.length (some w.heap.size)) (.box e cs::H) (w.alloc (.cells c e)):=by
 have hw:∀ k,k<w.heap.size→(w.alloc (.cells c e)).heap[k]? = w.heap[k]? := fun k hk=>heap_alloc w _ k hk
 have hb:∀ k,some w.heap.size=some k→w.heap.size≤k:=fun k hk=>by cases hk;exact Nat.le_refl _
 have hx:=Ext.push hi (.box e cs) (some w.heap.size) hw (by simp) rfl rfl rfl hb
 exact⟨hi.push (.box e cs) (some w.heap.size) hw (by simp) rfl rfl rfl hb ⟨w.heap.size,c,upd_self ..,heap_alloc_new w _,h.mono hi hx⟩,hx⟩
theorem Ext.turn {X:Cx}{μ:Nat→Option Nat}{H:Hp}{w w':World} (hi:Inv X μ H w) {o0:Nat}{ob ob':Ob}{b:Nat}{c c':Array Value}{e e':TypeId}
 (hg:hget H o0=some ob) (hm:μ o0=some b) (hob:ownedO H o0) (hc:w.heap[b]? = some (.cells c e (0,0))) (hc':w'.heap[b]? = some (.cells c' e' (0,0))) (hsz:c'.size=c.size)
 (hw:∀ k,k≠b→w'.heap[k]? = w.heap[k]?) (hs:w'.heap.size=w.heap.size) (hos:w'.os=w.os) (ht:w'.tape=w.tape) (hout:w'.output=w.output)
 (hk:match ob,ob' with | .box ty _,.box ty' _=>ty=ty' | .gr ty sz xs,.gr ty' sz' xs'=>ty=ty'∧sz=sz'∧xs.length≤xs'.length | _,_=>False):Ext X μ H w μ (hset H o0 ob') w' where
 size:=by omega
 blk k hk' ho:=hw k fun e'=>ho (e'▸.inr ⟨o0,hob,hm⟩)
 xblk k hk':=hw k fun e'=>hi.xs o0 b hob hm (e'▸hk')
 own k hk' h:=by
  rcases h with h | ⟨o,ho,h2⟩
  ·exact .inl h
  ·refine .inr ⟨o,?_,h2⟩
   by_cases e1:o=o0
   ·subst e1;exact hob
   ·unfold ownedO at ho ⊢; rw[hget_hset_other _ (Ne.symm e1)] at ho;exact ho
 shape k c1 e1 h _ _:=by
  by_cases e2:k=b
  ·subst e2;rw[hc] at h;cases h;exact⟨c',e',hc',hsz⟩
  ·exact⟨c1,e1,(hw k e2).trans h,rfl⟩
 len:=by rw[hset_length];exact Nat.le_refl _
 mu o ho hg':=by
  refine⟨rfl,?_⟩
  by_cases e1:o=o0
  ·subst e1
   unfold isGr at hg' ⊢
   rw[hg] at hg'
   rw[hget_hset_self _ ho]
   cases ob with
   | box _ _=>cases ob' with
     | box _ _=>exact id
     | _=>exact hk.elim
   | gr _ _ _=>exact fun _=>hg' trivial
   | ro _=>exact hk.elim
   | loop _ _ _ _ _ _=>exact hk.elim
   | dead=>exact hk.elim
   | nop=>exact hk.elim
  ·unfold isGr at hg' ⊢; rw[hget_hset_other _ (Ne.symm e1)];exact hg'
 gr o ty sz xs' ho h:=by
  by_cases e1:o=o0
  ·subst e1
   rw[hget_hset_self _ ho] at h
   cases h
   cases ob with
   | gr ty2 sz2 xs2=>simp only at hk;obtain⟨rfl,rfl,hl⟩:=hk;exact⟨xs2,hg,by omega,fun _=>rfl⟩
   | box _ _=>simp at hk
   | ro _=>simp at hk
   | loop _ _ _ _ _ _=>simp at hk
   | dead=>simp at hk
   | nop=>simp at hk
  ·rw[hget_hset_other _ (Ne.symm e1)] at h;exact⟨xs',h,Nat.le_refl _,fun _=>rfl⟩
 os:=hos
 tape:=ht
 output:=hout
theorem Inv.turn {X:Cx}{μ:Nat→Option Nat}{H:Hp}{w w':World} (hi:Inv X μ H w) {o0:Nat}{ob ob':Ob}{b:Nat}{c c':Array Value}{e e':TypeId}
 (hg:hget H o0=some ob) (hm:μ o0=some b) (hob:ownedO H o0) (hc:w.heap[b]? = some (.cells c e (0,0))) (hc':w'.heap[b]? = some (.cells c' e' (0,0))) (hsz:c'.size=c.size)
 (hw:∀ k,k≠b→w'.heap[k]? = w.heap[k]?) (hs:w'.heap.size=w.heap.size) (hos:w'.os=w.os) (ht:w'.tape=w.tape) (hout:w'.output=w.output)
 (hk:match ob,ob' with | .box ty _,.box ty' _=>ty=ty' | .gr ty sz xs,.gr ty' sz' xs'=>ty=ty'∧sz=sz'∧xs.length≤xs'.length | _,_=>False)
 (hn:ObOk X.P (Own X μ (hset H o0 ob')) μ (hset H o0 ob') w' o0 ob'):Inv X μ (hset H o0 ob') w':=by
 have hx:=Ext.turn hi hg hm hob hc hc' hsz hw hs hos ht hout hk
 refine hi.step hx o0 ob' (hget_hset_self _ (hget_lt hg)) (fun o ho=>hget_hset_other _ (Ne.symm ho)) (fun _ _=>rfl) ?_ hn ?_
 ·intro o k ho h1 h2
  exact hw k fun e'=>hi.inj o o0 b ho h1 hob (e'▸h2) hm
 ·intro k _ h2
  rw[hm] at h2;cases h2
  exact⟨hi.xs o0 b hob hm,fun o ho h1 h3=>hi.inj o o0 b ho h1 hob h3 hm⟩
end
section
open Go
section
variable {O:Bs}{μ:Nat→Option Nat}{H:Hp}{N:Nat}{w:World}
theorem allD_some:∀ {vs:List V}{ds:List D},allD vs=some ds→vs=ds.map .d
 | [],ds,h=>by simp[allD] at h;subst h;rfl
 | v::vs,ds,h=>by
   cases v with
   | d x =>
     simp only[allD] at h
     cases hv:allD vs with
     | none=>rw[hv] at h;simp at h
     | some l=>rw[hv] at h;simp at h;subst h;rw[allD_some hv];rfl
   | _=>simp[allD] at h
theorem allD_map:∀ (ds:List D),allD (ds.map .d)=some ds
 | []=>rfl
 | d::ds=>by simp[allD,allD_map ds]
theorem HVs_d {ds:List D}{a:Array Value}:HVs O μ H N w (ds.map .d) a↔a.size=ds.length∧∀ (j:Nat) v,ds[j]? = some v→HD O w v (a.getD j undef):=by
 constructor
 ·rintro⟨h1,h2⟩
  refine⟨by simpa using h1,fun j v hv=>?_⟩
  have:=h2 j (.d v) (by simp[hv])
  cases this;assumption
 ·rintro⟨h1,h2⟩
  refine⟨by simpa using h1,fun j v hv=>?_⟩
  rw[List.getElem?_map] at hv
  cases hd:ds[j]? with
  | none=>rw[hd] at hv;cases hv
  | some x=>rw[hd] at hv;cases hv;exact .d x _ (h2 j x hd)
theorem HV_mkAgg {cs:List V}{a:Array Value} (h:HVs O μ H N w cs a):HV O μ H N w (mkAgg cs) (.agg a):=by
 unfold mkAgg
 cases hd:allD cs with
 | none=>exact .agg cs a h.1 h.2
 | some ds =>
   have:=allD_some hd;subst this
   obtain⟨h1,h2⟩:=HVs_d.1 h
   exact .d _ _ (.agg ds a h1 h2)
theorem HV_mkTup {cs:List V}{a:Array Value} (h:HVs O μ H N w cs a):HV O μ H N w (mkTup cs) (.tuple a):=by
 unfold mkTup
 cases hd:allD cs with
 | none=>exact .tup cs a h.1 h.2
 | some ds =>
   have:=allD_some hd;subst this
   obtain⟨h1,h2⟩:=HVs_d.1 h
   exact .d _ _ (.tup ds a h1 h2)
theorem HV_mkFn {f:FuncId}{xs ys:List V}{a b:Array Value} (h:HVs O μ H N w xs a) (k:HVs O μ H N w ys b):HV O μ H N w (mkFn f xs ys) (.func (.func f) a b):=by
 unfold mkFn
 cases hd:allD xs with
 | none=>exact .fn f xs ys a b h.1 k.1 h.2 k.2
 | some ds =>
   cases hd':allD ys with
   | none=>exact .fn f xs ys a b h.1 k.1 h.2 k.2
   | some ds' =>
     have:=allD_some hd;subst this
     have:=allD_some hd'; subst this
     obtain⟨h1,h2⟩:=HVs_d.1 h
     obtain⟨h3,h4⟩:=HVs_d.1 k
     exact .d _ _ (.fn f ds ds' a b h1 h3 h2 h4)
theorem HV_mkIfc {t:TypeId}{v:V}{c:Value} (h:HV O μ H N w v c):HV O μ H N w (mkIfc t v) (.iface t c):=by
 cases h with
 | d x c h=>exact .d _ _ (.ifc t x c h)
 | u c=>exact .ifc _ _ _ (.u c)
 | p o i b h hm hg=>exact .ifc _ _ _ (.p o i b h hm hg)
 | gr o n cap a h hg=>exact .ifc _ _ _ (.gr o n cap a h hg)
 | gp o n i off b a h hg=>exact .ifc _ _ _ (.gp o n i off b a h hg)
 | yl o l h hm hg=>exact .ifc _ _ _ (.yl o l h hm hg)
 | fn f xs ys a b ha hb h1 h2=>exact .ifc _ _ _ (.fn f xs ys a b ha hb h1 h2)
 | ifc t v c h=>exact .ifc _ _ _ (.ifc t v c h)
 | agg cs a ha h=>exact .ifc _ _ _ (.agg cs a ha h)
 | tup cs a ha h=>exact .ifc _ _ _ (.tup cs a ha h)
theorem HVs_one {v:V}{c:Value} (h:HV O μ H N w v c):HVs O μ H N w [v] #[c] :=
 ⟨rfl,fun j v' hv=>by
  cases j with
  | zero=>simp at hv;subst hv;exact h
  | succ j=>simp at hv⟩
theorem HV_cells {v:V}{c:Value} (hv:v≠.u) (h:HV O μ H N w v c):HVs O μ H N w v.cells c.cells:=by
 cases h with
 | u c=>exact absurd rfl hv
 | d x c h =>
   cases h with
   | agg cs a ha hr=>exact HVs_d.2 ⟨ha,hr⟩
   | b x=>exact HVs_one (.d _ _ (.b x))
   | i k n=>exact HVs_one (.d _ _ (.i k n))
   | s l=>exact HVs_one (.d _ _ (.s l))
   | nilp=>exact HVs_one (.d _ _ .nilp)
   | nilf=>exact HVs_one (.d _ _ .nilf)
   | nili=>exact HVs_one (.d _ _ .nili)
   | ls0=>exact HVs_one (.d _ _ .ls0)
   | ls xs b a cap sz cf hsz hb hcap hc hx hr=>exact HVs_one (.d _ _ (.ls xs b a cap sz cf hsz hb hcap hc hx hr))
   | fpc cs b a cf hn hb hc hr=>exact HVs_one (.d _ _ (.fpc cs b a cf hn hb hc hr))
   | fn f xs ys a b ha hb hra hrb=>exact HVs_one (.d _ _ (.fn f xs ys a b ha hb hra hrb))
   | ifc t d c h=>exact HVs_one (.d _ _ (.ifc t d c h))
   | tup cs a ha hr=>exact HVs_one (.d _ _ (.tup cs a ha hr))
 | p o i b h hm hg=>exact HVs_one (.p o i b h hm hg)
 | gr o n cap a h hg=>exact HVs_one (.gr o n cap a h hg)
 | gp o n i off b a h hg=>exact HVs_one (.gp o n i off b a h hg)
 | yl o l h hm hg=>exact HVs_one (.yl o l h hm hg)
 | fn f xs ys a b ha hb h1 h2=>exact HVs_one (.fn f xs ys a b ha hb h1 h2)
 | ifc t v c h=>exact HVs_one (.ifc t v c h)
 | agg cs a ha h=>exact⟨ha,h⟩
 | tup cs a ha h=>exact HVs_one (.tup cs a ha h)
def plainV:V→Prop
 | .agg _=>False
 | .d (.agg _)=>False
 | .u=>False
 | _=>True
theorem trS_ok {v:Value}{d:D} (h:trS v=some d):HD O w d v:=by
 unfold trS at h
 split at h<;>first
  | (cases h;first | exact .b _ | exact .i _ _ | exact .nilp | exact .nilf | exact .nili | exact .ls0)
  | (cases h;rename_i s;have:s=⟨s.data.toList.toArray⟩:=by simp
     rw[this];simpa using HD.s (O:=O) (w:=w) s.data.toList)
  | cases h
theorem trVs_ok:∀ {vs:List Value}{ds:List D},trVs trS vs=some ds→ds.length=vs.length∧∀ (j:Nat) x,ds[j]? = some x→∃ v,vs[j]? = some v∧HD O w x v
 | [],ds,h=>by simp[trVs] at h;subst h;simp
 | v::vs,ds,h=>by
   unfold trVs at h
   cases h1:trS v with
   | none=>rw[h1] at h;cases h
   | some x =>
     cases h2:trVs trS vs with
     | none=>rw[h1,h2] at h;cases h
     | some xs =>
       rw[h1,h2] at h;cases h
       obtain⟨g1,g2⟩:=trVs_ok h2
       refine⟨by simp[g1],fun j y hy=>?_⟩
       cases j with
       | zero=>simp at hy;subst hy;exact⟨v,rfl,trS_ok h1⟩
       | succ j=>simp at hy;simpa using g2 j y hy
theorem trVs_arr {a:Array Value}{ds:List D} (h:trVs trS a.toList=some ds):a.size=ds.length∧∀ (j:Nat) v,ds[j]? = some v→HD O w v (a.getD j undef):=by
 obtain⟨h1,h2⟩:=trVs_ok (O:=O) (w:=w) h
 refine⟨by simpa using h1.symm,fun j v hv=>?_⟩
 obtain⟨c,hc,hr⟩:=h2 j v hv
 have:a[j]? = some c:=by simpa using hc
 simpa[Array.getD_eq_getD_getElem?,this] using hr
theorem trV_ok {v:Value}{d:D} (h:trV v=some d):HD O w d v:=by
 unfold trV at h
 split at h
 ·rename_i cs
  cases h1:trVs trS cs.toList with
  | none=>rw[h1] at h;cases h
  | some ds=>rw[h1] at h;cases h;obtain⟨g1,g2⟩:=trVs_arr (O:=O) (w:=w) h1;exact .agg ds cs g1 g2
 ·exact trS_ok h
def HE (O:Bs) (μ:Nat→Option Nat) (H:Hp) (N:Nat) (w:World) (e:En) (tmps:Array Value):Prop:=∀ t,HV O μ H N w (eget e t) (tmps.getD t undef)
def Gl (G:Nat) (μ:Nat→Option Nat) (H:Hp):Prop:=∀ n,n<G→n<H.length∧μ n=some n∧¬ isGr H n
theorem aval_ok {P:Program}{x:Operand}{a:Ar} (h:trA P x=some a) {e:En}{act:Act} (he:HE O μ H N w e act.tmps) (hg:Gl P.globals.size μ H) (hN:H.length≤N) :
 HV O μ H N w (aval e a) (act.eval x):=by
 unfold trA at h
 split at h
 ·cases h;exact he _
 ·rename_i v
  cases h1:trV v with
  | none=>rw[h1] at h;cases h
  | some d=>rw[h1] at h;cases h;exact .d _ _ (trV_ok h1)
 ·rename_i g
  split at h
  ·cases h;obtain⟨g1,g2,g3⟩:=hg g (by assumption);exact .p g 0 g (by omega) g2 g3
  ·cases h
 ·cases h;exact .d _ _ (.fn _ [] [] #[] #[] rfl rfl (by simp) (by simp))
theorem trAs_ok {P:Program}:∀ {xs:List Operand}{as:List Ar},trAs P xs=some as→∀ {e:En}{act:Act},HE O μ H N w e act.tmps→Gl P.globals.size μ H→H.length≤N →
 as.length=xs.length∧∀ (j:Nat) v,(as.map (aval e))[j]? = some v→∃ x,xs[j]? = some x∧HV O μ H N w v (act.eval x)
 | [],as,h,e,act,_,_,_=>by simp[trAs] at h;subst h;simp
 | x::xs,as,h,e,act,he,hg,hN=>by
   unfold trAs at h
   cases h1:trA P x with
   | none=>rw[h1] at h;cases h
   | some a =>
     cases h2:trAs P xs with
     | none=>rw[h1,h2] at h;cases h
     | some l =>
       rw[h1,h2] at h;cases h
       obtain⟨g1,g2⟩:=trAs_ok h2 he hg hN
       refine⟨by simp[g1],fun j y hy=>?_⟩
       cases j with
       | zero=>simp at hy;subst hy;exact⟨x,rfl,aval_ok h1 he hg hN⟩
       | succ j=>simp only[List.map_cons,List.getElem?_cons_succ] at hy;simpa using g2 j y hy
theorem trAs_arr {P:Program}{xs:Array Operand}{as:List Ar} (h:trAs P xs.toList=some as) {e:En}{act:Act} (he:HE O μ H N w e act.tmps) (hg:Gl P.globals.size μ H) (hN:H.length≤N) :
 HVs O μ H N w (as.map (aval e)) (xs.map act.eval):=by
 obtain⟨h1,h2⟩:=trAs_ok h he hg hN
 refine⟨by simp[h1],fun j v hv=>?_⟩
 obtain⟨x,hx,hr⟩:=h2 j v hv
 have:xs[j]? = some x:=by simpa using hx
 simpa[Array.getD_eq_getD_getElem?,this] using hr
theorem HVs_append {xs ys:List V}{a b:Array Value} (h:HVs O μ H N w xs a) (k:HVs O μ H N w ys b):HVs O μ H N w (xs++ys) (a++b):=by
 refine⟨by simp[h.1,k.1],fun j v hv=>?_⟩
 rw[Array.getD_eq_getD_getElem?,Array.getElem?_append,h.1]
 rw[List.getElem?_append] at hv
 split at hv
 ·rename_i hl
  rw[if_pos hl]
  have:=h.2 j v hv
  rwa [Array.getD_eq_getD_getElem?] at this
 ·rename_i hl
  rw[if_neg hl]
  have:=k.2 _ v hv
  rwa [Array.getD_eq_getD_getElem?] at this
end
theorem Gl.mono {G:Nat}{X:Cx}{μ μ':Nat→Option Nat}{H H':Hp}{w w':World} (h:Gl G μ H) (hx:Ext X μ H w μ' H' w'):Gl G μ' H':=by
 intro n hn
 obtain⟨h1,h2,h3⟩:=h n hn
 obtain⟨h4,h5⟩:=hx.mu n h1 h3
 exact⟨Nat.lt_of_lt_of_le h1 hx.len,h4.trans h2,h5⟩
theorem HE.mono {X:Cx}{μ μ':Nat→Option Nat}{H H':Hp}{w w':World} (hi:Inv X μ H w) (hx:Ext X μ H w μ' H' w') {e:En}{tmps:Array Value}
 (h:HE (Own X μ H) μ H H.length w e tmps):HE (Own X μ' H') μ' H' H'.length w' e tmps:=fun t=>((h t).mono (Nat.le_refl _) hi hx).more hx.len
theorem eget_eset_self:∀ (e:En) (t:Nat) (v:V),eget (eset e t v) t=v
 | [],t,v=>by simp[eset,eget]
 | (k,x)::e,t,v=>by
   unfold eset
   split
   ·rename_i h;subst h;simp[eget]
   ·rename_i h;unfold eget;rw[if_neg h];exact eget_eset_self e t v
theorem eget_eset_other:∀ (e:En) {t t':Nat} (v:V),t'≠t→eget (eset e t v) t'=eget e t'
 | [],t,t',v,h=>by simp[eset,eget,h]
 | (k,x)::e,t,t',v,h=>by
   unfold eset
   split
   ·rename_i h1;subst h1;simp[eget,h]
   ·rename_i h1
    unfold eget
    split
    ·rfl
    ·exact eget_eset_other e v h
theorem HE.put {O:Bs}{μ:Nat→Option Nat}{H:Hp}{N:Nat}{w:World}{e:En}{act:Act} (h:HE O μ H N w e act.tmps) {dst:Option Nat} (hd:∀ t,dst=some t→t<act.tmps.size)
 {v:V}{c:Value} (hv:HV O μ H N w v c):HE O μ H N w (put e dst v) (act.put dst c).tmps:=by
 cases dst with
 | none=>exact h
 | some t =>
   intro k
   simp only[Go.Proofs.YtmiioebapckcoaaGreatDoor.put,Act.put]
   by_cases hk:k=t
   ·subst hk
    rw[eget_eset_self]
    simpa[Array.getD_eq_getD_getElem?,hd k rfl] using hv
   ·rw[eget_eset_other _ _ hk]
    have:=h k
    simpa[Array.getD_eq_getD_getElem?,Array.getElem?_setIfInBounds_ne (Ne.symm hk)] using this
theorem eget_ekeep:∀ (l:List Nat) (e:En) (t:Nat),eget (ekeep l e) t=eget e t∨eget (ekeep l e) t=.u
 | [],e,t=>.inr rfl
 | k::l,e,t=>by
   unfold ekeep
   simp only[List.map_cons,eget]
   split
   ·rename_i h;subst h;exact .inl rfl
   ·exact eget_ekeep l e t
theorem HE.keep {O:Bs}{μ:Nat→Option Nat}{H:Hp}{N:Nat}{w:World}{e:En}{tmps:Array Value} (h:HE O μ H N w e tmps) (l:List Nat):HE O μ H N w (ekeep l e) tmps:=by
 intro t
 rcases eget_ekeep l e t with h1 | h1
 ·rw[h1];exact h t
 ·rw[h1];exact .u _
end
end Go.Proofs.YtmiioebapckcoaaGreatDoor
