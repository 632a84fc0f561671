/- Part 22 of a proof: the small semantics, its soundness, the functions of the program in it, and the law. -/
import Derived.Test.YtmiioebapckcoaaGreatDoorJu
set_option linter.unusedVariables false
set_option linter.unusedSimpArgs false
set_option maxRecDepth 4000
section
namespace Go.Proofs.YtmiioebapckcoaaGreatDoor
open Go Num
open Go.ChangeShapes Go.WideShapes Go.RowKit
namespace EnclosureMatchesReference
theorem own:ownKnob Tryz.prog.godebug=none:=by kernel_rfl
def Ok:Prop:=∀ (x0:IV) (x1:IV) (x2:List Int) (x3:List Int) (x4:List Int) (n5:Int),x2.length=4→x3.length=4→x4.length=4→IVL x0→IVL x1→(∀ z∈x2,I64 z)→(∀ z∈x3,I64 z)→(∀ z∈x4,I64 z)→I64 n5→∀ (H:Hp) (o:EO),Glb H→ErrAt H o →
 callV cS false (fnV 6) [.d x0.D,.d x1.D,.d (.agg (x2.map (D.i .i64))),.d (.agg (x3.map (D.i .i64))),.d (.agg (x4.map (D.i .i64))),.d (.i .i64 n5)] H=some (.val (.d (.b true)),H)
theorem contract (hlaw:Ok) (H:Type) (enc:TypeId×Value→H) (W:World) (base:Nat) (args:Array Value) (ds gs:List (DataW H)) (before:List MemPlace)
 (hval:∀ (j:Nat) t v,Tryz.f6.params[j]? = some t→args[j]? = some v→Value.okWide Tryz.prog W .any base t v)
 (hW:DataW.Whole enc Tryz.prog Tryz.f6.params.toList Rows.enclosureMatchesReferenceSpec.vars false W args.toList ds gs before) (hL:laidMetH Tryz.prog Rows.enclosureMatchesReferenceRow.laid W) :
 Calls Tryz.prog 6 args W fun e W'=>∃ v,e=.returned v∧Rows.enclosureMatchesReferenceSpec.post enc Tryz.prog Tryz.f6 false true false false W args v W':=by
 have hW':=hW
 obtain⟨p,q,hA0,hV,rfl,_,_⟩:=hW
 have hA:DataW.TrodAll enc Tryz.prog W 0 (fun _=>true) true Tryz.f6.params.toList args.toList ds p:=hA0
 rw[Tryz.params6] at hA hval
 obtain⟨v0,vs0,d0,ds0,p0,q0,hargs,rfl,rfl,h0,r0⟩:=trodAll_cons hA
 obtain⟨v1,vs1,d1,ds1,p1,q1,rfl,rfl,rfl,h1,r1⟩:=trodAll_cons r0
 obtain⟨v2,vs2,d2,ds2,p2,q2,rfl,rfl,rfl,h2,r2⟩:=trodAll_cons r1
 obtain⟨v3,vs3,d3,ds3,p3,q3,rfl,rfl,rfl,h3,r3⟩:=trodAll_cons r2
 obtain⟨v4,vs4,d4,ds4,p4,q4,rfl,rfl,rfl,h4,r4⟩:=trodAll_cons r3
 obtain⟨v5,vs5,d5,ds5,p5,q5,rfl,rfl,rfl,h5,r5⟩:=trodAll_cons r4
 obtain⟨rfl,rfl,rfl⟩:=trodAll_nil r5
 obtain rfl:args = #[v0,v1,v2,v3,v4,v5]:=by cases args;simp_all
 obtain⟨rfl,rfl⟩:=trodVars_none hV
 obtain⟨x0,rfl,i0⟩:=ivl_arg (hval 0 29 v0 rfl rfl) h0
 obtain⟨x1,rfl,i1⟩:=ivl_arg (hval 1 29 v1 rfl rfl) h1
 obtain⟨x2,l2,rfl,i2⟩:=arr_arg Tryz.underlying22 Tryz.underlying3 (by kernel_rfl) (by kernel_rfl) (hval 2 22 v2 rfl rfl) h2
 obtain⟨x3,l3,rfl,i3⟩:=arr_arg Tryz.underlying22 Tryz.underlying3 (by kernel_rfl) (by kernel_rfl) (hval 3 22 v3 rfl rfl) h3
 obtain⟨x4,l4,rfl,i4⟩:=arr_arg Tryz.underlying22 Tryz.underlying3 (by kernel_rfl) (by kernel_rfl) (hval 4 22 v4 rfl rfl) h4
 obtain⟨n5,rfl,_,_,w5⟩:=open_int Tryz.underlying3 (hval 5 3 v5 rfl rfl) h5
 obtain⟨b,i,hLd⟩:=laid_of (by kernel_rfl) hL (List.mem_of_getElem? (i:=6) rfl) (List.mem_of_getElem? (i:=2) rfl)
 have hc:=hlaw x0 x1 x2 x3 x4 n5 l2 l3 l4 i0 i1 i2 i3 i4 (wf64 w5) (H0 i) (glN,i) (H0_glb i) (H0_err i)
 refine(calls_of hLd hc ⟨rfl,fun j v hj=>?_⟩).mono fun e W' ⟨c,O,he,hd,hK⟩=>?_
 ·match j,hj with
  | 0,hj=>cases hj;exact .d _ _ (HD_ivl x0)
  | 1,hj=>cases hj;exact .d _ _ (HD_ivl x1)
  | 2,hj=>cases hj;exact .d _ _ (HD_arr x2)
  | 3,hj=>cases hj;exact .d _ _ (HD_arr x3)
  | 4,hj=>cases hj;exact .d _ _ (HD_arr x4)
  | 5,hj=>cases hj;exact .d _ _ (.i _ _)
 ·cases hd
  exact⟨_,he,post_true (n:=9) hW' (by kernel_rfl) rfl rfl Tryz.underlying4 ⟨rfl,rfl,rfl⟩ hK⟩
theorem reads (os:Os) {H:Type} (enc:TypeId×Value→H):∃ places,DataW.whole enc Tryz.prog ((World.laidAll Tryz.prog os Rows.enclosureMatchesReferenceRow.laid).forCall (fun _ _=>0) ⟨#[],#[.agg #[.string ⟨#[]⟩,.string ⟨#[]⟩,.string ⟨#[]⟩,.string ⟨#[]⟩],.agg #[.string ⟨#[]⟩,.string ⟨#[]⟩,.string ⟨#[]⟩,.string ⟨#[]⟩],.agg #[.int .i64 0,.int .i64 0,.int .i64 0,.int .i64 0],.agg #[.int .i64 0,.int .i64 0,.int .i64 0,.int .i64 0],.agg #[.int .i64 0,.int .i64 0,.int .i64 0,.int .i64 0],.int .i64 0],[]⟩).memory Tryz.f6.params.toList Rows.enclosureMatchesReferenceSpec.vars false #[Value.agg #[.string ⟨#[]⟩,.string ⟨#[]⟩,.string ⟨#[]⟩,.string ⟨#[]⟩],.agg #[.string ⟨#[]⟩,.string ⟨#[]⟩,.string ⟨#[]⟩,.string ⟨#[]⟩],.agg #[.int .i64 0,.int .i64 0,.int .i64 0,.int .i64 0],.agg #[.int .i64 0,.int .i64 0,.int .i64 0,.int .i64 0],.agg #[.int .i64 0,.int .i64 0,.int .i64 0,.int .i64 0],.int .i64 0].toList 8=some ([.agg [.agg [.lit (.string []),.lit (.string [])],.agg [.lit (.string []),.lit (.string [])]],.agg [.agg [.lit (.string []),.lit (.string [])],.agg [.lit (.string []),.lit (.string [])]],.agg [.lit (.int .i64 0),.lit (.int .i64 0),.lit (.int .i64 0),.lit (.int .i64 0)],.agg [.lit (.int .i64 0),.lit (.int .i64 0),.lit (.int .i64 0),.lit (.int .i64 0)],.agg [.lit (.int .i64 0),.lit (.int .i64 0),.lit (.int .i64 0),.lit (.int .i64 0)],.lit (.int .i64 0)],[],places) :=
 ⟨[],by kernel_rfl⟩
theorem lays (os:Os) (args:Array Value):laidMetH Tryz.prog Rows.enclosureMatchesReferenceRow.laid ((World.laidAll Tryz.prog os Rows.enclosureMatchesReferenceRow.laid).forCall (fun _ _=>0) ⟨#[],args,[]⟩).memory:=by
 rw[MakeChecks.laidMetH_plain _ _ _ (by kernel_rfl)]
 exact laidMet_laidAll _ (by kernel_rfl) (by kernel_rfl)
set_option maxRecDepth 100000 in
theorem lifted (hlaw:Ok) (os:Os) (started:os.Started) (H:Type) (enc:TypeId×Value→H) (F:Stop.Interp) :
 ReturnsInHanded {} Tryz.checked os 6 .any ((OpenSpec.ofChange Rows.enclosureMatchesReferenceSpec).preRow enc Tryz.prog Tryz.f6 Rows.enclosureMatchesReferenceRow.domain false Rows.enclosureMatchesReferenceRow.laid) (((OpenSpec.ofChange Rows.enclosureMatchesReferenceSpec).at F).post enc Tryz.prog Tryz.f6 false true false false):=by
 obtain⟨places,hx⟩:=reads os enc
 refine returnsInHanded_of_row (C:=Tryz.checked) (s:=OpenSpec.ofChange Rows.enclosureMatchesReferenceSpec) own started (by kernel_rfl) Tryz.func6
  (witness_row_atRef (enc:=enc) (C:=Tryz.checked) false (World.laidAll Tryz.prog os Rows.enclosureMatchesReferenceRow.laid) #[.agg #[.string ⟨#[]⟩,.string ⟨#[]⟩,.string ⟨#[]⟩,.string ⟨#[]⟩],.agg #[.string ⟨#[]⟩,.string ⟨#[]⟩,.string ⟨#[]⟩,.string ⟨#[]⟩],.agg #[.int .i64 0,.int .i64 0,.int .i64 0,.int .i64 0],.agg #[.int .i64 0,.int .i64 0,.int .i64 0,.int .i64 0],.agg #[.int .i64 0,.int .i64 0,.int .i64 0,.int .i64 0],.int .i64 0] (World.laidAll_os _ _ _) (by kernel_rfl) (by kernel_rfl) (by kernel_rfl)
   (OpenSpec.preRow_of_cond 8 hx rfl (fun k hk=>by cases hk) (by kernel_rfl) (lays os _))) ?_
 intro W base args ds gs before hval hW _ _ _ hL _ _
 exact contract hlaw H enc W base args ds gs before hval hW hL
theorem said (hlaw:Ok):Rows.EnclosureMatchesReferenceSaid :=
 OpenClaim.holds_of_cond 6 Tryz.f6 rfl rfl rfl rfl rfl rfl rfl ⟨rfl,rfl,rfl,rfl,rfl⟩ rfl rfl rfl rfl rfl (by kernel_rfl) Tryz.func6 (by kernel_rfl)
  (of_decide_eq_true (by kernel_rfl)) (by unfold Func.isWrapper;first | (rw[if_pos (by decide +kernel)];kernel_rfl) | (rw[if_neg (by decide +kernel)];exact⟨rfl,rfl⟩))
  (fun os started H enc _ F=>by rw[OpenClaim.pre_eq_preRow];exact lifted hlaw os started H enc F)
theorem plain (f : FuncId) (fn : Func) (hf : Tryz.pinned.checked.prog.funcNamed "workpiece/workpiecelaw05.EnclosureMatchesReference" = some f) (hfn : Tryz.pinned.checked.prog.funcs[f]? = some fn) :
 true=Tryz.pinned.checked.prog.looks []∧∀ (j:Nat) t,fn.params[j]? = some t→Tryz.pinned.checked.prog.wantsStandIn t=false:=by
 obtain rfl : f = 6 := Option.some.inj ((show Tryz.prog.funcNamed "workpiece/workpiecelaw05.EnclosureMatchesReference" = some 6 by kernel_rfl).symm.trans hf) |>.symm
 obtain rfl:fn=Tryz.f6:=(Option.some.inj (Tryz.func6.symm.trans hfn)).symm
 refine⟨by kernel_rfl,fun j t ht=>?_⟩
 rw[Tryz.params6] at ht
 have hm:=Array.mem_of_getElem? ht
 simp only[List.mem_toArray,List.mem_cons,List.not_mem_nil,or_false] at hm
 rcases hm with rfl | rfl | rfl | rfl | rfl | rfl<;>(first | exact(show Tryz.prog.wantsStandIn 29=false by kernel_rfl) | exact(show Tryz.prog.wantsStandIn 22=false by kernel_rfl) | exact(show Tryz.prog.wantsStandIn 3=false by kernel_rfl))
theorem card (hlaw:Ok):Rows.EnclosureMatchesReferenceCardSaid :=
 Claim7.holds_tied_plain_at .later [] _ _ _ _ (said hlaw) (fun _ h=>by cases h) (by kernel_rfl) (fun _ h=>by cases h) enclosureMatchesReference_row_tie rfl ⟨rfl,rfl⟩ (by kernel_rfl) rfl plain (by kernel_rfl)
end EnclosureMatchesReference
end Go.Proofs.YtmiioebapckcoaaGreatDoor
end
