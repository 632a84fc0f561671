/- Part 20 of a proof: the small semantics, its soundness, the functions of the program in it, and the law. -/
import Derived.Test.YtmiioebapckcoaaGreatDoorKs
set_option linter.unusedVariables false
set_option linter.unusedSimpArgs false
section
/- The row of EnclosureContains, from the law's contract in the small semantics. Printed by wip/tools/mkRow.py. -/
namespace Go.Proofs.YtmiioebapckcoaaGreatDoor
open Go Num
open Go.ChangeShapes Go.WideShapes Go.RowKit
set_option maxRecDepth 4000

namespace EnclosureContains
theorem own : ownKnob Tryz.prog.godebug = none := by kernel_rfl
/-- what is shown of the code: with any arguments the law answers true -/
def Ok : Prop := ∀ (x0 : List Int) (x1 : List Int) (n2 : Int) (n3 : Int),x0.length = 4 → x1.length = 4 → (∀ z ∈ x0,I64 z) → (∀ z ∈ x1,I64 z) → I64 n2 → I64 n3 → ∀ (H : Hp) (o : EO),Glb H → ErrAt H o →
  callV cS false (fnV 7) [.d (.agg (x0.map (D.i .i64))),.d (.agg (x1.map (D.i .i64))),.d (.i .i64 n2),.d (.i .i64 n3)] H = some (.val (.d (.b true)),H)
theorem contract (hlaw : Ok) (H : Type) (enc : TypeId × Value → H) (W : World) (base : Nat) (args : Array Value) (ds gs : List (DataW H)) (before : List MemPlace)
    (hval : ∀ (j : Nat) t v,Tryz.f7.params[j]? = some t → args[j]? = some v → Value.okWide Tryz.prog W .any base t v)
    (hW : DataW.Whole enc Tryz.prog Tryz.f7.params.toList Rows.enclosureContainsSpec.vars false W args.toList ds gs before) (hL : laidMetH Tryz.prog Rows.enclosureContainsRow.laid W) :
    Calls Tryz.prog 7 args W fun e W' => ∃ v,e = .returned v ∧ Rows.enclosureContainsSpec.post enc Tryz.prog Tryz.f7 false true false false W args v W' := by
  have hW' := hW
  obtain ⟨p,q,hA0,hV,rfl,_,_⟩ := hW
  have hA : DataW.TrodAll enc Tryz.prog W 0 (fun _ => true) true Tryz.f7.params.toList args.toList ds p := hA0
  rw [Tryz.params7] at hA hval
  obtain ⟨v0,vs0,d0,ds0,p0,q0,hargs,rfl,rfl,h0,r0⟩ := trodAll_cons hA
  obtain ⟨v1,vs1,d1,ds1,p1,q1,rfl,rfl,rfl,h1,r1⟩ := trodAll_cons r0
  obtain ⟨v2,vs2,d2,ds2,p2,q2,rfl,rfl,rfl,h2,r2⟩ := trodAll_cons r1
  obtain ⟨v3,vs3,d3,ds3,p3,q3,rfl,rfl,rfl,h3,r3⟩ := trodAll_cons r2
  obtain ⟨rfl,rfl,rfl⟩ := trodAll_nil r3
  obtain rfl : args = #[v0,v1,v2,v3] := by cases args; simp_all
  obtain ⟨rfl,rfl⟩ := trodVars_none hV
  obtain ⟨x0,l0,rfl,i0⟩ := arr_arg Tryz.underlying22 Tryz.underlying3 (by kernel_rfl) (by kernel_rfl) (hval 0 22 v0 rfl rfl) h0
  obtain ⟨x1,l1,rfl,i1⟩ := arr_arg Tryz.underlying22 Tryz.underlying3 (by kernel_rfl) (by kernel_rfl) (hval 1 22 v1 rfl rfl) h1
  obtain ⟨n2,rfl,_,_,w2⟩ := open_int Tryz.underlying3 (hval 2 3 v2 rfl rfl) h2
  obtain ⟨n3,rfl,_,_,w3⟩ := open_int Tryz.underlying3 (hval 3 3 v3 rfl rfl) h3
  obtain ⟨b,i,hLd⟩ := laid_of (by kernel_rfl) hL (List.mem_of_getElem? (i := 6) rfl) (List.mem_of_getElem? (i := 2) rfl)
  have hc := hlaw x0 x1 n2 n3 l0 l1 i0 i1 (wf64 w2) (wf64 w3) (H0 i) (glN,i) (H0_glb i) (H0_err i)
  refine (calls_of hLd hc ⟨rfl,fun j v hj => ?_⟩).mono fun e W' ⟨c,O,he,hd,hK⟩ => ?_
  · match j,hj with
    | 0,hj => cases hj; exact .d _ _ (HD_arr x0)
    | 1,hj => cases hj; exact .d _ _ (HD_arr x1)
    | 2,hj => cases hj; exact .d _ _ (.i _ _)
    | 3,hj => cases hj; exact .d _ _ (.i _ _)
  · cases hd
    exact ⟨_,he,post_true (n := 9) hW' (by kernel_rfl) rfl rfl Tryz.underlying4 ⟨rfl,rfl,rfl⟩ hK⟩

theorem reads (os : Os) {H : Type} (enc : TypeId × Value → H) : ∃ places,DataW.whole enc Tryz.prog ((World.laidAll Tryz.prog os Rows.enclosureContainsRow.laid).forCall (fun _ _ => 0) ⟨#[],#[.agg #[.int .i64 0,.int .i64 0,.int .i64 0,.int .i64 0],.agg #[.int .i64 0,.int .i64 0,.int .i64 0,.int .i64 0],.int .i64 0,.int .i64 0],[]⟩).memory Tryz.f7.params.toList Rows.enclosureContainsSpec.vars false #[Value.agg #[.int .i64 0,.int .i64 0,.int .i64 0,.int .i64 0],.agg #[.int .i64 0,.int .i64 0,.int .i64 0,.int .i64 0],.int .i64 0,.int .i64 0].toList 8 = some ([.agg [.lit (.int .i64 0),.lit (.int .i64 0),.lit (.int .i64 0),.lit (.int .i64 0)],.agg [.lit (.int .i64 0),.lit (.int .i64 0),.lit (.int .i64 0),.lit (.int .i64 0)],.lit (.int .i64 0),.lit (.int .i64 0)],[],places) :=
  ⟨[],by kernel_rfl⟩
theorem lays (os : Os) (args : Array Value) : laidMetH Tryz.prog Rows.enclosureContainsRow.laid ((World.laidAll Tryz.prog os Rows.enclosureContainsRow.laid).forCall (fun _ _ => 0) ⟨#[],args,[]⟩).memory := by
  rw [MakeChecks.laidMetH_plain _ _ _ (by kernel_rfl)]
  exact laidMet_laidAll _ (by kernel_rfl) (by kernel_rfl)
set_option maxRecDepth 100000 in
theorem lifted (hlaw : Ok) (os : Os) (started : os.Started) (H : Type) (enc : TypeId × Value → H) (F : Stop.Interp) :
    ReturnsInHanded {} Tryz.checked os 7 .any ((OpenSpec.ofChange Rows.enclosureContainsSpec).preRow enc Tryz.prog Tryz.f7 Rows.enclosureContainsRow.domain false Rows.enclosureContainsRow.laid) (((OpenSpec.ofChange Rows.enclosureContainsSpec).at F).post enc Tryz.prog Tryz.f7 false true false false) := by
  obtain ⟨places,hx⟩ := reads os enc
  refine returnsInHanded_of_row (C := Tryz.checked) (s := OpenSpec.ofChange Rows.enclosureContainsSpec) own started (by kernel_rfl) Tryz.func7
    (witness_row_atRef (enc := enc) (C := Tryz.checked) false (World.laidAll Tryz.prog os Rows.enclosureContainsRow.laid) #[.agg #[.int .i64 0,.int .i64 0,.int .i64 0,.int .i64 0],.agg #[.int .i64 0,.int .i64 0,.int .i64 0,.int .i64 0],.int .i64 0,.int .i64 0] (World.laidAll_os _ _ _) (by kernel_rfl) (by kernel_rfl) (by kernel_rfl)
      (OpenSpec.preRow_of_cond 8 hx rfl (fun k hk => by cases hk) (by kernel_rfl) (lays os _))) ?_
  intro W base args ds gs before hval hW _ _ _ hL _ _
  exact contract hlaw H enc W base args ds gs before hval hW hL
theorem said (hlaw : Ok) : Rows.EnclosureContainsSaid :=
  OpenClaim.holds_of_cond 7 Tryz.f7 rfl rfl rfl rfl rfl rfl rfl ⟨rfl,rfl,rfl,rfl,rfl⟩ rfl rfl rfl rfl rfl (by kernel_rfl) Tryz.func7 (by kernel_rfl)
    (of_decide_eq_true (by kernel_rfl)) (by unfold Func.isWrapper; first | (rw [if_pos (by decide +kernel)]; kernel_rfl) | (rw [if_neg (by decide +kernel)]; exact ⟨rfl,rfl⟩))
    (fun os started H enc _ F => by rw [OpenClaim.pre_eq_preRow]; exact lifted hlaw os started H enc F)
theorem plain (f : FuncId) (fn : Func) (hf : Tryz.pinned.checked.prog.funcNamed "workpiece/workpiecelaw05.EnclosureContains" = some f) (hfn : Tryz.pinned.checked.prog.funcs[f]? = some fn) :
    true = Tryz.pinned.checked.prog.looks [] ∧ ∀ (j : Nat) t,fn.params[j]? = some t → Tryz.pinned.checked.prog.wantsStandIn t = false := by
  obtain rfl : f = 7 := Option.some.inj ((show Tryz.prog.funcNamed "workpiece/workpiecelaw05.EnclosureContains" = some 7 by kernel_rfl).symm.trans hf) |>.symm
  obtain rfl : fn = Tryz.f7 := (Option.some.inj (Tryz.func7.symm.trans hfn)).symm
  refine ⟨by kernel_rfl,fun j t ht => ?_⟩
  rw [Tryz.params7] at ht
  have hm := Array.mem_of_getElem? ht
  simp only [List.mem_toArray,List.mem_cons,List.not_mem_nil,or_false] at hm
  rcases hm with rfl | rfl | rfl | rfl <;> (first | exact (show Tryz.prog.wantsStandIn 22 = false by kernel_rfl) | exact (show Tryz.prog.wantsStandIn 3 = false by kernel_rfl))
theorem card (hlaw : Ok) : Rows.EnclosureContainsCardSaid :=
  Claim7.holds_tied_plain_at .later [] _ _ _ _ (said hlaw) (fun _ h => by cases h) (by kernel_rfl) (fun _ h => by cases h) enclosureContains_row_tie rfl ⟨rfl,rfl⟩ (by kernel_rfl) rfl plain (by kernel_rfl)
end EnclosureContains
end Go.Proofs.YtmiioebapckcoaaGreatDoor
end
