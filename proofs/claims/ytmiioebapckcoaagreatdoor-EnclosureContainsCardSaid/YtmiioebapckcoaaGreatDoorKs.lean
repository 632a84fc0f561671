/- Part 19 of a proof: the small semantics, its soundness, the functions of the program in it, and the law. -/
import Derived.Test.YtmiioebapckcoaaGreatDoorKr
set_option linter.unusedVariables false
set_option linter.unusedSimpArgs false
section
/- enclosure: Add and Sub. Printed by a program. -/
namespace Go.Proofs.YtmiioebapckcoaaGreatDoor
open Go Num
set_option maxRecDepth 4000

theorem add1_ok {h : Hp} {k i j : Nat} {o : EO} {p1 q1 p2 q2 : Rat} (f1 : RFits p1) (f2 : RFits q1) (f3 : RFits p2) (f4 : RFits q2) (hG : Glb h) (hE : ErrAt h o) (hk : hget h k = some (.box 99 [.d (.fn 24 [] [])])) (hi : hget h i = some (.box 29 [.d (.s (txt p1.num)),.d (.s (txt p1.den)),.d (.s (txt q1.num)),.d (.s (txt q1.den))])) (hj : hget h j = some (.box 29 [.d (.s (txt p2.num)),.d (.s (txt p2.den)),.d (.s (txt q2.num)),.d (.s (txt q2.den))])) :
    callV cS false (.fn 129 [] [.p k 0,.p i 0,.p j 0]) [] h = endW o h (pairO (sumO (fun x y => x + y) p1 p2) (sumO (fun x y => x + y) q1 q2)) := by
  rw [callV_fnV (sf := c129) rfl rfl rfl rfl]
  have hil := hget_lt' hi
  have hjl := hget_lt' hj
  have hkl := hget_lt' hk
  have ni : ¬ i = h.length := by omega
  have nj : ¬ j = h.length := by omega
  have nk : ¬ k = h.length := by omega
  have hG1 := hG.cons (.box 29 [.d (.s []),.d (.s []),.d (.s []),.d (.s [])])
  have hE1 := hE.cons (.box 29 [.d (.s []),.d (.s []),.d (.s []),.d (.s [])])
  have c1 := of_call add_OpF f1 f3 hG1 hE1
  have c2 := of_call add_OpF f2 f4 hG1 hE1
  have hf := fin_pan (h := h) (h' := .box 29 [.d (.s []),.d (.s []),.d (.s []),.d (.s [])] :: h) (v := eV o) (by simp [eV,vlt,hE.2]) (by simp) (by rw [HOk_cons' (Nat.le_refl _)]; exact HOk.refl h)
  rw [trunc_cons' (Nat.le_refl _),trunc_self] at hf
  cases h1 : sumO (fun x y => x + y) p1 p2 with
  | none =>
    rw [h1] at c1
    simp only [eV] at c1 hf
    simp [c129,b129,put,eset,eget,D.cells,V.cells,allD,hget,hset,fz,List.zipIdx_cons,List.zipIdx_nil,hk,hi,hj,ni,nj,nk,c1,hf,pairO,endW,eV]
  | some a =>
    rw [h1] at c1
    cases h2 : sumO (fun x y => x + y) q1 q2 with
    | none =>
      rw [h2] at c2
      simp only [eV] at c2 hf
      simp [c129,b129,put,eset,eget,D.cells,V.cells,allD,hget,hset,fz,List.zipIdx_cons,List.zipIdx_nil,hk,hi,hj,ni,nj,nk,c1,c2,hf,pairO,endW,eV]
    | some b =>
      rw [h2] at c2
      simp [c129,b129,put,eset,eget,D.cells,V.cells,allD,hget,hset,fz,List.zipIdx_cons,List.zipIdx_nil,hk,hi,hj,ni,nj,nk,c1,c2,pairO,endW,dI4,setParts,chunk1,allCellsD]
noncomputable def addX (x y : IV) : Option D := match VQ x.a x.b x.c x.d,VQ y.a y.b y.c y.d with
  | some (p1,q1),some (p2,q2) => pairO (sumO (fun x y => x + y) p1 p2) (sumO (fun x y => x + y) q1 q2)
  | _,_ => none
theorem addX_form (x y : IV) : ∀ z,addX x y = some z → ∃ s t u v,z = .agg [.s s,.s t,.s u,.s v] := by
  intro z hz
  unfold addX at hz
  split at hz
  · exact pairO_form _ _ z hz
  · cases hz
theorem EAdd_ok (x y : IV) {H : Hp} {o : EO} (hG : Glb H) (hE : ErrAt H o) : callV cS false (fnV 82) [.d x.D,.d y.D] H = some (.val (.d (workD [x,y] (addX x y))),H) := by
  rw [callV_fn (sf := c82) rfl rfl rfl rfl]
  obtain ⟨H1,hH1⟩ : ∃ H1 : Hp,H1 = .box 99 [.d (.fn 24 [] [])] :: .box 29 [.d (.s []),.d (.s []),.d (.s []),.d (.s [])] :: .box 29 [.d (.s y.a),.d (.s y.b),.d (.s y.c),.d (.s y.d)] :: .box 29 [.d (.s x.a),.d (.s x.b),.d (.s x.c),.d (.s x.d)] :: H := ⟨_,rfl⟩
  have hG1 : Glb H1 := by rw [hH1]; exact (((hG.cons _).cons _).cons _).cons _
  have hE1 : ErrAt H1 o := by rw [hH1]; exact (((hE.cons _).cons _).cons _).cons _
  have hcomp := compute_work (F := .fn 129 [] [.p (H.length + 1 + 1 + 1) 0,.p H.length 0,.p (H.length + 1) 0]) (l := [x,y]) (by simp) hG1 hE1 (by simp) (addX_form x y) (by
    intro ha
    simp only [List.all_cons,List.all_nil,Bool.and_true,Bool.and_eq_true] at ha
    obtain ⟨p1,q1,f1,f2,_,hv1,a1,a2,a3,a4⟩ := IV.ends ha.1
    obtain ⟨p2,q2,f3,f4,_,hv2,b1,b2,b3,b4⟩ := IV.ends ha.2
    have hm : addX x y = pairO (sumO (fun x y => x + y) p1 p2) (sumO (fun x y => x + y) q1 q2) := by simp only [addX,hv1,hv2]
    rw [hm]
    exact add1_ok (h := cbH H1 zI 0) (k := H.length + 1 + 1 + 1) (i := H.length) (j := H.length + 1) f1 f2 f3 f4 ((hG1.cons _).cons _) ((hE1.cons _).cons _) (by rw [hH1]; simp [cbH,hget,put,eset,eget,D.cells,V.cells,allD,hget,hset,fz,List.zipIdx_cons,List.zipIdx_nil]) (by rw [hH1,← a1,← a2,← a3,← a4]; simp [cbH,hget,put,eset,eget,D.cells,V.cells,allD,hget,hset,fz,List.zipIdx_cons,List.zipIdx_nil]) (by rw [hH1,← b1,← b2,← b3,← b4]; simp [cbH,hget,put,eset,eget,D.cells,V.cells,allD,hget,hset,fz,List.zipIdx_cons,List.zipIdx_nil]))
  obtain ⟨s,t,u,v,e,he⟩ := workD_form (l := [x,y]) (addX_form x y)
  rw [he] at hcomp ⊢
  rw [hH1] at hcomp
  simp only [List.map_cons,List.map_nil,IV.D] at hcomp
  simp [c82,b82,put,eset,eget,D.cells,V.cells,allD,hget,hset,fz,List.zipIdx_cons,List.zipIdx_nil,IV.D,hcomp,setParts,chunk1,allCellsD]
theorem sub1_ok {h : Hp} {k i j : Nat} {o : EO} {p1 q1 p2 q2 : Rat} (f1 : RFits p1) (f2 : RFits q1) (f3 : RFits p2) (f4 : RFits q2) (hG : Glb h) (hE : ErrAt h o) (hk : hget h k = some (.box 99 [.d (.fn 18 [] [])])) (hi : hget h i = some (.box 29 [.d (.s (txt p1.num)),.d (.s (txt p1.den)),.d (.s (txt q1.num)),.d (.s (txt q1.den))])) (hj : hget h j = some (.box 29 [.d (.s (txt p2.num)),.d (.s (txt p2.den)),.d (.s (txt q2.num)),.d (.s (txt q2.den))])) :
    callV cS false (.fn 131 [] [.p k 0,.p i 0,.p j 0]) [] h = endW o h (pairO (sumO (fun x y => x - y) p1 q2) (sumO (fun x y => x - y) q1 p2)) := by
  rw [callV_fnV (sf := c131) rfl rfl rfl rfl]
  have hil := hget_lt' hi
  have hjl := hget_lt' hj
  have hkl := hget_lt' hk
  have ni : ¬ i = h.length := by omega
  have nj : ¬ j = h.length := by omega
  have nk : ¬ k = h.length := by omega
  have hG1 := hG.cons (.box 29 [.d (.s []),.d (.s []),.d (.s []),.d (.s [])])
  have hE1 := hE.cons (.box 29 [.d (.s []),.d (.s []),.d (.s []),.d (.s [])])
  have c1 := of_call sub_OpF f1 f4 hG1 hE1
  have c2 := of_call sub_OpF f2 f3 hG1 hE1
  have hf := fin_pan (h := h) (h' := .box 29 [.d (.s []),.d (.s []),.d (.s []),.d (.s [])] :: h) (v := eV o) (by simp [eV,vlt,hE.2]) (by simp) (by rw [HOk_cons' (Nat.le_refl _)]; exact HOk.refl h)
  rw [trunc_cons' (Nat.le_refl _),trunc_self] at hf
  cases h1 : sumO (fun x y => x - y) p1 q2 with
  | none =>
    rw [h1] at c1
    simp only [eV] at c1 hf
    simp [c131,b131,put,eset,eget,D.cells,V.cells,allD,hget,hset,fz,List.zipIdx_cons,List.zipIdx_nil,hk,hi,hj,ni,nj,nk,c1,hf,pairO,endW,eV]
  | some a =>
    rw [h1] at c1
    cases h2 : sumO (fun x y => x - y) q1 p2 with
    | none =>
      rw [h2] at c2
      simp only [eV] at c2 hf
      simp [c131,b131,put,eset,eget,D.cells,V.cells,allD,hget,hset,fz,List.zipIdx_cons,List.zipIdx_nil,hk,hi,hj,ni,nj,nk,c1,c2,hf,pairO,endW,eV]
    | some b =>
      rw [h2] at c2
      simp [c131,b131,put,eset,eget,D.cells,V.cells,allD,hget,hset,fz,List.zipIdx_cons,List.zipIdx_nil,hk,hi,hj,ni,nj,nk,c1,c2,pairO,endW,dI4,setParts,chunk1,allCellsD]
noncomputable def subX (x y : IV) : Option D := match VQ x.a x.b x.c x.d,VQ y.a y.b y.c y.d with
  | some (p1,q1),some (p2,q2) => pairO (sumO (fun x y => x - y) p1 q2) (sumO (fun x y => x - y) q1 p2)
  | _,_ => none
theorem subX_form (x y : IV) : ∀ z,subX x y = some z → ∃ s t u v,z = .agg [.s s,.s t,.s u,.s v] := by
  intro z hz
  unfold subX at hz
  split at hz
  · exact pairO_form _ _ z hz
  · cases hz
theorem ESub_ok (x y : IV) {H : Hp} {o : EO} (hG : Glb H) (hE : ErrAt H o) : callV cS false (fnV 83) [.d x.D,.d y.D] H = some (.val (.d (workD [x,y] (subX x y))),H) := by
  rw [callV_fn (sf := c83) rfl rfl rfl rfl]
  obtain ⟨H1,hH1⟩ : ∃ H1 : Hp,H1 = .box 99 [.d (.fn 18 [] [])] :: .box 29 [.d (.s []),.d (.s []),.d (.s []),.d (.s [])] :: .box 29 [.d (.s y.a),.d (.s y.b),.d (.s y.c),.d (.s y.d)] :: .box 29 [.d (.s x.a),.d (.s x.b),.d (.s x.c),.d (.s x.d)] :: H := ⟨_,rfl⟩
  have hG1 : Glb H1 := by rw [hH1]; exact (((hG.cons _).cons _).cons _).cons _
  have hE1 : ErrAt H1 o := by rw [hH1]; exact (((hE.cons _).cons _).cons _).cons _
  have hcomp := compute_work (F := .fn 131 [] [.p (H.length + 1 + 1 + 1) 0,.p H.length 0,.p (H.length + 1) 0]) (l := [x,y]) (by simp) hG1 hE1 (by simp) (subX_form x y) (by
    intro ha
    simp only [List.all_cons,List.all_nil,Bool.and_true,Bool.and_eq_true] at ha
    obtain ⟨p1,q1,f1,f2,_,hv1,a1,a2,a3,a4⟩ := IV.ends ha.1
    obtain ⟨p2,q2,f3,f4,_,hv2,b1,b2,b3,b4⟩ := IV.ends ha.2
    have hm : subX x y = pairO (sumO (fun x y => x - y) p1 q2) (sumO (fun x y => x - y) q1 p2) := by simp only [subX,hv1,hv2]
    rw [hm]
    exact sub1_ok (h := cbH H1 zI 0) (k := H.length + 1 + 1 + 1) (i := H.length) (j := H.length + 1) f1 f2 f3 f4 ((hG1.cons _).cons _) ((hE1.cons _).cons _) (by rw [hH1]; simp [cbH,hget,put,eset,eget,D.cells,V.cells,allD,hget,hset,fz,List.zipIdx_cons,List.zipIdx_nil]) (by rw [hH1,← a1,← a2,← a3,← a4]; simp [cbH,hget,put,eset,eget,D.cells,V.cells,allD,hget,hset,fz,List.zipIdx_cons,List.zipIdx_nil]) (by rw [hH1,← b1,← b2,← b3,← b4]; simp [cbH,hget,put,eset,eget,D.cells,V.cells,allD,hget,hset,fz,List.zipIdx_cons,List.zipIdx_nil]))
  obtain ⟨s,t,u,v,e,he⟩ := workD_form (l := [x,y]) (subX_form x y)
  rw [he] at hcomp ⊢
  rw [hH1] at hcomp
  simp only [List.map_cons,List.map_nil,IV.D] at hcomp
  simp [c83,b83,put,eset,eget,D.cells,V.cells,allD,hget,hset,fz,List.zipIdx_cons,List.zipIdx_nil,IV.D,hcomp,setParts,chunk1,allCellsD]
end Go.Proofs.YtmiioebapckcoaaGreatDoor
end
section
/- The law's list of all operations. Printed by wip/tools/mkCalls.py. -/
namespace Go.Proofs.YtmiioebapckcoaaGreatDoor
open Go Num
set_option maxRecDepth 4000

theorem hset_out : ∀ (H : Hp) (o : Nat) (x : Ob),H.length ≤ o → hset H o x = H
  | [],_,_,_ => rfl
  | y :: H,o,x,h => by
    have h1 : ¬ o = H.length := by simp at h; omega
    unfold hset
    rw [if_neg h1,hset_out H o x (by simp at h; omega)]
theorem hset_app : ∀ (L H : Hp) (o : Nat) (x : Ob),H.length ≤ o → ∃ L',hset (L ++ H) o x = L' ++ H
  | [],H,o,x,h => ⟨[],by rw [List.nil_append,hset_out H o x h]⟩
  | y :: L,H,o,x,h => by
    rw [List.cons_append]
    unfold hset
    split
    · exact ⟨x :: L,rfl⟩
    · obtain ⟨L',e⟩ := hset_app L H o x h
      exact ⟨y :: L',by rw [e]; rfl⟩
theorem over_app : ∀ (L H : Hp),Over H (L ++ H)
  | [],H => Over.refl H
  | x :: L,H => (over_app L H).cons
/-- the heap between two rounds -/
structure CS (A B : IV) (pA pB o8 o9 : Nat) (xs es : List V) (H G : Hp) : Prop where
  a : hget G pA = some (.box 29 [.d (.s A.a),.d (.s A.b),.d (.s A.c),.d (.s A.d)])
  b : hget G pB = some (.box 29 [.d (.s B.a),.d (.s B.b),.d (.s B.c),.d (.s B.d)])
  x : hget G o8 = some (.gr 29 4 xs)
  e : hget G o9 = some (.gr 31 1 es)
  app : ∃ L,G = L ++ H
  l8 : H.length ≤ o8
  l9 : H.length ≤ o9
  ne : o8 ≠ o9
  a8 : o8 ≠ pA
  a9 : o9 ≠ pA
  b8 : o8 ≠ pB
  b9 : o9 ≠ pB
theorem CS.over {A B : IV} {pA pB o8 o9 : Nat} {xs es : List V} {H G : Hp} (c : CS A B pA pB o8 o9 xs es H G) : Over H G := by
  obtain ⟨L,e⟩ := c.app
  rw [e]; exact over_app L H
theorem CS.next {A B : IV} {pA pB o8 o9 : Nat} {xs es : List V} {H G : Hp} (c : CS A B pA pB o8 o9 xs es H G) (z : Ob) (v w : V) :
    CS A B pA pB o8 o9 (xs ++ [v]) (es ++ [w]) H (hset (hset (z :: G) o8 (.gr 29 4 (xs ++ [v]))) o9 (.gr 31 1 (es ++ [w]))) := by
  have la := hget_lt' c.a
  have lb := hget_lt' c.b
  have lx := hget_lt' c.x
  have le := hget_lt' c.e
  have up : ∀ {o : Nat},o < G.length → hget (z :: G) o = hget G o := fun {o} h => by unfold hget; rw [if_neg (by omega)]; cases G <;> rfl
  have l8 : o8 < (z :: G).length := by simp; omega
  have l9 : o9 < (hset (z :: G) o8 (.gr 29 4 (xs ++ [v]))).length := by rw [hset_len]; simp; omega
  refine ⟨?_,?_,?_,?_,?_,c.l8,c.l9,c.ne,c.a8,c.a9,c.b8,c.b9⟩
  · rw [hget_hset_ne c.a9,hget_hset_ne c.a8,up la]; exact c.a
  · rw [hget_hset_ne c.b9,hget_hset_ne c.b8,up lb]; exact c.b
  · rw [hget_hset_ne c.ne.symm,hget_hset l8]
  · rw [hget_hset l9]
  · obtain ⟨L,e⟩ := c.app
    obtain ⟨L1,e1⟩ := hset_app (z :: L) H o8 (.gr 29 4 (xs ++ [v])) c.l8
    rw [e,← List.cons_append,e1]
    exact hset_app L1 H o9 _ c.l9
/-- what a round asks of the heap -/
theorem CS.f {A B : IV} {pA pB o8 o9 : Nat} {xs es : List V} {H G : Hp} (c : CS A B pA pB o8 o9 xs es H G) :
    hget G pA = some (.box 29 [.d (.s A.a),.d (.s A.b),.d (.s A.c),.d (.s A.d)]) ∧ hget G pB = some (.box 29 [.d (.s B.a),.d (.s B.b),.d (.s B.c),.d (.s B.d)]) ∧ hget G o8 = some (.gr 29 4 xs) ∧ hget G o9 = some (.gr 31 1 es) ∧ ¬ pA = G.length ∧ ¬ pB = G.length ∧ ¬ o8 = G.length ∧ ¬ o9 = G.length ∧ ∀ Y,hget (hset G o8 Y) o9 = some (.gr 31 1 es) := by
  have ka := hget_lt' c.a
  have kb := hget_lt' c.b
  have kx := hget_lt' c.x
  have ke := hget_lt' c.e
  exact ⟨c.a,c.b,c.x,c.e,by omega,by omega,by omega,by omega,fun Y => by rw [hget_hset_ne c.ne]; exact c.e⟩
def clE (n : Int) (pA pB o8 o9 k : Nat) : En := [(2,.d (.i .i64 n)),(3,.p pA 0),(4,.p pB 0),(8,.gr o8 k),(9,.gr o9 k),(10,.d (.i .i64 k))]

theorem calls_r0 {A B r : IV} {pA pB o8 o9 : Nat} {xs es : List V} {H G : Hp} {n e : Int} (c : CS A B pA pB o8 o9 xs es H G) (hx : xs.length = 0) (he : es.length = 0)
    (hf : callV cS false (fnV 82) [.d (.agg [.s A.a,.s A.b,.s A.c,.s A.d]),.d (.agg [.s B.a,.s B.b,.s B.c,.s B.d])] (.box 29 [.d (.s []),.d (.s []),.d (.s []),.d (.s [])] :: G) = some (.val (.d (.tup [(.agg [.s r.a,.s r.b,.s r.c,.s r.d]),.i .i64 e])),.box 29 [.d (.s []),.d (.s []),.d (.s []),.d (.s [])] :: G)) :
    evI cS l31_0 none (clE n pA pB o8 o9 0) G = some (.nor,clE n pA pB o8 o9 1,hset (hset (.box 29 [.d (.s r.a),.d (.s r.b),.d (.s r.c),.d (.s r.d)] :: G) o8 (.gr 29 4 (xs ++ [.d (.agg [.s r.a,.s r.b,.s r.c,.s r.d])]))) o9 (.gr 31 1 (es ++ [.d (.i .i64 e)]))) := by
  have w : IntKind.i64.wrap 1 = 1 := wr64 (by omega) (by omega)
  simp [l31_0,clE,put,eset,eget,D.cells,V.cells,allD,hget,hset,fz,List.zipIdx_cons,List.zipIdx_nil,c.f,hf,hx,he,w,hset_len,evApp,elemsOf,allCells,allCellsD,setParts,chunk1,notGr]
theorem calls_r1 {A B r : IV} {pA pB o8 o9 : Nat} {xs es : List V} {H G : Hp} {n e : Int} (c : CS A B pA pB o8 o9 xs es H G) (hx : xs.length = 1) (he : es.length = 1)
    (hf : callV cS false (fnV 83) [.d (.agg [.s A.a,.s A.b,.s A.c,.s A.d]),.d (.agg [.s B.a,.s B.b,.s B.c,.s B.d])] (.box 29 [.d (.s []),.d (.s []),.d (.s []),.d (.s [])] :: G) = some (.val (.d (.tup [(.agg [.s r.a,.s r.b,.s r.c,.s r.d]),.i .i64 e])),.box 29 [.d (.s []),.d (.s []),.d (.s []),.d (.s [])] :: G)) :
    evI cS l31_0 none (clE n pA pB o8 o9 1) G = some (.nor,clE n pA pB o8 o9 2,hset (hset (.box 29 [.d (.s r.a),.d (.s r.b),.d (.s r.c),.d (.s r.d)] :: G) o8 (.gr 29 4 (xs ++ [.d (.agg [.s r.a,.s r.b,.s r.c,.s r.d])]))) o9 (.gr 31 1 (es ++ [.d (.i .i64 e)]))) := by
  have w : IntKind.i64.wrap 2 = 2 := wr64 (by omega) (by omega)
  simp [l31_0,clE,put,eset,eget,D.cells,V.cells,allD,hget,hset,fz,List.zipIdx_cons,List.zipIdx_nil,c.f,hf,hx,he,w,hset_len,evApp,elemsOf,allCells,allCellsD,setParts,chunk1,notGr]
theorem calls_r2 {A B r : IV} {pA pB o8 o9 : Nat} {xs es : List V} {H G : Hp} {n e : Int} (c : CS A B pA pB o8 o9 xs es H G) (hx : xs.length = 2) (he : es.length = 2)
    (hf : callV cS false (fnV 41) [.d (.agg [.s A.a,.s A.b,.s A.c,.s A.d]),.d (.agg [.s B.a,.s B.b,.s B.c,.s B.d])] (.box 29 [.d (.s []),.d (.s []),.d (.s []),.d (.s [])] :: G) = some (.val (.d (.tup [(.agg [.s r.a,.s r.b,.s r.c,.s r.d]),.i .i64 e])),.box 29 [.d (.s []),.d (.s []),.d (.s []),.d (.s [])] :: G)) :
    evI cS l31_0 none (clE n pA pB o8 o9 2) G = some (.nor,clE n pA pB o8 o9 3,hset (hset (.box 29 [.d (.s r.a),.d (.s r.b),.d (.s r.c),.d (.s r.d)] :: G) o8 (.gr 29 4 (xs ++ [.d (.agg [.s r.a,.s r.b,.s r.c,.s r.d])]))) o9 (.gr 31 1 (es ++ [.d (.i .i64 e)]))) := by
  have w : IntKind.i64.wrap 3 = 3 := wr64 (by omega) (by omega)
  simp [l31_0,clE,put,eset,eget,D.cells,V.cells,allD,hget,hset,fz,List.zipIdx_cons,List.zipIdx_nil,c.f,hf,hx,he,w,hset_len,evApp,elemsOf,allCells,allCellsD,setParts,chunk1,notGr]
theorem calls_r3 {A B r : IV} {pA pB o8 o9 : Nat} {xs es : List V} {H G : Hp} {n e : Int} (c : CS A B pA pB o8 o9 xs es H G) (hx : xs.length = 3) (he : es.length = 3)
    (hf : callV cS false (fnV 43) [.d (.agg [.s A.a,.s A.b,.s A.c,.s A.d]),.d (.agg [.s B.a,.s B.b,.s B.c,.s B.d])] (.box 29 [.d (.s []),.d (.s []),.d (.s []),.d (.s [])] :: G) = some (.val (.d (.tup [(.agg [.s r.a,.s r.b,.s r.c,.s r.d]),.i .i64 e])),.box 29 [.d (.s []),.d (.s []),.d (.s []),.d (.s [])] :: G)) :
    evI cS l31_0 none (clE n pA pB o8 o9 3) G = some (.nor,clE n pA pB o8 o9 4,hset (hset (.box 29 [.d (.s r.a),.d (.s r.b),.d (.s r.c),.d (.s r.d)] :: G) o8 (.gr 29 4 (xs ++ [.d (.agg [.s r.a,.s r.b,.s r.c,.s r.d])]))) o9 (.gr 31 1 (es ++ [.d (.i .i64 e)]))) := by
  have w : IntKind.i64.wrap 4 = 4 := wr64 (by omega) (by omega)
  simp [l31_0,clE,put,eset,eget,D.cells,V.cells,allD,hget,hset,fz,List.zipIdx_cons,List.zipIdx_nil,c.f,hf,hx,he,w,hset_len,evApp,elemsOf,allCells,allCellsD,setParts,chunk1,notGr]
theorem calls_r4 {A B r : IV} {pA pB o8 o9 : Nat} {xs es : List V} {H G : Hp} {n e : Int} (c : CS A B pA pB o8 o9 xs es H G) (hx : xs.length = 4) (he : es.length = 4)
    (hf : callV cS false (fnV 27) [.d (.agg [.s A.a,.s A.b,.s A.c,.s A.d]),.d (.agg [.s B.a,.s B.b,.s B.c,.s B.d])] (.box 29 [.d (.s []),.d (.s []),.d (.s []),.d (.s [])] :: G) = some (.val (.d (.tup [(.agg [.s r.a,.s r.b,.s r.c,.s r.d]),.i .i64 e])),.box 29 [.d (.s []),.d (.s []),.d (.s []),.d (.s [])] :: G)) :
    evI cS l31_0 none (clE n pA pB o8 o9 4) G = some (.nor,clE n pA pB o8 o9 5,hset (hset (.box 29 [.d (.s r.a),.d (.s r.b),.d (.s r.c),.d (.s r.d)] :: G) o8 (.gr 29 4 (xs ++ [.d (.agg [.s r.a,.s r.b,.s r.c,.s r.d])]))) o9 (.gr 31 1 (es ++ [.d (.i .i64 e)]))) := by
  have w : IntKind.i64.wrap 5 = 5 := wr64 (by omega) (by omega)
  simp [l31_0,clE,put,eset,eget,D.cells,V.cells,allD,hget,hset,fz,List.zipIdx_cons,List.zipIdx_nil,c.f,hf,hx,he,w,hset_len,evApp,elemsOf,allCells,allCellsD,setParts,chunk1,notGr]
theorem calls_r5 {A B r : IV} {pA pB o8 o9 : Nat} {xs es : List V} {H G : Hp} {n e : Int} (c : CS A B pA pB o8 o9 xs es H G) (hx : xs.length = 5) (he : es.length = 5)
    (hf : callV cS false (fnV 26) [.d (.agg [.s A.a,.s A.b,.s A.c,.s A.d]),.d (.agg [.s B.a,.s B.b,.s B.c,.s B.d])] (.box 29 [.d (.s []),.d (.s []),.d (.s []),.d (.s [])] :: G) = some (.val (.d (.tup [(.agg [.s r.a,.s r.b,.s r.c,.s r.d]),.i .i64 e])),.box 29 [.d (.s []),.d (.s []),.d (.s []),.d (.s [])] :: G)) :
    evI cS l31_0 none (clE n pA pB o8 o9 5) G = some (.nor,clE n pA pB o8 o9 6,hset (hset (.box 29 [.d (.s r.a),.d (.s r.b),.d (.s r.c),.d (.s r.d)] :: G) o8 (.gr 29 4 (xs ++ [.d (.agg [.s r.a,.s r.b,.s r.c,.s r.d])]))) o9 (.gr 31 1 (es ++ [.d (.i .i64 e)]))) := by
  have w : IntKind.i64.wrap 6 = 6 := wr64 (by omega) (by omega)
  simp [l31_0,clE,put,eset,eget,D.cells,V.cells,allD,hget,hset,fz,List.zipIdx_cons,List.zipIdx_nil,c.f,hf,hx,he,w,hset_len,evApp,elemsOf,allCells,allCellsD,setParts,chunk1,notGr]
theorem calls_r6 {A B r : IV} {pA pB o8 o9 : Nat} {xs es : List V} {H G : Hp} {n e : Int} (c : CS A B pA pB o8 o9 xs es H G) (hx : xs.length = 6) (he : es.length = 6)
    (hf : callV cS false (fnV 22) [.d (.agg [.s A.a,.s A.b,.s A.c,.s A.d]),.d (.i .i64 n)] (.box 29 [.d (.s []),.d (.s []),.d (.s []),.d (.s [])] :: G) = some (.val (.d (.tup [(.agg [.s r.a,.s r.b,.s r.c,.s r.d]),.i .i64 e])),.box 29 [.d (.s []),.d (.s []),.d (.s []),.d (.s [])] :: G)) :
    evI cS l31_0 none (clE n pA pB o8 o9 6) G = some (.nor,clE n pA pB o8 o9 7,hset (hset (.box 29 [.d (.s r.a),.d (.s r.b),.d (.s r.c),.d (.s r.d)] :: G) o8 (.gr 29 4 (xs ++ [.d (.agg [.s r.a,.s r.b,.s r.c,.s r.d])]))) o9 (.gr 31 1 (es ++ [.d (.i .i64 e)]))) := by
  have w : IntKind.i64.wrap 7 = 7 := wr64 (by omega) (by omega)
  simp [l31_0,clE,put,eset,eget,D.cells,V.cells,allD,hget,hset,fz,List.zipIdx_cons,List.zipIdx_nil,c.f,hf,hx,he,w,hset_len,evApp,elemsOf,allCells,allCellsD,setParts,chunk1,notGr]
theorem calls_r7 {A B r : IV} {pA pB o8 o9 : Nat} {xs es : List V} {H G : Hp} {n e : Int} (c : CS A B pA pB o8 o9 xs es H G) (hx : xs.length = 7) (he : es.length = 7)
    (hf : callV cS false (fnV 14) [.d (.agg [.s A.a,.s A.b,.s A.c,.s A.d]),.d (.i .i64 n)] (.box 29 [.d (.s []),.d (.s []),.d (.s []),.d (.s [])] :: G) = some (.val (.d (.tup [(.agg [.s r.a,.s r.b,.s r.c,.s r.d]),.i .i64 e])),.box 29 [.d (.s []),.d (.s []),.d (.s []),.d (.s [])] :: G)) :
    evI cS l31_0 none (clE n pA pB o8 o9 7) G = some (.nor,clE n pA pB o8 o9 8,hset (hset (.box 29 [.d (.s r.a),.d (.s r.b),.d (.s r.c),.d (.s r.d)] :: G) o8 (.gr 29 4 (xs ++ [.d (.agg [.s r.a,.s r.b,.s r.c,.s r.d])]))) o9 (.gr 31 1 (es ++ [.d (.i .i64 e)]))) := by
  have w : IntKind.i64.wrap 8 = 8 := wr64 (by omega) (by omega)
  simp [l31_0,clE,put,eset,eget,D.cells,V.cells,allD,hget,hset,fz,List.zipIdx_cons,List.zipIdx_nil,c.f,hf,hx,he,w,hset_len,evApp,elemsOf,allCells,allCellsD,setParts,chunk1,notGr]
theorem calls_end {pA pB o8 o9 : Nat} {G : Hp} {n : Int} : evI cS l31_0 none (clE n pA pB o8 o9 8) G = some (.ex 0,clE n pA pB o8 o9 8 ++ [(14,.d (.b false))],G) := by
  simp [l31_0,clE,put,eset,eget,D.cells,V.cells,allD,hget,hset,fz,List.zipIdx_cons,List.zipIdx_nil]
/-- a list of data, frozen -/
theorem omap_d (h : Hp) (n k : Nat) : ∀ (ds : List D),omap (fz h n (k + 1)) (ds.map .d) = some ds
  | [] => rfl
  | d :: ds => by
    rw [List.map_cons]
    unfold omap
    rw [omap_d h n k ds]
    simp [fz]
theorem fin_two {H G : Hp} {o8 o9 : Nat} {t8 s8 t9 s9 : Nat} {ds es : List D} (g8 : hget G o8 = some (.gr t8 s8 (ds.map .d))) (g9 : hget G o9 = some (.gr t9 s9 (es.map .d))) (h8 : H.length ≤ o8) (h9 : H.length ≤ o9) (happ : ∃ L,G = L ++ H) :
    fin false H (.ret (.tup [.gr o8 ds.length,.gr o9 es.length]),G) = some (.val (.d (.tup [.ls ds,.ls es])),H) := by
  have k8 : ¬ o8 < H.length := by omega
  have k9 : ¬ o9 < H.length := by omega
  have hz : fz G H.length 8 (.tup [.gr o8 ds.length,.gr o9 es.length]) = some (.tup [.ls ds,.ls es]) := by
    have e8 : fz G H.length 7 (.gr o8 ds.length) = some (.ls ds) := by
      unfold fz
      rw [if_neg k8,g8]
      simp only [List.length_map,if_true]
      rw [omap_d]
    have e9 : fz G H.length 7 (.gr o9 es.length) = some (.ls es) := by
      unfold fz
      rw [if_neg k9,g9]
      simp only [List.length_map,if_true]
      rw [omap_d]
    unfold fz
    simp only [omap,e8,e9]
  obtain ⟨L,rfl⟩ := happ
  simp only [fin,Bool.false_eq_true,if_false,hz]
  rw [if_pos ⟨by simp,HOk_app L H⟩,trunc_app]
theorem calls_ok {A B r0 r1 r2 r3 r4 r5 r6 r7 : IV} {n e0 e1 e2 e3 e4 e5 e6 e7 : Int} {H : Hp} {o : EO} (hG : Glb H) (hE : ErrAt H o)
    (f0 : ∀ h,Glb h → ErrAt h o → callV cS false (fnV 82) [.d (.agg [.s A.a,.s A.b,.s A.c,.s A.d]),.d (.agg [.s B.a,.s B.b,.s B.c,.s B.d])] h = some (.val (.d (.tup [(.agg [.s r0.a,.s r0.b,.s r0.c,.s r0.d]),.i .i64 e0])),h))
    (f1 : ∀ h,Glb h → ErrAt h o → callV cS false (fnV 83) [.d (.agg [.s A.a,.s A.b,.s A.c,.s A.d]),.d (.agg [.s B.a,.s B.b,.s B.c,.s B.d])] h = some (.val (.d (.tup [(.agg [.s r1.a,.s r1.b,.s r1.c,.s r1.d]),.i .i64 e1])),h))
    (f2 : ∀ h,Glb h → ErrAt h o → callV cS false (fnV 41) [.d (.agg [.s A.a,.s A.b,.s A.c,.s A.d]),.d (.agg [.s B.a,.s B.b,.s B.c,.s B.d])] h = some (.val (.d (.tup [(.agg [.s r2.a,.s r2.b,.s r2.c,.s r2.d]),.i .i64 e2])),h))
    (f3 : ∀ h,Glb h → ErrAt h o → callV cS false (fnV 43) [.d (.agg [.s A.a,.s A.b,.s A.c,.s A.d]),.d (.agg [.s B.a,.s B.b,.s B.c,.s B.d])] h = some (.val (.d (.tup [(.agg [.s r3.a,.s r3.b,.s r3.c,.s r3.d]),.i .i64 e3])),h))
    (f4 : ∀ h,Glb h → ErrAt h o → callV cS false (fnV 27) [.d (.agg [.s A.a,.s A.b,.s A.c,.s A.d]),.d (.agg [.s B.a,.s B.b,.s B.c,.s B.d])] h = some (.val (.d (.tup [(.agg [.s r4.a,.s r4.b,.s r4.c,.s r4.d]),.i .i64 e4])),h))
    (f5 : ∀ h,Glb h → ErrAt h o → callV cS false (fnV 26) [.d (.agg [.s A.a,.s A.b,.s A.c,.s A.d]),.d (.agg [.s B.a,.s B.b,.s B.c,.s B.d])] h = some (.val (.d (.tup [(.agg [.s r5.a,.s r5.b,.s r5.c,.s r5.d]),.i .i64 e5])),h))
    (f6 : ∀ h,Glb h → ErrAt h o → callV cS false (fnV 22) [.d (.agg [.s A.a,.s A.b,.s A.c,.s A.d]),.d (.i .i64 n)] h = some (.val (.d (.tup [(.agg [.s r6.a,.s r6.b,.s r6.c,.s r6.d]),.i .i64 e6])),h))
    (f7 : ∀ h,Glb h → ErrAt h o → callV cS false (fnV 14) [.d (.agg [.s A.a,.s A.b,.s A.c,.s A.d]),.d (.i .i64 n)] h = some (.val (.d (.tup [(.agg [.s r7.a,.s r7.b,.s r7.c,.s r7.d]),.i .i64 e7])),h)) :
    callV cS false (fnV 31) [.d (.agg [.s A.a,.s A.b,.s A.c,.s A.d]),.d (.agg [.s B.a,.s B.b,.s B.c,.s B.d]),.d (.i .i64 n)] H = some (.val (.d (.tup [.ls [(.agg [.s r0.a,.s r0.b,.s r0.c,.s r0.d]),(.agg [.s r1.a,.s r1.b,.s r1.c,.s r1.d]),(.agg [.s r2.a,.s r2.b,.s r2.c,.s r2.d]),(.agg [.s r3.a,.s r3.b,.s r3.c,.s r3.d]),(.agg [.s r4.a,.s r4.b,.s r4.c,.s r4.d]),(.agg [.s r5.a,.s r5.b,.s r5.c,.s r5.d]),(.agg [.s r6.a,.s r6.b,.s r6.c,.s r6.d]),(.agg [.s r7.a,.s r7.b,.s r7.c,.s r7.d])],.ls [.i .i64 e0,.i .i64 e1,.i .i64 e2,.i .i64 e3,.i .i64 e4,.i .i64 e5,.i .i64 e6,.i .i64 e7]])),H) := by
  rw [callV_fn (sf := c31) rfl rfl rfl rfl]
  obtain ⟨G,eG⟩ : ∃ G : Hp,G = .gr 31 1 [] :: .gr 29 4 [] :: .gr 31 1 [] :: .gr 29 4 [] :: .box 29 [.d (.s B.a),.d (.s B.b),.d (.s B.c),.d (.s B.d)] :: .box 29 [.d (.s A.a),.d (.s A.b),.d (.s A.c),.d (.s A.d)] :: H := ⟨_,rfl⟩
  have c0 : CS A B H.length (H.length + 1) (H.length + 1 + 1 + 1 + 1) (H.length + 1 + 1 + 1 + 1 + 1) [] [] H G := by
    subst eG
    refine ⟨by simp [put,eset,eget,D.cells,V.cells,allD,hget,hset,fz,List.zipIdx_cons,List.zipIdx_nil],by simp [put,eset,eget,D.cells,V.cells,allD,hget,hset,fz,List.zipIdx_cons,List.zipIdx_nil],by simp [put,eset,eget,D.cells,V.cells,allD,hget,hset,fz,List.zipIdx_cons,List.zipIdx_nil],by simp [put,eset,eget,D.cells,V.cells,allD,hget,hset,fz,List.zipIdx_cons,List.zipIdx_nil],⟨[_,_,_,_,_,_],rfl⟩,by omega,by omega,by omega,by omega,by omega,by omega,by omega⟩
  have q0 := calls_r0 (n := n) c0 (by simp) (by simp) (f0 _ ((c0.over.cons).glb hG) ((c0.over.cons).err hE))
  have c1 := c0.next (.box 29 [.d (.s r0.a),.d (.s r0.b),.d (.s r0.c),.d (.s r0.d)]) (.d (.agg [.s r0.a,.s r0.b,.s r0.c,.s r0.d])) (.d (.i .i64 e0))
  simp only [List.nil_append,List.cons_append] at q0 c1
  generalize hset (hset (.box 29 [.d (.s r0.a),.d (.s r0.b),.d (.s r0.c),.d (.s r0.d)] :: G) _ _) _ _ = G1 at q0 c1
  have q1 := calls_r1 (n := n) c1 (by simp) (by simp) (f1 _ ((c1.over.cons).glb hG) ((c1.over.cons).err hE))
  have c2 := c1.next (.box 29 [.d (.s r1.a),.d (.s r1.b),.d (.s r1.c),.d (.s r1.d)]) (.d (.agg [.s r1.a,.s r1.b,.s r1.c,.s r1.d])) (.d (.i .i64 e1))
  simp only [List.nil_append,List.cons_append] at q1 c2
  generalize hset (hset (.box 29 [.d (.s r1.a),.d (.s r1.b),.d (.s r1.c),.d (.s r1.d)] :: G1) _ _) _ _ = G2 at q1 c2
  have q2 := calls_r2 (n := n) c2 (by simp) (by simp) (f2 _ ((c2.over.cons).glb hG) ((c2.over.cons).err hE))
  have c3 := c2.next (.box 29 [.d (.s r2.a),.d (.s r2.b),.d (.s r2.c),.d (.s r2.d)]) (.d (.agg [.s r2.a,.s r2.b,.s r2.c,.s r2.d])) (.d (.i .i64 e2))
  simp only [List.nil_append,List.cons_append] at q2 c3
  generalize hset (hset (.box 29 [.d (.s r2.a),.d (.s r2.b),.d (.s r2.c),.d (.s r2.d)] :: G2) _ _) _ _ = G3 at q2 c3
  have q3 := calls_r3 (n := n) c3 (by simp) (by simp) (f3 _ ((c3.over.cons).glb hG) ((c3.over.cons).err hE))
  have c4 := c3.next (.box 29 [.d (.s r3.a),.d (.s r3.b),.d (.s r3.c),.d (.s r3.d)]) (.d (.agg [.s r3.a,.s r3.b,.s r3.c,.s r3.d])) (.d (.i .i64 e3))
  simp only [List.nil_append,List.cons_append] at q3 c4
  generalize hset (hset (.box 29 [.d (.s r3.a),.d (.s r3.b),.d (.s r3.c),.d (.s r3.d)] :: G3) _ _) _ _ = G4 at q3 c4
  have q4 := calls_r4 (n := n) c4 (by simp) (by simp) (f4 _ ((c4.over.cons).glb hG) ((c4.over.cons).err hE))
  have c5 := c4.next (.box 29 [.d (.s r4.a),.d (.s r4.b),.d (.s r4.c),.d (.s r4.d)]) (.d (.agg [.s r4.a,.s r4.b,.s r4.c,.s r4.d])) (.d (.i .i64 e4))
  simp only [List.nil_append,List.cons_append] at q4 c5
  generalize hset (hset (.box 29 [.d (.s r4.a),.d (.s r4.b),.d (.s r4.c),.d (.s r4.d)] :: G4) _ _) _ _ = G5 at q4 c5
  have q5 := calls_r5 (n := n) c5 (by simp) (by simp) (f5 _ ((c5.over.cons).glb hG) ((c5.over.cons).err hE))
  have c6 := c5.next (.box 29 [.d (.s r5.a),.d (.s r5.b),.d (.s r5.c),.d (.s r5.d)]) (.d (.agg [.s r5.a,.s r5.b,.s r5.c,.s r5.d])) (.d (.i .i64 e5))
  simp only [List.nil_append,List.cons_append] at q5 c6
  generalize hset (hset (.box 29 [.d (.s r5.a),.d (.s r5.b),.d (.s r5.c),.d (.s r5.d)] :: G5) _ _) _ _ = G6 at q5 c6
  have q6 := calls_r6 (n := n) c6 (by simp) (by simp) (f6 _ ((c6.over.cons).glb hG) ((c6.over.cons).err hE))
  have c7 := c6.next (.box 29 [.d (.s r6.a),.d (.s r6.b),.d (.s r6.c),.d (.s r6.d)]) (.d (.agg [.s r6.a,.s r6.b,.s r6.c,.s r6.d])) (.d (.i .i64 e6))
  simp only [List.nil_append,List.cons_append] at q6 c7
  generalize hset (hset (.box 29 [.d (.s r6.a),.d (.s r6.b),.d (.s r6.c),.d (.s r6.d)] :: G6) _ _) _ _ = G7 at q6 c7
  have q7 := calls_r7 (n := n) c7 (by simp) (by simp) (f7 _ ((c7.over.cons).glb hG) ((c7.over.cons).err hE))
  have c8 := c7.next (.box 29 [.d (.s r7.a),.d (.s r7.b),.d (.s r7.c),.d (.s r7.d)]) (.d (.agg [.s r7.a,.s r7.b,.s r7.c,.s r7.d])) (.d (.i .i64 e7))
  simp only [List.nil_append,List.cons_append] at q7 c8
  generalize hset (hset (.box 29 [.d (.s r7.a),.d (.s r7.b),.d (.s r7.c),.d (.s r7.d)] :: G7) _ _) _ _ = G8 at q7 c8
  have q8 := calls_end (G := G8) (n := n) (pA := H.length) (pB := H.length + 1) (o8 := H.length + 1 + 1 + 1 + 1) (o9 := H.length + 1 + 1 + 1 + 1 + 1)
  have lp : evI cS (.loop l31_0) none (clE n H.length (H.length + 1) (H.length + 1 + 1 + 1 + 1) (H.length + 1 + 1 + 1 + 1 + 1) 0) G = some (.ex 0,clE n H.length (H.length + 1) (H.length + 1 + 1 + 1 + 1) (H.length + 1 + 1 + 1 + 1 + 1) 8 ++ [(14,.d (.b false))],G8) := by
    rw [evI_loop,q0]
    simp only [thenR]
    rw [evI_loop,q1]
    simp only [thenR]
    rw [evI_loop,q2]
    simp only [thenR]
    rw [evI_loop,q3]
    simp only [thenR]
    rw [evI_loop,q4]
    simp only [thenR]
    rw [evI_loop,q5]
    simp only [thenR]
    rw [evI_loop,q6]
    simp only [thenR]
    rw [evI_loop,q7]
    simp only [thenR]
    rw [evI_loop,q8]
    rfl
  have hf := fin_two (H := H) (G := G8) (ds := [(.agg [.s r0.a,.s r0.b,.s r0.c,.s r0.d]),(.agg [.s r1.a,.s r1.b,.s r1.c,.s r1.d]),(.agg [.s r2.a,.s r2.b,.s r2.c,.s r2.d]),(.agg [.s r3.a,.s r3.b,.s r3.c,.s r3.d]),(.agg [.s r4.a,.s r4.b,.s r4.c,.s r4.d]),(.agg [.s r5.a,.s r5.b,.s r5.c,.s r5.d]),(.agg [.s r6.a,.s r6.b,.s r6.c,.s r6.d]),(.agg [.s r7.a,.s r7.b,.s r7.c,.s r7.d])]) (es := [.i .i64 e0,.i .i64 e1,.i .i64 e2,.i .i64 e3,.i .i64 e4,.i .i64 e5,.i .i64 e6,.i .i64 e7]) c8.x c8.e c8.l8 c8.l9 c8.app
  rw [eG] at lp
  simp only [clE,Int.natCast_zero,show ((0 : Nat) : Int) = 0 from rfl,show ((8 : Nat) : Int) = 8 from rfl,List.cons_append,List.nil_append] at lp
  simp only [List.length_cons,List.length_nil] at hf
  simp [c31,b31,put,eset,eget,D.cells,V.cells,allD,hget,hset,fz,List.zipIdx_cons,List.zipIdx_nil,lp]
  exact hf
end Go.Proofs.YtmiioebapckcoaaGreatDoor
end
section
/- Operations of intervals with small ends: what they answer. -/
namespace Go.Proofs.YtmiioebapckcoaaGreatDoor
open Go Num
set_option maxRecDepth 4000

section
variable {a1 a2 b1 b2 : Rat} (ha1 : S3 a1) (ha2 : S3 a2) (hb1 : S3 b1) (hb2 : S3 b2) (la : a1 ≤ a2) (lb : b1 ≤ b2)
include ha1 ha2 hb1 hb2 la lb
theorem EAdd_val {h : Hp} {o : EO} (g : Glb h) (e : ErrAt h o) : callV cS false (fnV 82) [.d (qV a1 a2).D,.d (qV b1 b2).D] h = some (.val (.d (.tup [(qV (a1 + b1) (a2 + b2)).D,.i .i64 0])),h) := by
  rw [EAdd_ok _ _ g e]
  have hx : addX (qV a1 a2) (qV b1 b2) = some (dI4 (a1 + b1) (a2 + b2)) := by
    unfold addX
    rw [VQ_qV ha1.fits ha2.fits la,VQ_qV hb1.fits hb2.fits lb]
    simp only [(add_s3 ha1 hb1).2.1,(add_s3 ha2 hb2).2.1,pairO]
  rw [hx,workD_two (qV_ok ha1.fits ha2.fits la) (qV_ok hb1.fits hb2.fits lb)]
  rfl
theorem ESub_val {h : Hp} {o : EO} (g : Glb h) (e : ErrAt h o) : callV cS false (fnV 83) [.d (qV a1 a2).D,.d (qV b1 b2).D] h = some (.val (.d (.tup [(qV (a1 - b2) (a2 - b1)).D,.i .i64 0])),h) := by
  rw [ESub_ok _ _ g e]
  have hx : subX (qV a1 a2) (qV b1 b2) = some (dI4 (a1 - b2) (a2 - b1)) := by
    unfold subX
    rw [VQ_qV ha1.fits ha2.fits la,VQ_qV hb1.fits hb2.fits lb]
    simp only [(sub_s3 ha1 hb2).2.1,(sub_s3 ha2 hb1).2.1,pairO]
  rw [hx,workD_two (qV_ok ha1.fits ha2.fits la) (qV_ok hb1.fits hb2.fits lb)]
  rfl
theorem EMul_val {h : Hp} {o : EO} (g : Glb h) (e : ErrAt h o) : callV cS false (fnV 41) [.d (qV a1 a2).D,.d (qV b1 b2).D] h = some (.val (.d (.tup [(qV (min4 (a1 * b1) (a1 * b2) (a2 * b1) (a2 * b2)) (max4 (a1 * b1) (a1 * b2) (a2 * b1) (a2 * b2))).D,.i .i64 0])),h) := by
  rw [EMul_ok _ _ g e]
  have hx : mulX (qV a1 a2) (qV b1 b2) = some (dI4 (min4 (a1 * b1) (a1 * b2) (a2 * b1) (a2 * b2)) (max4 (a1 * b1) (a1 * b2) (a2 * b1) (a2 * b2))) := by
    unfold mulX
    rw [VQ_qV ha1.fits ha2.fits la,VQ_qV hb1.fits hb2.fits lb]
    simp only [endsO,(mul_s3 ha1 hb1).2.1,(mul_s3 ha1 hb2).2.1,(mul_s3 ha2 hb1).2.1,(mul_s3 ha2 hb2).2.1]
    rfl
  rw [hx,workD_two (qV_ok ha1.fits ha2.fits la) (qV_ok hb1.fits hb2.fits lb)]
  rfl
theorem EDiv_val (h0 : ¬ (b1 ≤ 0 ∧ 0 ≤ b2)) {h : Hp} {o : EO} (g : Glb h) (e : ErrAt h o) : callV cS false (fnV 43) [.d (qV a1 a2).D,.d (qV b1 b2).D] h = some (.val (.d (.tup [(qV (min4 (a1 / b1) (a1 / b2) (a2 / b1) (a2 / b2)) (max4 (a1 / b1) (a1 / b2) (a2 / b1) (a2 / b2))).D,.i .i64 0])),h) := by
  rw [EDiv_ok _ _ g e]
  have n1 : b1 ≠ 0 := by grind
  have n2 : b2 ≠ 0 := by grind
  have hx : divX (qV a1 a2) (qV b1 b2) = some (dI4 (min4 (a1 / b1) (a1 / b2) (a2 / b1) (a2 / b2)) (max4 (a1 / b1) (a1 / b2) (a2 / b1) (a2 / b2))) := by
    unfold divX
    rw [VQ_qV ha1.fits ha2.fits la,VQ_qV hb1.fits hb2.fits lb]
    simp only [cmpQ_le]
    rw [if_neg h0]
    simp only [endsO,(div_s3 ha1 hb1 n1).2.1,(div_s3 ha1 hb2 n2).2.1,(div_s3 ha2 hb1 n1).2.1,(div_s3 ha2 hb2 n2).2.1]
    rfl
  rw [hx,workD_two (qV_ok ha1.fits ha2.fits la) (qV_ok hb1.fits hb2.fits lb)]
  rfl
theorem EDiv_zero (h0 : b1 ≤ 0 ∧ 0 ≤ b2) {h : Hp} {o : EO} (g : Glb h) (e : ErrAt h o) : callV cS false (fnV 43) [.d (qV a1 a2).D,.d (qV b1 b2).D] h = some (.val (.d errV),h) := by
  rw [EDiv_ok _ _ g e]
  have hx : divX (qV a1 a2) (qV b1 b2) = none := by
    unfold divX
    rw [VQ_qV ha1.fits ha2.fits la,VQ_qV hb1.fits hb2.fits lb]
    simp only [cmpQ_le]
    rw [if_pos h0]
  rw [hx,workD_none]
end
/-- an operation's answer, whatever it is -/
theorem work_any {l : List IV} {x : Option D} (hx : ∀ z,x = some z → ∃ s t u v,z = .agg [.s s,.s t,.s u,.s v]) : ∃ (r : IV) (e : Int),workD l x = .tup [r.D,.i .i64 e] := by
  obtain ⟨s,t,u,v,e,h⟩ := workD_form (l := l) hx
  exact ⟨⟨s,t,u,v⟩,e,h⟩
end Go.Proofs.YtmiioebapckcoaaGreatDoor
end
section
/- Products, quotients, roots and roundings grow with their intervals. -/
namespace Go.Proofs.YtmiioebapckcoaaGreatDoor
open Go Num
set_option maxRecDepth 4000

theorem mul_pos_le {p q y : Rat} (h : p ≤ q) (hy : 0 ≤ y) : p * y ≤ q * y := Rat.mul_le_mul_of_nonneg_right h hy
theorem mul_neg_le {p q y : Rat} (h : p ≤ q) (hy : y ≤ 0) : q * y ≤ p * y := by
  have h1 := Rat.mul_le_mul_of_nonneg_right h (show 0 ≤ -y by grind)
  grind
/-- a product lies between a product with one end and one with the other -/
theorem mul_between {c1 c2 x y : Rat} (h1 : c1 ≤ x) (h2 : x ≤ c2) : (c1 * y ≤ x * y ∧ x * y ≤ c2 * y) ∨ (c2 * y ≤ x * y ∧ x * y ≤ c1 * y) := by
  by_cases hy : 0 ≤ y
  · exact .inl ⟨mul_pos_le h1 hy,mul_pos_le h2 hy⟩
  · have hy' : y ≤ 0 := by grind
    exact .inr ⟨mul_neg_le h2 hy',mul_neg_le h1 hy'⟩
theorem prod_in {c1 c2 d1 d2 x y : Rat} (h1 : c1 ≤ x) (h2 : x ≤ c2) (k1 : d1 ≤ y) (k2 : y ≤ d2) :
    min4 (c1 * d1) (c1 * d2) (c2 * d1) (c2 * d2) ≤ x * y ∧ x * y ≤ max4 (c1 * d1) (c1 * d2) (c2 * d1) (c2 * d2) := by
  obtain ⟨l0,l1,l2,l3⟩ := min4_le (c1 * d1) (c1 * d2) (c2 * d1) (c2 * d2)
  obtain ⟨u0,u1,u2,u3⟩ := max4_ge (c1 * d1) (c1 * d2) (c2 * d1) (c2 * d2)
  have hx := mul_between (y := y) h1 h2
  have hc1 := mul_between (y := c1) k1 k2
  have hc2 := mul_between (y := c2) k1 k2
  rw [Rat.mul_comm d1 c1,Rat.mul_comm d2 c1,Rat.mul_comm y c1] at hc1
  rw [Rat.mul_comm d1 c2,Rat.mul_comm d2 c2,Rat.mul_comm y c2] at hc2
  generalize min4 (c1 * d1) (c1 * d2) (c2 * d1) (c2 * d2) = mn at *
  generalize max4 (c1 * d1) (c1 * d2) (c2 * d1) (c2 * d2) = mx at *
  generalize c1 * d1 = p1 at *
  generalize c1 * d2 = p2 at *
  generalize c2 * d1 = p3 at *
  generalize c2 * d2 = p4 at *
  generalize c1 * y = p5 at *
  generalize c2 * y = p6 at *
  generalize x * y = p7 at *
  grind
theorem inv_anti {p q : Rat} (hp : 0 < p) (h : p ≤ q) : q⁻¹ ≤ p⁻¹ := by
  have hq : 0 < q := Std.lt_of_lt_of_le hp h
  have h1 : 0 < p⁻¹ := Rat.inv_pos.2 hp
  have h2 : 0 < q⁻¹ := Rat.inv_pos.2 hq
  have e1 : p * p⁻¹ = 1 := Rat.mul_inv_cancel p (by grind)
  have e2 : q * q⁻¹ = 1 := Rat.mul_inv_cancel q (by grind)
  have k := Rat.mul_le_mul_of_nonneg_right (Rat.mul_le_mul_of_nonneg_right h (show 0 ≤ p⁻¹ by grind)) (show 0 ≤ q⁻¹ by grind)
  rw [e1,Rat.one_mul,Rat.mul_comm q p⁻¹,Rat.mul_assoc,e2,Rat.mul_one] at k
  exact k
theorem quot_in {c1 c2 d1 d2 x y : Rat} (h1 : c1 ≤ x) (h2 : x ≤ c2) (k1 : d1 ≤ y) (k2 : y ≤ d2) (h0 : ¬ (d1 ≤ 0 ∧ 0 ≤ d2)) :
    min4 (c1 / d1) (c1 / d2) (c2 / d1) (c2 / d2) ≤ x / y ∧ x / y ≤ max4 (c1 / d1) (c1 / d2) (c2 / d1) (c2 / d2) := by
  have hi : d2⁻¹ ≤ y⁻¹ ∧ y⁻¹ ≤ d1⁻¹ := by
    by_cases hp : 0 < d1
    · exact ⟨inv_anti (Std.lt_of_lt_of_le hp k1) k2,inv_anti hp k1⟩
    · have hn : d2 < 0 := by grind
      have a1 := inv_anti (p := -d2) (q := -y) (by grind) (by grind)
      have a2 := inv_anti (p := -y) (q := -d1) (by grind) (by grind)
      have e : ∀ a : Rat,(-a)⁻¹ = -a⁻¹ := fun a => by grind
      rw [e,e] at a1 a2
      exact ⟨by grind,by grind⟩
  have h := prod_in h1 h2 hi.1 hi.2
  simp only [Rat.div_def]
  obtain ⟨l0,l1,l2,l3⟩ := min4_le (c1 * d1⁻¹) (c1 * d2⁻¹) (c2 * d1⁻¹) (c2 * d2⁻¹)
  obtain ⟨u0,u1,u2,u3⟩ := max4_ge (c1 * d1⁻¹) (c1 * d2⁻¹) (c2 * d1⁻¹) (c2 * d2⁻¹)
  have m1 := min4_mem (c1 * d2⁻¹) (c1 * d1⁻¹) (c2 * d2⁻¹) (c2 * d1⁻¹)
  have m2 := max4_mem (c1 * d2⁻¹) (c1 * d1⁻¹) (c2 * d2⁻¹) (c2 * d1⁻¹)
  grind
/-! roundings -/
theorem fdiv_mono {x P y Q : Int} (hP : 0 < P) (hQ : 0 < Q) (h : x * Q ≤ y * P) : x / P ≤ y / Q := by
  rw [Int.le_ediv_iff_mul_le hQ]
  have h1 : x / P * P ≤ x := Int.ediv_mul_le x (by omega)
  have h2 := Int.mul_le_mul_of_nonneg_right h1 (show 0 ≤ Q by omega)
  refine Int.le_of_mul_le_mul_right (a := P) ?_ hP
  have e : x / P * Q * P = x / P * P * Q := by rw [Int.mul_assoc,Int.mul_assoc,Int.mul_comm Q P]
  omega
theorem cross_mul {p q : Rat} (h : p ≤ q) {t : Int} (ht : 0 ≤ t) : p.num * t * q.den ≤ q.num * t * p.den := by
  have hc : p.num * q.den ≤ q.num * p.den := (Rat.le_iff _ _).1 h
  have := Int.mul_le_mul_of_nonneg_right hc ht
  rw [Int.mul_right_comm,Int.mul_right_comm q.num]
  exact this
theorem rdQ_mono {up : Bool} {n : Int} {p q : Rat} (h : p ≤ q) : rdQ up n p ≤ rdQ up n q := by
  have hT := tenP_pos n
  unfold rdQ
  rw [divInt_le hT hT]
  refine Int.mul_le_mul_of_nonneg_right ?_ (by omega)
  have hp := den_pos p
  have hq := den_pos q
  have hc := cross_mul h (show 0 ≤ tenP n by omega)
  cases up with
  | false =>
    have := fdiv_mono hp hq hc
    simpa [rdI] using this
  | true =>
    obtain ⟨a1,a2⟩ := rdI_up (p.num * tenP n) hp
    obtain ⟨b1,b2⟩ := rdI_up (q.num * tenP n) hq
    generalize rdI true (p.num * tenP n) p.den = a at *
    generalize rdI true (q.num * tenP n) q.den = b at *
    generalize p.num * tenP n = x at *
    generalize q.num * tenP n = y at *
    have h1 := Int.mul_lt_mul_of_pos_right a2 hq
    have h2 := Int.mul_le_mul_of_nonneg_right b1 (show 0 ≤ (p.den : Int) by omega)
    have h3 : (a - 1) * p.den * q.den < b * q.den * p.den := by omega
    rw [Int.mul_right_comm] at h3
    have h4 : (a - 1) * (q.den * p.den) < b * (q.den * p.den) := by rw [← Int.mul_assoc,← Int.mul_assoc]; exact h3
    have h5 := Int.lt_of_mul_lt_mul_right h4 (Int.le_of_lt (Int.mul_pos hq hp))
    omega
theorem sq_le {x y : Int} (h0 : 0 ≤ x) (h : x ≤ y) : x * x ≤ y * y := Int.mul_le_mul h h h0 (by omega)
theorem rootK_mono {T : Int} {p q : Rat} (h : p ≤ q) : p.num * T * T / p.den ≤ q.num * T * T / q.den := by
  have hs : 0 ≤ T * T := by
    by_cases h : 0 ≤ T
    · exact Int.mul_nonneg h h
    · have := Int.mul_nonneg (a := -T) (b := -T) (by omega) (by omega)
      rwa [Int.neg_mul_neg] at this
  rw [Int.mul_assoc,Int.mul_assoc]
  exact fdiv_mono (den_pos p) (den_pos q) (cross_mul h hs)
theorem rootM_mono {T : Int} {p q : Rat} (p0 : 0 ≤ p.num) (q0 : 0 ≤ q.num) (h : p ≤ q) : rootM T p ≤ rootM T q := by
  obtain ⟨s0,s1,s2⟩ := rootM_sq (T := T) p0
  obtain ⟨t0,t1,t2⟩ := rootM_sq (T := T) q0
  have hk := rootK_mono (T := T) h
  refine Int.not_lt.1 fun hc => ?_
  have := sq_le (x := rootM T q + 1) (y := rootM T p) (by omega) (by omega)
  omega
theorem rootHi_mono {T : Int} {p q : Rat} (p0 : 0 ≤ p.num) (q0 : 0 ≤ q.num) (h : p ≤ q) : rootHi T p ≤ rootHi T q := by
  obtain ⟨s0,s1,s2⟩ := rootM_sq (T := T) p0
  obtain ⟨t0,t1,t2⟩ := rootM_sq (T := T) q0
  have hm := rootM_mono (T := T) p0 q0 h
  have hk := rootK_mono (T := T) h
  unfold rootHi
  by_cases hE : rootE T q = true
  · rw [if_pos hE]
    by_cases he : rootM T p = rootM T q
    · have hp : rootE T p = true := by
        unfold rootE at hE ⊢
        simp only [Bool.and_eq_true,decide_eq_true_eq] at hE ⊢
        obtain ⟨r0,m0⟩ := hE
        have k1 : p.num * T * T / p.den = rootM T p * rootM T p := by rw [he] at s1 ⊢; omega
        refine ⟨?_,k1.symm⟩
        have hs : 0 ≤ T * T := by
          by_cases h : 0 ≤ T
          · exact Int.mul_nonneg h h
          · have := Int.mul_nonneg (a := -T) (b := -T) (by omega) (by omega)
            rwa [Int.neg_mul_neg] at this
        have hc := cross_mul h hs
        rw [← Int.mul_assoc,← Int.mul_assoc] at hc
        have dp := den_pos p
        have dq := den_pos q
        have e1 := Int.mul_ediv_add_emod (p.num * T * T) p.den
        have e2 := Int.mul_ediv_add_emod (q.num * T * T) q.den
        have n1 := Int.emod_nonneg (p.num * T * T) (show (p.den : Int) ≠ 0 by omega)
        rw [k1,he] at e1
        rw [r0,← m0] at e2
        generalize p.num * T * T % p.den = r at *
        generalize p.num * T * T = x at *
        generalize q.num * T * T = y at *
        generalize rootM T q * rootM T q = m at *
        have h3 : (p.den * m + r) * q.den ≤ (q.den * m) * p.den := by rw [e1]; rw [Int.add_zero] at e2; rw [e2]; exact hc
        rw [Int.add_mul] at h3
        have h4 : (p.den : Int) * m * q.den = q.den * m * p.den := by rw [Int.mul_comm (p.den : Int) m,Int.mul_comm (q.den : Int) m,Int.mul_right_comm]
        have h5 : r * q.den ≤ 0 := by omega
        by_cases hr : r = 0
        · exact hr
        · have := Int.mul_pos (show 0 < r by omega) dq
          omega
      rw [if_pos hp]; omega
    · split <;> omega
  · rw [if_neg hE]
    split <;> omega
end Go.Proofs.YtmiioebapckcoaaGreatDoor
end
section
/- The walk of EnclosureContains. Printed by wip/tools/mkContains.py. -/
namespace Go.Proofs.YtmiioebapckcoaaGreatDoor
open Go Num
set_option maxRecDepth 4000

theorem con_0 (H : Hp) (x0 x1 x2 x3 y0 y1 y2 y3 m n : Int) : evI cS (nthC 0 b7) none [(0,.d (.agg [.i .i64 x0,.i .i64 x1,.i .i64 x2,.i .i64 x3])),(1,.d (.agg [.i .i64 y0,.i .i64 y1,.i .i64 y2,.i .i64 y3])),(2,.d (.i .i64 m)),(3,.d (.i .i64 n))] H = some (.nor,[(2,.d (.i .i64 m)),(3,.d (.i .i64 n)),(4,.p H.length 0),(5,.p (H.length + 1) 0)],.box 22 [.d (.i .i64 y0),.d (.i .i64 y1),.d (.i .i64 y2),.d (.i .i64 y3)] :: .box 22 [.d (.i .i64 x0),.d (.i .i64 x1),.d (.i .i64 x2),.d (.i .i64 x3)] :: H) := by
  simp [nthC,b7,put,eset,eget,D.cells,V.cells,allD,hget,hset,fz,List.zipIdx_cons,List.zipIdx_nil,setParts,chunk1,allCellsD,eqKs,eqCell]
theorem con_1 {H : Hp} {o : EO} (g : Glb H) (e : ErrAt H o) (v2 v3 v4 v5 : V) : evI cS (nthC 1 b7) none [(2,v2),(3,v3),(4,v4),(5,v5)] H = some (.nor,[(2,v2),(3,v3),(4,v4),(5,v5),(9,.d (.b true))],H) := by
  have f0 := sane_ok g e
  simp [nthC,b7,put,eset,eget,D.cells,V.cells,allD,hget,hset,fz,List.zipIdx_cons,List.zipIdx_nil,setParts,chunk1,allCellsD,eqKs,eqCell,f0]
theorem con_2 {H : Hp} {i : Nat} {c0 c1 c2 c3 : Int} {a b c d : List UInt8} (gi : hget H i = some (.box 22 [.d (.i .i64 c0),.d (.i .i64 c1),.d (.i .i64 c2),.d (.i .i64 c3)])) (hl : callV cS false (fnV 19) [.d (.agg [.i .i64 c0,.i .i64 c1,.i .i64 c2,.i .i64 c3])] H = some (.val (.d (.agg [.s a,.s b,.s c,.s d])),H)) (v2 v3 v5 v9 : V) : evI cS (nthC 2 b7) none [(2,v2),(3,v3),(4,.p i 0),(5,v5),(9,v9)] H = some (.nor,[(2,v2),(3,v3),(5,v5),(9,v9),(10,.p H.length 0)],(.box 29 [.d (.s a),.d (.s b),.d (.s c),.d (.s d)] :: H)) := by
  simp [nthC,b7,put,eset,eget,D.cells,V.cells,allD,hget,hset,fz,List.zipIdx_cons,List.zipIdx_nil,setParts,chunk1,allCellsD,eqKs,eqCell,gi,hl]
theorem con_3 {H : Hp} {i : Nat} {c0 c1 c2 c3 : Int} {a b c d : List UInt8} (gi : hget H i = some (.box 22 [.d (.i .i64 c0),.d (.i .i64 c1),.d (.i .i64 c2),.d (.i .i64 c3)])) (hl : callV cS false (fnV 19) [.d (.agg [.i .i64 c0,.i .i64 c1,.i .i64 c2,.i .i64 c3])] H = some (.val (.d (.agg [.s a,.s b,.s c,.s d])),H)) (v2 v3 v9 v10 : V) : evI cS (nthC 3 b7) none [(2,v2),(3,v3),(5,.p i 0),(9,v9),(10,v10)] H = some (.nor,[(2,v2),(3,v3),(9,v9),(10,v10),(11,.p H.length 0)],(.box 29 [.d (.s a),.d (.s b),.d (.s c),.d (.s d)] :: H)) := by
  simp [nthC,b7,put,eset,eget,D.cells,V.cells,allD,hget,hset,fz,List.zipIdx_cons,List.zipIdx_nil,setParts,chunk1,allCellsD,eqKs,eqCell,gi,hl]
theorem con_4 {H : Hp} {i : Nat} {n : Int} {a b c d x y : List UInt8} (gi : hget H i = some (.box 29 [.d (.s a),.d (.s b),.d (.s c),.d (.s d)])) (hl : callV cS false (fnV 20) [.d (.agg [.s a,.s b,.s c,.s d]),.d (.i .i64 n)] H = some (.val (.d (.agg [.s x,.s y])),H)) (v3 v9 v11 : V) : evI cS (nthC 4 b7) none [(2,.d (.i .i64 n)),(3,v3),(9,v9),(10,.p i 0),(11,v11)] H = some (.nor,[(3,v3),(9,v9),(10,.p i 0),(11,v11),(12,.p H.length 0)],(.box 26 [.d (.s x),.d (.s y)] :: H)) := by
  simp [nthC,b7,put,eset,eget,D.cells,V.cells,allD,hget,hset,fz,List.zipIdx_cons,List.zipIdx_nil,setParts,chunk1,allCellsD,eqKs,eqCell,gi,hl]
theorem con_5 {H : Hp} {i : Nat} {n : Int} {a b c d x y : List UInt8} (gi : hget H i = some (.box 29 [.d (.s a),.d (.s b),.d (.s c),.d (.s d)])) (hl : callV cS false (fnV 20) [.d (.agg [.s a,.s b,.s c,.s d]),.d (.i .i64 n)] H = some (.val (.d (.agg [.s x,.s y])),H)) (v9 v10 v12 : V) : evI cS (nthC 5 b7) none [(3,.d (.i .i64 n)),(9,v9),(10,v10),(11,.p i 0),(12,v12)] H = some (.nor,[(9,v9),(10,v10),(11,.p i 0),(12,v12),(13,.p H.length 0)],(.box 26 [.d (.s x),.d (.s y)] :: H)) := by
  simp [nthC,b7,put,eset,eget,D.cells,V.cells,allD,hget,hset,fz,List.zipIdx_cons,List.zipIdx_nil,setParts,chunk1,allCellsD,eqKs,eqCell,gi,hl]
theorem con_6 {H : Hp} {i j : Nat} {a b c d a' b' c' d' : List UInt8} {XS ES : List D} (gi : hget H i = some (.box 29 [.d (.s a),.d (.s b),.d (.s c),.d (.s d)])) (gj : hget H j = some (.box 29 [.d (.s a'),.d (.s b'),.d (.s c'),.d (.s d')])) (hc : callV cS false (fnV 31) [.d (.agg [.s a,.s b,.s c,.s d]),.d (.agg [.s a',.s b',.s c',.s d']),.d (.i .i64 3)] H = some (.val (.d (.tup [.ls XS,.ls ES])),H)) (v9 v12 v13 : V) : evI cS (nthC 6 b7) none [(9,v9),(10,.p i 0),(11,.p j 0),(12,v12),(13,v13)] H = some (.nor,[(9,v9),(11,.p j 0),(12,v12),(13,v13),(14,.d (.ls XS)),(15,.d (.ls ES))],H) := by
  simp [nthC,b7,put,eset,eget,D.cells,V.cells,allD,hget,hset,fz,List.zipIdx_cons,List.zipIdx_nil,setParts,chunk1,allCellsD,eqKs,eqCell,gi,gj,hc]
theorem con_7 {H : Hp} {i j : Nat} {a b c d x y : List UInt8} (gi : hget H i = some (.box 26 [.d (.s a),.d (.s b)])) (gj : hget H j = some (.box 26 [.d (.s c),.d (.s d)])) (hc : callV cS false (fnV 24) [.d (.agg [.s a,.s b]),.d (.agg [.s c,.s d])] H = some (.val (.d (.tup [(.agg [.s x,.s y]),.i .i64 0])),H)) (v9 v11 v14 v15 : V) : evI cS (nthC 7 b7) none [(9,v9),(11,v11),(12,.p i 0),(13,.p j 0),(14,v14),(15,v15)] H = some (.nor,[(9,v9),(11,v11),(12,.p i 0),(13,.p j 0),(14,v14),(15,v15),(16,.p H.length 0),(17,.d (.i .i64 0))],(.box 26 [.d (.s x),.d (.s y)] :: H)) := by
  simp [nthC,b7,put,eset,eget,D.cells,V.cells,allD,hget,hset,fz,List.zipIdx_cons,List.zipIdx_nil,setParts,chunk1,allCellsD,eqKs,eqCell,gi,gj,hc]
theorem con_8 {H : Hp} {i j : Nat} {a b c d x y : List UInt8} (gi : hget H i = some (.box 26 [.d (.s a),.d (.s b)])) (gj : hget H j = some (.box 26 [.d (.s c),.d (.s d)])) (hc : callV cS false (fnV 18) [.d (.agg [.s a,.s b]),.d (.agg [.s c,.s d])] H = some (.val (.d (.tup [(.agg [.s x,.s y]),.i .i64 0])),H)) (v9 v11 v14 v15 v16 v17 : V) : evI cS (nthC 8 b7) none [(9,v9),(11,v11),(12,.p i 0),(13,.p j 0),(14,v14),(15,v15),(16,v16),(17,v17)] H = some (.nor,[(9,v9),(11,v11),(12,.p i 0),(13,.p j 0),(14,v14),(15,v15),(16,v16),(17,v17),(18,.p H.length 0),(19,.d (.i .i64 0))],(.box 26 [.d (.s x),.d (.s y)] :: H)) := by
  simp [nthC,b7,put,eset,eget,D.cells,V.cells,allD,hget,hset,fz,List.zipIdx_cons,List.zipIdx_nil,setParts,chunk1,allCellsD,eqKs,eqCell,gi,gj,hc]
theorem con_9 {H : Hp} {i j : Nat} {a b c d x y : List UInt8} (gi : hget H i = some (.box 26 [.d (.s a),.d (.s b)])) (gj : hget H j = some (.box 26 [.d (.s c),.d (.s d)])) (hc : callV cS false (fnV 21) [.d (.agg [.s a,.s b]),.d (.agg [.s c,.s d])] H = some (.val (.d (.tup [(.agg [.s x,.s y]),.i .i64 0])),H)) (v9 v11 v14 v15 v16 v17 v18 v19 : V) : evI cS (nthC 9 b7) none [(9,v9),(11,v11),(12,.p i 0),(13,.p j 0),(14,v14),(15,v15),(16,v16),(17,v17),(18,v18),(19,v19)] H = some (.nor,[(9,v9),(11,v11),(12,.p i 0),(13,.p j 0),(14,v14),(15,v15),(16,v16),(17,v17),(18,v18),(19,v19),(20,.p H.length 0),(21,.d (.i .i64 0))],(.box 26 [.d (.s x),.d (.s y)] :: H)) := by
  simp [nthC,b7,put,eset,eget,D.cells,V.cells,allD,hget,hset,fz,List.zipIdx_cons,List.zipIdx_nil,setParts,chunk1,allCellsD,eqKs,eqCell,gi,gj,hc]
theorem con_10 {H : Hp} {ES : List D} (hl : ES.length = 8) (k0 : ES[0]? = some (.i .i64 0)) (k1 : ES[1]? = some (.i .i64 0)) (k2 : ES[2]? = some (.i .i64 0)) (hz : allCellsD 1 ES = true) (v9 v11 v12 v13 v14 v16 v18 v20 : V) : evI cS (nthC 10 b7) none [(9,v9),(11,v11),(12,v12),(13,v13),(14,v14),(15,.d (.ls ES)),(16,v16),(17,.d (.i .i64 0)),(18,v18),(19,.d (.i .i64 0)),(20,v20),(21,.d (.i .i64 0))] H = some (.nor,[(9,v9),(11,v11),(12,v12),(13,v13),(14,v14),(15,.d (.ls ES)),(16,v16),(18,v18),(20,v20),(86,.d (.b false))],H) := by
  have l1 : 1 < ES.length := by omega
  have l2 : 2 < ES.length := by omega
  have l3 : 0 < ES.length := by omega
  obtain ⟨_,k0⟩ := List.getElem?_eq_some_iff.1 k0
  obtain ⟨_,k1⟩ := List.getElem?_eq_some_iff.1 k1
  obtain ⟨_,k2⟩ := List.getElem?_eq_some_iff.1 k2
  simp [nthC,b7,put,eset,eget,D.cells,V.cells,allD,hget,hset,fz,List.zipIdx_cons,List.zipIdx_nil,setParts,chunk1,allCellsD,eqKs,eqCell,l1,l2,l3,hl,k0,k1,k2,hz]
theorem con_11 {H : Hp} {i j k : Nat} {XS : List D} {a b c d a' b' c' d' s t u v x0 y0 x1 y1 x2 y2 : List UInt8} (hl : XS.length = 8) (k0 : XS[0]? = some (.agg [.s a,.s b,.s c,.s d])) (k1 : XS[1]? = some (.agg [.s a',.s b',.s c',.s d'])) (k2 : XS[2]? = some (.agg [.s s,.s t,.s u,.s v])) (hz : allCellsD 4 XS = true) (gi : hget H i = some (.box 26 [.d (.s x0),.d (.s y0)])) (gj : hget H j = some (.box 26 [.d (.s x1),.d (.s y1)])) (gk : hget H k = some (.box 26 [.d (.s x2),.d (.s y2)]))
    (c0 : callV cS false (fnV 23) [.d (.agg [.s a,.s b,.s c,.s d]),.d (.agg [.s x0,.s y0])] H = some (.val (.d (.b true)),H)) (c1 : callV cS false (fnV 23) [.d (.agg [.s a',.s b',.s c',.s d']),.d (.agg [.s x1,.s y1])] H = some (.val (.d (.b true)),H)) (c2 : callV cS false (fnV 23) [.d (.agg [.s s,.s t,.s u,.s v]),.d (.agg [.s x2,.s y2])] H = some (.val (.d (.b true)),H)) (v9 v11 v12 v13 v15 v86 : V) :
    evI cS (nthC 11 b7) none [(9,v9),(11,v11),(12,v12),(13,v13),(14,.d (.ls XS)),(15,v15),(16,.p i 0),(18,.p j 0),(20,.p k 0),(86,v86)] H = some (.nor,[(9,v9),(11,v11),(12,v12),(13,v13),(14,.d (.ls XS)),(15,v15),(108,.d (.b false))],H) := by
  have l1 : 1 < XS.length := by omega
  have l2 : 2 < XS.length := by omega
  have l3 : 0 < XS.length := by omega
  obtain ⟨_,k0⟩ := List.getElem?_eq_some_iff.1 k0
  obtain ⟨_,k1⟩ := List.getElem?_eq_some_iff.1 k1
  obtain ⟨_,k2⟩ := List.getElem?_eq_some_iff.1 k2
  have key : evI cS (nthC 0 (nthC 11 b7)) none [(9,v9),(11,v11),(12,v12),(13,v13),(14,.d (.ls XS)),(15,v15),(16,.p i 0),(18,.p j 0),(20,.p k 0),(86,v86)] H = some (.nor,[(9,v9),(11,v11),(12,v12),(13,v13),(14,.d (.ls XS)),(15,v15),(108,.d (.b false))],H) := by
    simp only [nthC,b7]
    apply evI_drawP
    simp [evP,put,eset,eget,D.cells,V.cells,allD,hget,hset,fz,List.zipIdx_cons,List.zipIdx_nil,setParts,chunk1,allCellsD,eqKs,eqCell,l1,l2,l3,hl,k0,k1,k2,hz,gi,gj,gk,c0,c1,c2]
  have e : nthC 11 b7 = .seq (nthC 0 (nthC 11 b7)) (tlC 1 (nthC 11 b7)) := rfl
  rw [e,evI_seq,key]
  simp [tlC,nthC,b7,put,eset,eget,D.cells,V.cells,allD,hget,hset,fz,List.zipIdx_cons,List.zipIdx_nil,setParts,chunk1,allCellsD,eqKs,eqCell]
theorem con_12 {H : Hp} {i : Nat} {a b c d x y : List UInt8} {ES : List D} (gi : hget H i = some (.box 29 [.d (.s a),.d (.s b),.d (.s c),.d (.s d)])) (hr : callV cS false (fnV 16) [.d (.i .i64 0),.d (.i .i64 1)] H = some (.val (.d (.agg [.s x,.s y])),H)) (c0 : callV cS false (fnV 23) [.d (.agg [.s a,.s b,.s c,.s d]),.d (.agg [.s x,.s y])] H = some (.val (.d (.b false)),H)) (v12 v13 v14 v108 : V) :
    evI cS (nthC 12 b7) none [(9,.d (.b true)),(11,.p i 0),(12,v12),(13,v13),(14,v14),(15,.d (.ls ES)),(108,v108)] H = some (.nor,[(9,.d (.b true)),(12,v12),(13,v13),(14,v14),(15,.d (.ls ES)),(111,.d (.b false))],H) := by
  simp [nthC,b7,put,eset,eget,D.cells,V.cells,allD,hget,hset,fz,List.zipIdx_cons,List.zipIdx_nil,setParts,chunk1,allCellsD,eqKs,eqCell,gi,hr,c0]
theorem con_12z {H : Hp} {i : Nat} {a b c d x y : List UInt8} {ES : List D} (gi : hget H i = some (.box 29 [.d (.s a),.d (.s b),.d (.s c),.d (.s d)])) (hr : callV cS false (fnV 16) [.d (.i .i64 0),.d (.i .i64 1)] H = some (.val (.d (.agg [.s x,.s y])),H)) (c0 : callV cS false (fnV 23) [.d (.agg [.s a,.s b,.s c,.s d]),.d (.agg [.s x,.s y])] H = some (.val (.d (.b true)),H)) (hl : ES.length = 8) (k3 : ES[3]? = some (.i .i64 50)) (hz : allCellsD 1 ES = true) (v12 v13 v14 v108 : V) :
    evI cS (nthC 12 b7) none [(9,.d (.b true)),(11,.p i 0),(12,v12),(13,v13),(14,v14),(15,.d (.ls ES)),(108,v108)] H = some (.rt,[(8,.d (.b true))],H) := by
  have l3 : 3 < ES.length := by omega
  obtain ⟨_,k3⟩ := List.getElem?_eq_some_iff.1 k3
  simp [nthC,b7,put,eset,eget,D.cells,V.cells,allD,hget,hset,fz,List.zipIdx_cons,List.zipIdx_nil,setParts,chunk1,allCellsD,eqKs,eqCell,gi,hr,c0,l3,hl,k3,hz]
theorem con_13 {H : Hp} {i j : Nat} {a b c d x y : List UInt8} (gi : hget H i = some (.box 26 [.d (.s a),.d (.s b)])) (gj : hget H j = some (.box 26 [.d (.s c),.d (.s d)])) (hc : callV cS false (fnV 17) [.d (.agg [.s a,.s b]),.d (.agg [.s c,.s d])] H = some (.val (.d (.tup [(.agg [.s x,.s y]),.i .i64 0])),H)) (v9 v14 v15 v111 : V) : evI cS (nthC 13 b7) none [(9,v9),(12,.p i 0),(13,.p j 0),(14,v14),(15,v15),(111,v111)] H = some (.nor,[(9,v9),(14,v14),(15,v15),(22,.p H.length 0),(23,.d (.i .i64 0))],(.box 26 [.d (.s x),.d (.s y)] :: H)) := by
  simp [nthC,b7,put,eset,eget,D.cells,V.cells,allD,hget,hset,fz,List.zipIdx_cons,List.zipIdx_nil,setParts,chunk1,allCellsD,eqKs,eqCell,gi,gj,hc]
theorem con_14 {H : Hp} {i : Nat} {a b c d x y : List UInt8} {XS ES : List D} (gi : hget H i = some (.box 26 [.d (.s x),.d (.s y)])) (l1 : XS.length = 8) (l2 : ES.length = 8) (k1 : XS[3]? = some (.agg [.s a,.s b,.s c,.s d])) (k2 : ES[3]? = some (.i .i64 0)) (z1 : allCellsD 4 XS = true) (z2 : allCellsD 1 ES = true) (c0 : callV cS false (fnV 23) [.d (.agg [.s a,.s b,.s c,.s d]),.d (.agg [.s x,.s y])] H = some (.val (.d (.b true)),H)) :
    evI cS (tlC 14 b7) none [(9,.d (.b true)),(14,.d (.ls XS)),(15,.d (.ls ES)),(22,.p i 0),(23,.d (.i .i64 0))] H = some (.rt,[(8,.d (.b true))],H) := by
  have m1 : 3 < XS.length := by omega
  have m2 : 3 < ES.length := by omega
  obtain ⟨_,k1⟩ := List.getElem?_eq_some_iff.1 k1
  obtain ⟨_,k2⟩ := List.getElem?_eq_some_iff.1 k2
  have key : evI cS (nthC 14 b7) none [(9,.d (.b true)),(14,.d (.ls XS)),(15,.d (.ls ES)),(22,.p i 0),(23,.d (.i .i64 0))] H = some (.nor,[(8,.d (.b true))],H) := by
    simp only [nthC,b7]
    apply evI_drawP
    simp [evP,put,eset,eget,D.cells,V.cells,allD,hget,hset,fz,List.zipIdx_cons,List.zipIdx_nil,setParts,chunk1,allCellsD,eqKs,eqCell,gi,l1,l2,m1,m2,k1,k2,z1,z2,c0]
  have e : tlC 14 b7 = .seq (nthC 14 b7) .ret := rfl
  rw [e,evI_seq,key]
  simp [put,eset,eget,D.cells,V.cells,allD,hget,hset,fz,List.zipIdx_cons,List.zipIdx_nil,setParts,chunk1,allCellsD,eqKs,eqCell]
end Go.Proofs.YtmiioebapckcoaaGreatDoor
end
section
/- EnclosureContains: the law. Printed by wip/tools/mkContains.py. -/
namespace Go.Proofs.YtmiioebapckcoaaGreatDoor
open Go Num
set_option maxRecDepth 4000

theorem con_val {lo hi v : Rat} (f1 : RFits lo) (f2 : RFits hi) (f3 : RFits v) (h1 : lo ≤ v) (h2 : v ≤ hi) (h : Hp) (g : Glb h) : callV cS false (fnV 23) [.d (.agg [.s (txt lo.num),.s (txt lo.den),.s (txt hi.num),.s (txt hi.den)]),.d (.agg [.s (txt v.num),.s (txt v.den)])] h = some (.val (.d (.b true)),h) := by
  have := contains_val f1 f2 f3 (Rat.le_trans h1 h2) g
  rw [decide_eq_true h1,decide_eq_true h2] at this
  exact this
set_option maxHeartbeats 1000000 in
theorem LawContains_ok (x0 x1 x2 x3 y0 y1 y2 y3 m n : Int) (hx0 : I64 x0) (hx1 : I64 x1) (hx2 : I64 x2) (hx3 : I64 x3) (hy0 : I64 y0) (hy1 : I64 y1) (hy2 : I64 y2) (hy3 : I64 y3) (hm : I64 m) (hn : I64 n) {H : Hp} {o : EO} (hG : Glb H) (hE : ErrAt H o) :
    callV cS false (fnV 7) [.d (.agg [.i .i64 x0,.i .i64 x1,.i .i64 x2,.i .i64 x3]),.d (.agg [.i .i64 y0,.i .i64 y1,.i .i64 y2,.i .i64 y3]),.d (.i .i64 m),.d (.i .i64 n)] H = some (.val (.d (.b true)),H) := by
  rw [callV_fn (sf := c7) rfl rfl rfl rfl]
  have hb : b7 = .seq (nthC 0 b7) (.seq (nthC 1 b7) (.seq (nthC 2 b7) (.seq (nthC 3 b7) (.seq (nthC 4 b7) (.seq (nthC 5 b7) (.seq (nthC 6 b7) (.seq (nthC 7 b7) (.seq (nthC 8 b7) (.seq (nthC 9 b7) (.seq (nthC 10 b7) (.seq (nthC 11 b7) (.seq (nthC 12 b7) (.seq (nthC 13 b7) (tlC 14 b7)))))))))))))) := rfl
  have ma := Made_ok x0 x1 x2 x3 hx0 hx1 hx2 hx3
  have mb := Made_ok y0 y1 y2 y3 hy0 hy1 hy2 hy3
  have la := made_le x0 x1 x2 x3
  have lb := made_le y0 y1 y2 y3
  obtain ⟨sa1,sa2⟩ := made_sm x0 x1 x2 x3
  obtain ⟨sb1,sb2⟩ := made_sm y0 y1 y2 y3
  generalize madeLo x0 x1 x2 x3 = a1 at *
  generalize madeHi x0 x1 x2 x3 = a2 at *
  generalize madeLo y0 y1 y2 y3 = b1 at *
  generalize madeHi y0 y1 y2 y3 = b2 at *
  have ia := Inside_ok sa1 sa2 m hm
  have ib := Inside_ok sb1 sb2 n hn
  obtain ⟨km0,km1⟩ := pickI_range m (show (0 : Int) < 101 by omega)
  obtain ⟨kn0,kn1⟩ := pickI_range n (show (0 : Int) < 101 by omega)
  obtain ⟨_,_,_,hr⟩ := inside_s3 sa1 sa2 (pickI m 101) km0 (by omega)
  obtain ⟨_,_,_,hs⟩ := inside_s3 sb1 sb2 (pickI n 101) kn0 (by omega)
  obtain ⟨r1,r2⟩ := inside_mem la (pickI m 101) km0 (by omega)
  obtain ⟨s1,s2⟩ := inside_mem lb (pickI n 101) kn0 (by omega)
  generalize insideQ a1 a2 (pickI m 101) = r at *
  generalize insideQ b1 b2 (pickI n 101) = s at *
  have ha1 := s3_of sa1
  have ha2 := s3_of sa2
  have hb1 := s3_of sb1
  have hb2 := s3_of sb2
  simp only [dI4] at ma mb
  obtain ⟨hA,ehA⟩ : ∃ hA : Hp,hA = .box 22 [.d (.i .i64 y0),.d (.i .i64 y1),.d (.i .i64 y2),.d (.i .i64 y3)] :: .box 22 [.d (.i .i64 x0),.d (.i .i64 x1),.d (.i .i64 x2),.d (.i .i64 x3)] :: H := ⟨_,rfl⟩
  obtain ⟨h10,eh10⟩ : ∃ h : Hp,h = .box 29 [.d (.s (txt a1.num)),.d (.s (txt a1.den)),.d (.s (txt a2.num)),.d (.s (txt a2.den))] :: hA := ⟨_,rfl⟩
  obtain ⟨h11,eh11⟩ : ∃ h : Hp,h = .box 29 [.d (.s (txt b1.num)),.d (.s (txt b1.den)),.d (.s (txt b2.num)),.d (.s (txt b2.den))] :: h10 := ⟨_,rfl⟩
  obtain ⟨h12,eh12⟩ : ∃ h : Hp,h = .box 26 [.d (.s (txt r.num)),.d (.s (txt r.den))] :: h11 := ⟨_,rfl⟩
  obtain ⟨h13,eh13⟩ : ∃ h : Hp,h = .box 26 [.d (.s (txt s.num)),.d (.s (txt s.den))] :: h12 := ⟨_,rfl⟩
  obtain ⟨h16,eh16⟩ : ∃ h : Hp,h = .box 26 [.d (.s (txt (r + s).num)),.d (.s (txt (r + s).den))] :: h13 := ⟨_,rfl⟩
  obtain ⟨h18,eh18⟩ : ∃ h : Hp,h = .box 26 [.d (.s (txt (r - s).num)),.d (.s (txt (r - s).den))] :: h16 := ⟨_,rfl⟩
  obtain ⟨h20,eh20⟩ : ∃ h : Hp,h = .box 26 [.d (.s (txt (r * s).num)),.d (.s (txt (r * s).den))] :: h18 := ⟨_,rfl⟩
  have glA : Glb hA := by rw [ehA]; exact (hG.cons _).cons _
  have erA : ErrAt hA o := by rw [ehA]; exact (hE.cons _).cons _
  have gl13 : Glb h13 := by rw [eh13,eh12,eh11,eh10]; exact (((glA.cons _).cons _).cons _).cons _
  have er13 : ErrAt h13 o := by rw [eh13,eh12,eh11,eh10]; exact (((erA.cons _).cons _).cons _).cons _
  have gl16 : Glb h16 := by rw [eh16]; exact gl13.cons _
  have gl18 : Glb h18 := by rw [eh18]; exact gl16.cons _
  have gl20 : Glb h20 := by rw [eh20]; exact gl18.cons _
  have k2 : hget hA H.length = some (.box 22 [.d (.i .i64 x0),.d (.i .i64 x1),.d (.i .i64 x2),.d (.i .i64 x3)]) := by rw [ehA]; simp [put,eset,eget,D.cells,V.cells,allD,hget,hset,fz,List.zipIdx_cons,List.zipIdx_nil]
  have k3 : hget hA (H.length + 1) = some (.box 22 [.d (.i .i64 y0),.d (.i .i64 y1),.d (.i .i64 y2),.d (.i .i64 y3)]) := by rw [ehA]; simp [put,eset,eget,D.cells,V.cells,allD,hget,hset,fz,List.zipIdx_cons,List.zipIdx_nil]
  have g10 := hget_up eh11 (hget_top eh10)
  have g11 := hget_top eh11
  have g12 := hget_up eh13 (hget_top eh12)
  have g13 := hget_top eh13
  have u11 := hget_up eh13 (hget_up eh12 g11)
  have u10 := hget_up eh13 (hget_up eh12 g10)
  have w12 := hget_up eh16 g12
  have w13 := hget_up eh16 g13
  have v12 := hget_up eh18 w12
  have v13 := hget_up eh18 w13
  have t12 := hget_up eh20 v12
  have t13 := hget_up eh20 v13
  have t16 := hget_up eh20 (hget_up eh18 (hget_top eh16))
  have t18 := hget_up eh20 (hget_top eh18)
  have t20 := hget_top eh20
  have t11 := hget_up eh20 (hget_up eh18 (hget_up eh16 u11))
  have q0 := con_0 H x0 x1 x2 x3 y0 y1 y2 y3 m n
  rw [← ehA] at q0
  have q1 := con_1 glA erA (.d (.i .i64 m)) (.d (.i .i64 n)) (.p H.length 0) (.p (H.length + 1) 0)
  have q2 := con_2 k2 (ma hA) (.d (.i .i64 m)) (.d (.i .i64 n)) (.p (H.length + 1) 0) (.d (.b true))
  rw [← eh10] at q2
  have q3 := con_3 (hget_up eh10 k3) (mb h10) (.d (.i .i64 m)) (.d (.i .i64 n)) (.d (.b true)) (.p hA.length 0)
  rw [← eh11] at q3
  have q4 := con_4 g10 (ia h11) (.d (.i .i64 n)) (.d (.b true)) (.p h10.length 0)
  rw [← eh12] at q4
  have q5 := con_5 (hget_up eh12 g11) (ib h12) (.d (.b true)) (.p hA.length 0) (.p h11.length 0)
  rw [← eh13] at q5
  -- the operations that this law does not look at
  obtain ⟨r4,e4,w4⟩ := work_any (l := [qV a1 a2,qV b1 b2]) (hullX_form (qV a1 a2) (qV b1 b2))
  obtain ⟨r5,e5,w5⟩ := work_any (l := [qV a1 a2,qV b1 b2]) (meetX_form (qV a1 a2) (qV b1 b2))
  obtain ⟨r6,e6,w6⟩ := work_any (l := [qV a1 a2]) (sqrtX_form 3 (qV a1 a2))
  obtain ⟨r7,e7,w7⟩ := work_any (l := [qV a1 a2]) (x := pairD (opQ1 (rdD false 3) errR (qV a1 a2).a (qV a1 a2).b) (opQ1 (rdD true 3) errR (qV a1 a2).c (qV a1 a2).d)) (fun z hz => pairD_form hz)
  have f0 := fun (h : Hp) (g : Glb h) (e : ErrAt h o) => EAdd_val ha1 ha2 hb1 hb2 la lb g e
  have f1 := fun (h : Hp) (g : Glb h) (e : ErrAt h o) => ESub_val ha1 ha2 hb1 hb2 la lb g e
  have f2 := fun (h : Hp) (g : Glb h) (e : ErrAt h o) => EMul_val ha1 ha2 hb1 hb2 la lb g e
  have f4 := fun (h : Hp) (g : Glb h) (e : ErrAt h o) => (EHull_ok (qV a1 a2) (qV b1 b2) g e).trans (by rw [w4])
  have f5 := fun (h : Hp) (g : Glb h) (e : ErrAt h o) => (EMeet_ok (qV a1 a2) (qV b1 b2) g e).trans (by rw [w5])
  have f6 := fun (h : Hp) (g : Glb h) (e : ErrAt h o) => (ESqrt_ok (qV a1 a2) 3 (by unfold I64; omega) g e).trans (by rw [w6])
  have f7 := fun (h : Hp) (g : Glb h) (e : ErrAt h o) => (ERound_ok (qV a1 a2) 3 (by unfold I64; omega) g e).trans (by rw [w7])
  have c0 := con_val (add_s3 ha1 hb1).2.2 (add_s3 ha2 hb2).2.2 (add_s3 hr hs).2.2 (by grind) (by grind) h20 gl20
  have c1 := con_val (sub_s3 ha1 hb2).2.2 (sub_s3 ha2 hb1).2.2 (sub_s3 hr hs).2.2 (by grind) (by grind) h20 gl20
  have hpr := prod_in r1 r2 s1 s2
  obtain ⟨fm1,fm2⟩ := fits_min4 (mul_s3 ha1 hb1).2.2 (mul_s3 ha1 hb2).2.2 (mul_s3 ha2 hb1).2.2 (mul_s3 ha2 hb2).2.2
  have c2 := con_val fm1 fm2 (mul_s3 hr hs).2.2 hpr.1 hpr.2 h20 gl20
  have p16 := sum_call hr hs gl13
  have p18 := dif_call hr hs gl16
  have p20 := pro_call hr hs gl18
  have hrat := ratio_q 0 1 0 (by unfold I64; omega) (by unfold I64; omega) (by omega) (by decide +kernel) h20
  have hc0 := contains_val hb1.fits hb2.fits (show RFits 0 from Sm.fits (by decide)) lb gl20
  have run : ∀ (XS ES : List D) (rest : Option (Ex × En × Hp)),callV cS false (fnV 31) [.d (qV a1 a2).D,.d (qV b1 b2).D,.d (.i .i64 3)] h13 = some (.val (.d (.tup [.ls XS,.ls ES])),h13) → XS.length = 8 → ES.length = 8 → allCellsD 4 XS = true → allCellsD 1 ES = true → XS[0]? = some (qV (a1 + b1) (a2 + b2)).D → XS[1]? = some (qV (a1 - b2) (a2 - b1)).D → XS[2]? = some (qV (min4 (a1 * b1) (a1 * b2) (a2 * b1) (a2 * b2)) (max4 (a1 * b1) (a1 * b2) (a2 * b1) (a2 * b2))).D → ES[0]? = some (.i .i64 0) → ES[1]? = some (.i .i64 0) → ES[2]? = some (.i .i64 0) →
      thenR (evI cS (nthC 12 b7) none [(9,.d (.b true)),(11,.p h10.length 0),(12,.p h11.length 0),(13,.p h12.length 0),(14,.d (.ls XS)),(15,.d (.ls ES)),(108,.d (.b false))] h20) (fun e h => evI cS (.seq (nthC 13 b7) (tlC 14 b7)) none e h) = rest → evI cS b7 none (enter [.d (.agg [.i .i64 x0,.i .i64 x1,.i .i64 x2,.i .i64 x3]),.d (.agg [.i .i64 y0,.i .i64 y1,.i .i64 y2,.i .i64 y3]),.d (.i .i64 m),.d (.i .i64 n)]) H = rest := by
    intro XS ES rest hcalls n1 n2 z1 z2 x0' x1' x2' y0' y1' y2' hrest
    have q6 := con_6 u10 u11 hcalls (.d (.b true)) (.p h11.length 0) (.p h12.length 0)
    have q7 := con_7 g12 g13 p16 (.d (.b true)) (.p h10.length 0) (.d (.ls XS)) (.d (.ls ES))
    rw [← eh16] at q7
    have q8 := con_8 w12 w13 p18 (.d (.b true)) (.p h10.length 0) (.d (.ls XS)) (.d (.ls ES)) (.p h13.length 0) (.d (.i .i64 0))
    rw [← eh18] at q8
    have q9 := con_9 v12 v13 p20 (.d (.b true)) (.p h10.length 0) (.d (.ls XS)) (.d (.ls ES)) (.p h13.length 0) (.d (.i .i64 0)) (.p h16.length 0) (.d (.i .i64 0))
    rw [← eh20] at q9
    have q10 := con_10 (H := h20) n2 y0' y1' y2' z2 (.d (.b true)) (.p h10.length 0) (.p h11.length 0) (.p h12.length 0) (.d (.ls XS)) (.p h13.length 0) (.p h16.length 0) (.p h18.length 0)
    have q11 := con_11 n1 x0' x1' x2' z1 t16 t18 t20 c0 c1 c2 (.d (.b true)) (.p h10.length 0) (.p h11.length 0) (.p h12.length 0) (.d (.ls ES)) (.d (.b false))
    have hen : enter [.d (.agg [.i .i64 x0,.i .i64 x1,.i .i64 x2,.i .i64 x3]),.d (.agg [.i .i64 y0,.i .i64 y1,.i .i64 y2,.i .i64 y3]),.d (.i .i64 m),.d (.i .i64 n)] = [(0,.d (.agg [.i .i64 x0,.i .i64 x1,.i .i64 x2,.i .i64 x3])),(1,.d (.agg [.i .i64 y0,.i .i64 y1,.i .i64 y2,.i .i64 y3])),(2,.d (.i .i64 m)),(3,.d (.i .i64 n))] := rfl
    rw [hen,hb,evI_seq,q0]
    simp only [thenR]
    rw [evI_seq,q1]
    simp only [thenR]
    rw [evI_seq,q2]
    simp only [thenR]
    rw [evI_seq,q3]
    simp only [thenR]
    rw [evI_seq,q4]
    simp only [thenR]
    rw [evI_seq,q5]
    simp only [thenR]
    rw [evI_seq,q6]
    simp only [thenR]
    rw [evI_seq,q7]
    simp only [thenR]
    rw [evI_seq,q8]
    simp only [thenR]
    rw [evI_seq,q9]
    simp only [thenR]
    rw [evI_seq,q10]
    simp only [thenR]
    rw [evI_seq,q11]
    simp only [thenR]
    rw [evI_seq]
    exact hrest
  obtain ⟨K,hK⟩ : ∃ K : Hp,h20 = K ++ H := ⟨_ :: _ :: _ :: _ :: _ :: _ :: _ :: _ :: _ :: [],by rw [eh20,eh18,eh16,eh13,eh12,eh11,eh10,ehA]; rfl⟩
  have hev : ∃ L,evI cS b7 none (enter [.d (.agg [.i .i64 x0,.i .i64 x1,.i .i64 x2,.i .i64 x3]),.d (.agg [.i .i64 y0,.i .i64 y1,.i .i64 y2,.i .i64 y3]),.d (.i .i64 m),.d (.i .i64 n)]) H = some (.rt,[(8,.d (.b true))],L ++ H) := by
    by_cases h0 : b1 ≤ 0 ∧ 0 ≤ b2
    · have f3 := fun (h : Hp) (g : Glb h) (e : ErrAt h o) => EDiv_zero ha1 ha2 hb1 hb2 la lb h0 g e
      have hcalls := calls_ok (A := qV a1 a2) (B := qV b1 b2) (n := 3) (r3 := ⟨[],[],[],[]⟩) (e3 := 50) gl13 er13 f0 f1 f2 f3 f4 f5 f6 f7
      refine ⟨K,run _ _ _ hcalls rfl rfl (by simp [allCellsD,IV.D,D.cells,scDs,scD]) rfl rfl rfl rfl rfl rfl rfl ?_⟩
      rw [decide_eq_true h0.1,decide_eq_true h0.2] at hc0
      rw [con_12z t11 hrat hc0 rfl rfl rfl,hK]
      rfl
    · have f3 := fun (h : Hp) (g : Glb h) (e : ErrAt h o) => EDiv_val ha1 ha2 hb1 hb2 la lb h0 g e
      have hcalls := calls_ok (A := qV a1 a2) (B := qV b1 b2) (n := 3) (e3 := 0) gl13 er13 f0 f1 f2 f3 f4 f5 f6 f7
      have n1 : b1 ≠ 0 := by grind
      have n2 : b2 ≠ 0 := by grind
      have ns : s ≠ 0 := by grind
      have hqu := quot_in r1 r2 s1 s2 h0
      obtain ⟨fd1,fd2⟩ := fits_min4 (div_s3 ha1 hb1 n1).2.2 (div_s3 ha1 hb2 n2).2.2 (div_s3 ha2 hb1 n1).2.2 (div_s3 ha2 hb2 n2).2.2
      have p22 := quo_call hr hs ns gl20
      obtain ⟨h22,eh22⟩ : ∃ h : Hp,h = .box 26 [.d (.s (txt (r / s).num)),.d (.s (txt (r / s).den))] :: h20 := ⟨_,rfl⟩
      have gl22 : Glb h22 := by rw [eh22]; exact gl20.cons _
      have c3 := con_val fd1 fd2 (div_s3 hr hs ns).2.2 hqu.1 hqu.2 h22 gl22
      refine ⟨.box 26 [.d (.s (txt (r / s).num)),.d (.s (txt (r / s).den))] :: K,run _ _ _ hcalls rfl rfl (by simp [allCellsD,IV.D,D.cells,scDs,scD]) rfl rfl rfl rfl rfl rfl rfl ?_⟩
      have hcf : (decide (b1 ≤ 0) && decide (0 ≤ b2)) = false := by rw [← Bool.decide_and]; exact decide_eq_false h0
      rw [hcf] at hc0
      have q13 := con_13 t12 t13 p22
      rw [← eh22] at q13
      rw [con_12 t11 hrat hc0]
      simp only [thenR]
      rw [evI_seq,q13]
      simp only [thenR]
      rw [con_14 (hget_top eh22) rfl rfl rfl rfl (by simp [allCellsD,IV.D,D.cells,scDs,scD]) rfl c3,eh22,hK]
      rfl
  obtain ⟨L,hev⟩ := hev
  have hbd : c7.body = b7 := rfl
  simp only [List.map_nil,List.nil_append,List.append_nil,hbd,hev]
  have := fin_app L H (.b true)
  simp only [c7,outOf,resAll,resOf,resV,eget,mkTup]
  simpa using this
end Go.Proofs.YtmiioebapckcoaaGreatDoor
end
