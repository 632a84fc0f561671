/- Part 17 of a proof: the small semantics, its soundness, the functions of the program in it, and the law. -/
import Derived.Test.YtmiioebapckcoaaGreatDoorMp
set_option linter.unusedVariables false
set_option linter.unusedSimpArgs false
section
/- rational: Add; sums as partial functions. -/
namespace Go.Proofs.YtmiioebapckcoaaGreatDoor
open Go Num
set_option maxRecDepth 4000

theorem RAdd_ok (a b c d : List UInt8) (H : Hp) (hG : Glb H) : callV cS false (fnV 24) [.d (.agg [.s a, .s b]), .d (.agg [.s c, .s d])] H = some (.val (.d (opQ (sumD fun x y => x + y) errR a b c d)), H) := by
  rw [callV_fn (sf := c24) rfl rfl rfl rfl]
  have hs := sum_ok 71 (fun x y => x + y) (fun x y h hG fx fy => by rw [Add_ok _ _ _ hG, opI_txt fx fy]) a b c d (ratBox [] [] :: ratBox c d :: ratBox a b :: H) (((hG.cons _).cons _).cons _)
  obtain ⟨s, t, e, he⟩ := sumD_form (fun x y => x + y) a b c d
  rw [he] at hs ⊢
  simp only [ratBox] at hs
  simp [c24, b24, put, eset, eget, D.cells, V.cells, allD, hget, hset, fz, List.zipIdx_cons, List.zipIdx_nil, hs]
open Classical in
noncomputable def sumO (op : Int → Int → Int) (p q : Rat) : Option Rat := if Fits (p.num * q.den) ∧ Fits (q.num * p.den) then twoQ (op (p.num * q.den) (q.num * p.den)) ((p.den : Int) * q.den) else none
theorem oneD_sum (op : Int → Int → Int) (p q : Rat) : oneD (sumD op p q) = (sumO op p q).map dR := by
  unfold sumD sumO
  split
  · exact oneD_two _ _
  · rfl
theorem sumO_fits {op : Int → Int → Int} {p q r : Rat} (h : sumO op p q = some r) : RFits r := by
  unfold sumO at h
  split at h
  · simp only [twoQ] at h
    split at h
    · rename_i h; cases h; exact divInt_fits h.1 h.2.1 h.2.2
    · cases h
  · cases h
theorem sumD_form1 (op : Int → Int → Int) (p q : Rat) : ∃ s t e, sumD op p q = D.tup [.agg [.s s, .s t], .i .i64 e] := by
  unfold sumD
  split
  · exact two_form _ _
  · exact ⟨_, _, _, rfl⟩
theorem sum_OpF {f : FuncId} {op : Int → Int → Int} (hf : ∀ a b c d H, Glb H → callV cS false (fnV f) [.d (.agg [.s a, .s b]), .d (.agg [.s c, .s d])] H = some (.val (.d (opQ (sumD op) errR a b c d)), H)) : OpF f (sumO op) := by
  intro p q fp fq
  refine ⟨sumD op p q, sumD_form1 op p q, fun G hG => ?_, oneD_sum op p q, fun r hr => sumO_fits hr⟩
  have := hf (txt p.num) (txt p.den) (txt q.num) (txt q.den) G hG
  have he : opQ (sumD op) errR (txt p.num) (txt p.den) (txt q.num) (txt q.den) = sumD op p q := by simp only [opQ, RQ_txt fp, RQ_txt fq]
  rw [he] at this
  exact this
theorem add_OpF : OpF 24 (sumO fun x y => x + y) := sum_OpF RAdd_ok
theorem sub_OpF : OpF 18 (sumO fun x y => x - y) := sum_OpF RSub_ok
/-- an operation at two pairs of ends -/
noncomputable def pairO (x y : Option Rat) : Option D := match x, y with
  | some a, some b => some (dI4 a b)
  | _, _ => none
theorem pairO_form (x y : Option Rat) : ∀ z, pairO x y = some z → ∃ s t u v, z = .agg [.s s, .s t, .s u, .s v] := by
  intro z hz
  unfold pairO dI4 at hz
  split at hz
  · cases hz; exact ⟨_, _, _, _, rfl⟩
  · cases hz
end Go.Proofs.YtmiioebapckcoaaGreatDoor
end
section
/- enclosure: Add and Sub. Printed by a program. -/
namespace Go.Proofs.YtmiioebapckcoaaGreatDoor
open Go Num
set_option maxRecDepth 4000

theorem add1_ok {h : Hp} {k i j : Nat} {o : EO} {p1 q1 p2 q2 : Rat} (f1 : RFits p1) (f2 : RFits q1) (f3 : RFits p2) (f4 : RFits q2) (hG : Glb h) (hE : ErrAt h o) (hk : hget h k = some (.box 99 [.d (.fn 24 [] [])])) (hi : hget h i = some (.box 29 [.d (.s (txt p1.num)), .d (.s (txt p1.den)), .d (.s (txt q1.num)), .d (.s (txt q1.den))])) (hj : hget h j = some (.box 29 [.d (.s (txt p2.num)), .d (.s (txt p2.den)), .d (.s (txt q2.num)), .d (.s (txt q2.den))])) :
    callV cS false (.fn 129 [] [.p k 0, .p i 0, .p j 0]) [] h = endW o h (pairO (sumO (fun x y => x + y) p1 p2) (sumO (fun x y => x + y) q1 q2)) := by
  rw [callV_fnV (sf := c129) rfl rfl rfl rfl]
  have hil := hget_lt' hi
  have hjl := hget_lt' hj
  have hkl := hget_lt' hk
  have ni : ¬ i = h.length := by omega
  have nj : ¬ j = h.length := by omega
  have nk : ¬ k = h.length := by omega
  have hG1 := hG.cons (.box 29 [.d (.s []), .d (.s []), .d (.s []), .d (.s [])])
  have hE1 := hE.cons (.box 29 [.d (.s []), .d (.s []), .d (.s []), .d (.s [])])
  have c1 := of_call add_OpF f1 f3 hG1 hE1
  have c2 := of_call add_OpF f2 f4 hG1 hE1
  have hf := fin_pan (h := h) (h' := .box 29 [.d (.s []), .d (.s []), .d (.s []), .d (.s [])] :: h) (v := eV o) (by simp [eV, vlt, hE.2]) (by simp) (by rw [HOk_cons' (Nat.le_refl _)]; exact HOk.refl h)
  rw [trunc_cons' (Nat.le_refl _), trunc_self] at hf
  cases h1 : sumO (fun x y => x + y) p1 p2 with
  | none =>
    rw [h1] at c1
    simp only [eV] at c1 hf
    simp [c129, b129, put, eset, eget, D.cells, V.cells, allD, hget, hset, fz, List.zipIdx_cons, List.zipIdx_nil, hk, hi, hj, ni, nj, nk, c1, hf, pairO, endW, eV]
  | some a =>
    rw [h1] at c1
    cases h2 : sumO (fun x y => x + y) q1 q2 with
    | none =>
      rw [h2] at c2
      simp only [eV] at c2 hf
      simp [c129, b129, put, eset, eget, D.cells, V.cells, allD, hget, hset, fz, List.zipIdx_cons, List.zipIdx_nil, hk, hi, hj, ni, nj, nk, c1, c2, hf, pairO, endW, eV]
    | some b =>
      rw [h2] at c2
      simp [c129, b129, put, eset, eget, D.cells, V.cells, allD, hget, hset, fz, List.zipIdx_cons, List.zipIdx_nil, hk, hi, hj, ni, nj, nk, c1, c2, pairO, endW, dI4, setParts, chunk1, allCellsD]
noncomputable def addX (x y : IV) : Option D := match VQ x.a x.b x.c x.d, VQ y.a y.b y.c y.d with
  | some (p1, q1), some (p2, q2) => pairO (sumO (fun x y => x + y) p1 p2) (sumO (fun x y => x + y) q1 q2)
  | _, _ => none
theorem addX_form (x y : IV) : ∀ z, addX x y = some z → ∃ s t u v, z = .agg [.s s, .s t, .s u, .s v] := by
  intro z hz
  unfold addX at hz
  split at hz
  · exact pairO_form _ _ z hz
  · cases hz
theorem EAdd_ok (x y : IV) {H : Hp} {o : EO} (hG : Glb H) (hE : ErrAt H o) : callV cS false (fnV 82) [.d x.D, .d y.D] H = some (.val (.d (workD [x, y] (addX x y))), H) := by
  rw [callV_fn (sf := c82) rfl rfl rfl rfl]
  obtain ⟨H1, hH1⟩ : ∃ H1 : Hp, H1 = .box 99 [.d (.fn 24 [] [])] :: .box 29 [.d (.s []), .d (.s []), .d (.s []), .d (.s [])] :: .box 29 [.d (.s y.a), .d (.s y.b), .d (.s y.c), .d (.s y.d)] :: .box 29 [.d (.s x.a), .d (.s x.b), .d (.s x.c), .d (.s x.d)] :: H := ⟨_, rfl⟩
  have hG1 : Glb H1 := by rw [hH1]; exact (((hG.cons _).cons _).cons _).cons _
  have hE1 : ErrAt H1 o := by rw [hH1]; exact (((hE.cons _).cons _).cons _).cons _
  have hcomp := compute_work (F := .fn 129 [] [.p (H.length + 1 + 1 + 1) 0, .p H.length 0, .p (H.length + 1) 0]) (l := [x, y]) (by simp) hG1 hE1 (by simp) (addX_form x y) (by
    intro ha
    simp only [List.all_cons, List.all_nil, Bool.and_true, Bool.and_eq_true] at ha
    obtain ⟨p1, q1, f1, f2, _, hv1, a1, a2, a3, a4⟩ := IV.ends ha.1
    obtain ⟨p2, q2, f3, f4, _, hv2, b1, b2, b3, b4⟩ := IV.ends ha.2
    have hm : addX x y = pairO (sumO (fun x y => x + y) p1 p2) (sumO (fun x y => x + y) q1 q2) := by simp only [addX, hv1, hv2]
    rw [hm]
    exact add1_ok (h := cbH H1 zI 0) (k := H.length + 1 + 1 + 1) (i := H.length) (j := H.length + 1) f1 f2 f3 f4 ((hG1.cons _).cons _) ((hE1.cons _).cons _) (by rw [hH1]; simp [cbH, hget, put, eset, eget, D.cells, V.cells, allD, hget, hset, fz, List.zipIdx_cons, List.zipIdx_nil]) (by rw [hH1, ← a1, ← a2, ← a3, ← a4]; simp [cbH, hget, put, eset, eget, D.cells, V.cells, allD, hget, hset, fz, List.zipIdx_cons, List.zipIdx_nil]) (by rw [hH1, ← b1, ← b2, ← b3, ← b4]; simp [cbH, hget, put, eset, eget, D.cells, V.cells, allD, hget, hset, fz, List.zipIdx_cons, List.zipIdx_nil]))
  obtain ⟨s, t, u, v, e, he⟩ := workD_form (l := [x, y]) (addX_form x y)
  rw [he] at hcomp ⊢
  rw [hH1] at hcomp
  simp only [List.map_cons, List.map_nil, IV.D] at hcomp
  simp [c82, b82, put, eset, eget, D.cells, V.cells, allD, hget, hset, fz, List.zipIdx_cons, List.zipIdx_nil, IV.D, hcomp, setParts, chunk1, allCellsD]
theorem sub1_ok {h : Hp} {k i j : Nat} {o : EO} {p1 q1 p2 q2 : Rat} (f1 : RFits p1) (f2 : RFits q1) (f3 : RFits p2) (f4 : RFits q2) (hG : Glb h) (hE : ErrAt h o) (hk : hget h k = some (.box 99 [.d (.fn 18 [] [])])) (hi : hget h i = some (.box 29 [.d (.s (txt p1.num)), .d (.s (txt p1.den)), .d (.s (txt q1.num)), .d (.s (txt q1.den))])) (hj : hget h j = some (.box 29 [.d (.s (txt p2.num)), .d (.s (txt p2.den)), .d (.s (txt q2.num)), .d (.s (txt q2.den))])) :
    callV cS false (.fn 131 [] [.p k 0, .p i 0, .p j 0]) [] h = endW o h (pairO (sumO (fun x y => x - y) p1 q2) (sumO (fun x y => x - y) q1 p2)) := by
  rw [callV_fnV (sf := c131) rfl rfl rfl rfl]
  have hil := hget_lt' hi
  have hjl := hget_lt' hj
  have hkl := hget_lt' hk
  have ni : ¬ i = h.length := by omega
  have nj : ¬ j = h.length := by omega
  have nk : ¬ k = h.length := by omega
  have hG1 := hG.cons (.box 29 [.d (.s []), .d (.s []), .d (.s []), .d (.s [])])
  have hE1 := hE.cons (.box 29 [.d (.s []), .d (.s []), .d (.s []), .d (.s [])])
  have c1 := of_call sub_OpF f1 f4 hG1 hE1
  have c2 := of_call sub_OpF f2 f3 hG1 hE1
  have hf := fin_pan (h := h) (h' := .box 29 [.d (.s []), .d (.s []), .d (.s []), .d (.s [])] :: h) (v := eV o) (by simp [eV, vlt, hE.2]) (by simp) (by rw [HOk_cons' (Nat.le_refl _)]; exact HOk.refl h)
  rw [trunc_cons' (Nat.le_refl _), trunc_self] at hf
  cases h1 : sumO (fun x y => x - y) p1 q2 with
  | none =>
    rw [h1] at c1
    simp only [eV] at c1 hf
    simp [c131, b131, put, eset, eget, D.cells, V.cells, allD, hget, hset, fz, List.zipIdx_cons, List.zipIdx_nil, hk, hi, hj, ni, nj, nk, c1, hf, pairO, endW, eV]
  | some a =>
    rw [h1] at c1
    cases h2 : sumO (fun x y => x - y) q1 p2 with
    | none =>
      rw [h2] at c2
      simp only [eV] at c2 hf
      simp [c131, b131, put, eset, eget, D.cells, V.cells, allD, hget, hset, fz, List.zipIdx_cons, List.zipIdx_nil, hk, hi, hj, ni, nj, nk, c1, c2, hf, pairO, endW, eV]
    | some b =>
      rw [h2] at c2
      simp [c131, b131, put, eset, eget, D.cells, V.cells, allD, hget, hset, fz, List.zipIdx_cons, List.zipIdx_nil, hk, hi, hj, ni, nj, nk, c1, c2, pairO, endW, dI4, setParts, chunk1, allCellsD]
noncomputable def subX (x y : IV) : Option D := match VQ x.a x.b x.c x.d, VQ y.a y.b y.c y.d with
  | some (p1, q1), some (p2, q2) => pairO (sumO (fun x y => x - y) p1 q2) (sumO (fun x y => x - y) q1 p2)
  | _, _ => none
theorem subX_form (x y : IV) : ∀ z, subX x y = some z → ∃ s t u v, z = .agg [.s s, .s t, .s u, .s v] := by
  intro z hz
  unfold subX at hz
  split at hz
  · exact pairO_form _ _ z hz
  · cases hz
theorem ESub_ok (x y : IV) {H : Hp} {o : EO} (hG : Glb H) (hE : ErrAt H o) : callV cS false (fnV 83) [.d x.D, .d y.D] H = some (.val (.d (workD [x, y] (subX x y))), H) := by
  rw [callV_fn (sf := c83) rfl rfl rfl rfl]
  obtain ⟨H1, hH1⟩ : ∃ H1 : Hp, H1 = .box 99 [.d (.fn 18 [] [])] :: .box 29 [.d (.s []), .d (.s []), .d (.s []), .d (.s [])] :: .box 29 [.d (.s y.a), .d (.s y.b), .d (.s y.c), .d (.s y.d)] :: .box 29 [.d (.s x.a), .d (.s x.b), .d (.s x.c), .d (.s x.d)] :: H := ⟨_, rfl⟩
  have hG1 : Glb H1 := by rw [hH1]; exact (((hG.cons _).cons _).cons _).cons _
  have hE1 : ErrAt H1 o := by rw [hH1]; exact (((hE.cons _).cons _).cons _).cons _
  have hcomp := compute_work (F := .fn 131 [] [.p (H.length + 1 + 1 + 1) 0, .p H.length 0, .p (H.length + 1) 0]) (l := [x, y]) (by simp) hG1 hE1 (by simp) (subX_form x y) (by
    intro ha
    simp only [List.all_cons, List.all_nil, Bool.and_true, Bool.and_eq_true] at ha
    obtain ⟨p1, q1, f1, f2, _, hv1, a1, a2, a3, a4⟩ := IV.ends ha.1
    obtain ⟨p2, q2, f3, f4, _, hv2, b1, b2, b3, b4⟩ := IV.ends ha.2
    have hm : subX x y = pairO (sumO (fun x y => x - y) p1 q2) (sumO (fun x y => x - y) q1 p2) := by simp only [subX, hv1, hv2]
    rw [hm]
    exact sub1_ok (h := cbH H1 zI 0) (k := H.length + 1 + 1 + 1) (i := H.length) (j := H.length + 1) f1 f2 f3 f4 ((hG1.cons _).cons _) ((hE1.cons _).cons _) (by rw [hH1]; simp [cbH, hget, put, eset, eget, D.cells, V.cells, allD, hget, hset, fz, List.zipIdx_cons, List.zipIdx_nil]) (by rw [hH1, ← a1, ← a2, ← a3, ← a4]; simp [cbH, hget, put, eset, eget, D.cells, V.cells, allD, hget, hset, fz, List.zipIdx_cons, List.zipIdx_nil]) (by rw [hH1, ← b1, ← b2, ← b3, ← b4]; simp [cbH, hget, put, eset, eget, D.cells, V.cells, allD, hget, hset, fz, List.zipIdx_cons, List.zipIdx_nil]))
  obtain ⟨s, t, u, v, e, he⟩ := workD_form (l := [x, y]) (subX_form x y)
  rw [he] at hcomp ⊢
  rw [hH1] at hcomp
  simp only [List.map_cons, List.map_nil, IV.D] at hcomp
  simp [c83, b83, put, eset, eget, D.cells, V.cells, allD, hget, hset, fz, List.zipIdx_cons, List.zipIdx_nil, IV.D, hcomp, setParts, chunk1, allCellsD]
end Go.Proofs.YtmiioebapckcoaaGreatDoor
end
section
/- The law's list of all operations. Printed by wip/tools/mkCalls.py. -/
namespace Go.Proofs.YtmiioebapckcoaaGreatDoor
open Go Num
set_option maxRecDepth 4000

theorem hget_up {h h' : Hp} {x : Ob} {i : Nat} {y : Ob} (hh : h' = x :: h) (hg : hget h i = some y) : hget h' i = some y := by
  have := hget_lt' hg
  rw [hh]; unfold hget; rw [if_neg (by omega)]; exact hg
theorem hget_top {h h' : Hp} {x : Ob} (hh : h' = x :: h) : hget h' h.length = some x := by rw [hh]; unfold hget; rw [if_pos rfl]
theorem hset_out : ∀ (H : Hp) (o : Nat) (x : Ob), H.length ≤ o → hset H o x = H
  | [], _, _, _ => rfl
  | y :: H, o, x, h => by
    have h1 : ¬ o = H.length := by simp at h; omega
    unfold hset
    rw [if_neg h1, hset_out H o x (by simp at h; omega)]
theorem hset_app : ∀ (L H : Hp) (o : Nat) (x : Ob), H.length ≤ o → ∃ L', hset (L ++ H) o x = L' ++ H
  | [], H, o, x, h => ⟨[], by rw [List.nil_append, hset_out H o x h]⟩
  | y :: L, H, o, x, h => by
    rw [List.cons_append]
    unfold hset
    split
    · exact ⟨x :: L, rfl⟩
    · obtain ⟨L', e⟩ := hset_app L H o x h
      exact ⟨y :: L', by rw [e]; rfl⟩
theorem over_app : ∀ (L H : Hp), Over H (L ++ H)
  | [], H => Over.refl H
  | x :: L, H => (over_app L H).cons
/-- the heap between two rounds -/
structure CS (A B : IV) (pA pB o8 o9 : Nat) (xs es : List V) (H G : Hp) : Prop where
  a : hget G pA = some (.box 29 [.d (.s A.a), .d (.s A.b), .d (.s A.c), .d (.s A.d)])
  b : hget G pB = some (.box 29 [.d (.s B.a), .d (.s B.b), .d (.s B.c), .d (.s B.d)])
  x : hget G o8 = some (.gr 29 4 xs)
  e : hget G o9 = some (.gr 31 1 es)
  app : ∃ L, G = L ++ H
  l8 : H.length ≤ o8
  l9 : H.length ≤ o9
  ne : o8 ≠ o9
  a8 : o8 ≠ pA
  a9 : o9 ≠ pA
  b8 : o8 ≠ pB
  b9 : o9 ≠ pB
theorem CS.over {A B : IV} {pA pB o8 o9 : Nat} {xs es : List V} {H G : Hp} (c : CS A B pA pB o8 o9 xs es H G) : Over H G := by
  obtain ⟨L, e⟩ := c.app
  rw [e]; exact over_app L H
theorem CS.next {A B : IV} {pA pB o8 o9 : Nat} {xs es : List V} {H G : Hp} (c : CS A B pA pB o8 o9 xs es H G) (z : Ob) (v w : V) :
    CS A B pA pB o8 o9 (xs ++ [v]) (es ++ [w]) H (hset (hset (z :: G) o8 (.gr 29 4 (xs ++ [v]))) o9 (.gr 31 1 (es ++ [w]))) := by
  have la := hget_lt' c.a
  have lb := hget_lt' c.b
  have lx := hget_lt' c.x
  have le := hget_lt' c.e
  have up : ∀ {o : Nat}, o < G.length → hget (z :: G) o = hget G o := fun {o} h => by unfold hget; rw [if_neg (by omega)]; cases G <;> rfl
  have l8 : o8 < (z :: G).length := by simp; omega
  have l9 : o9 < (hset (z :: G) o8 (.gr 29 4 (xs ++ [v]))).length := by rw [hset_len]; simp; omega
  refine ⟨?_, ?_, ?_, ?_, ?_, c.l8, c.l9, c.ne, c.a8, c.a9, c.b8, c.b9⟩
  · rw [hget_hset_ne c.a9, hget_hset_ne c.a8, up la]; exact c.a
  · rw [hget_hset_ne c.b9, hget_hset_ne c.b8, up lb]; exact c.b
  · rw [hget_hset_ne c.ne.symm, hget_hset l8]
  · rw [hget_hset l9]
  · obtain ⟨L, e⟩ := c.app
    obtain ⟨L1, e1⟩ := hset_app (z :: L) H o8 (.gr 29 4 (xs ++ [v])) c.l8
    rw [e, ← List.cons_append, e1]
    exact hset_app L1 H o9 _ c.l9
/-- what a round asks of the heap -/
theorem CS.f {A B : IV} {pA pB o8 o9 : Nat} {xs es : List V} {H G : Hp} (c : CS A B pA pB o8 o9 xs es H G) :
    hget G pA = some (.box 29 [.d (.s A.a), .d (.s A.b), .d (.s A.c), .d (.s A.d)]) ∧ hget G pB = some (.box 29 [.d (.s B.a), .d (.s B.b), .d (.s B.c), .d (.s B.d)]) ∧ hget G o8 = some (.gr 29 4 xs) ∧ hget G o9 = some (.gr 31 1 es) ∧ ¬ pA = G.length ∧ ¬ pB = G.length ∧ ¬ o8 = G.length ∧ ¬ o9 = G.length ∧ ∀ Y, hget (hset G o8 Y) o9 = some (.gr 31 1 es) := by
  have ka := hget_lt' c.a
  have kb := hget_lt' c.b
  have kx := hget_lt' c.x
  have ke := hget_lt' c.e
  exact ⟨c.a, c.b, c.x, c.e, by omega, by omega, by omega, by omega, fun Y => by rw [hget_hset_ne c.ne]; exact c.e⟩
def clE (n : Int) (pA pB o8 o9 k : Nat) : En := [(2, .d (.i .i64 n)), (3, .p pA 0), (4, .p pB 0), (8, .gr o8 k), (9, .gr o9 k), (10, .d (.i .i64 k))]

theorem calls_r0 {A B r : IV} {pA pB o8 o9 : Nat} {xs es : List V} {H G : Hp} {n e : Int} (c : CS A B pA pB o8 o9 xs es H G) (hx : xs.length = 0) (he : es.length = 0)
    (hf : callV cS false (fnV 82) [.d (.agg [.s A.a, .s A.b, .s A.c, .s A.d]), .d (.agg [.s B.a, .s B.b, .s B.c, .s B.d])] (.box 29 [.d (.s []), .d (.s []), .d (.s []), .d (.s [])] :: G) = some (.val (.d (.tup [(.agg [.s r.a, .s r.b, .s r.c, .s r.d]), .i .i64 e])), .box 29 [.d (.s []), .d (.s []), .d (.s []), .d (.s [])] :: G)) :
    evI cS l31_0 none (clE n pA pB o8 o9 0) G = some (.nor, clE n pA pB o8 o9 1, hset (hset (.box 29 [.d (.s r.a), .d (.s r.b), .d (.s r.c), .d (.s r.d)] :: G) o8 (.gr 29 4 (xs ++ [.d (.agg [.s r.a, .s r.b, .s r.c, .s r.d])]))) o9 (.gr 31 1 (es ++ [.d (.i .i64 e)]))) := by
  have w : IntKind.i64.wrap 1 = 1 := wr64 (by omega) (by omega)
  simp [l31_0, clE, put, eset, eget, D.cells, V.cells, allD, hget, hset, fz, List.zipIdx_cons, List.zipIdx_nil, c.f, hf, hx, he, w, hset_len, evApp, elemsOf, allCells, allCellsD, setParts, chunk1, notGr]
theorem calls_r1 {A B r : IV} {pA pB o8 o9 : Nat} {xs es : List V} {H G : Hp} {n e : Int} (c : CS A B pA pB o8 o9 xs es H G) (hx : xs.length = 1) (he : es.length = 1)
    (hf : callV cS false (fnV 83) [.d (.agg [.s A.a, .s A.b, .s A.c, .s A.d]), .d (.agg [.s B.a, .s B.b, .s B.c, .s B.d])] (.box 29 [.d (.s []), .d (.s []), .d (.s []), .d (.s [])] :: G) = some (.val (.d (.tup [(.agg [.s r.a, .s r.b, .s r.c, .s r.d]), .i .i64 e])), .box 29 [.d (.s []), .d (.s []), .d (.s []), .d (.s [])] :: G)) :
    evI cS l31_0 none (clE n pA pB o8 o9 1) G = some (.nor, clE n pA pB o8 o9 2, hset (hset (.box 29 [.d (.s r.a), .d (.s r.b), .d (.s r.c), .d (.s r.d)] :: G) o8 (.gr 29 4 (xs ++ [.d (.agg [.s r.a, .s r.b, .s r.c, .s r.d])]))) o9 (.gr 31 1 (es ++ [.d (.i .i64 e)]))) := by
  have w : IntKind.i64.wrap 2 = 2 := wr64 (by omega) (by omega)
  simp [l31_0, clE, put, eset, eget, D.cells, V.cells, allD, hget, hset, fz, List.zipIdx_cons, List.zipIdx_nil, c.f, hf, hx, he, w, hset_len, evApp, elemsOf, allCells, allCellsD, setParts, chunk1, notGr]
theorem calls_r2 {A B r : IV} {pA pB o8 o9 : Nat} {xs es : List V} {H G : Hp} {n e : Int} (c : CS A B pA pB o8 o9 xs es H G) (hx : xs.length = 2) (he : es.length = 2)
    (hf : callV cS false (fnV 41) [.d (.agg [.s A.a, .s A.b, .s A.c, .s A.d]), .d (.agg [.s B.a, .s B.b, .s B.c, .s B.d])] (.box 29 [.d (.s []), .d (.s []), .d (.s []), .d (.s [])] :: G) = some (.val (.d (.tup [(.agg [.s r.a, .s r.b, .s r.c, .s r.d]), .i .i64 e])), .box 29 [.d (.s []), .d (.s []), .d (.s []), .d (.s [])] :: G)) :
    evI cS l31_0 none (clE n pA pB o8 o9 2) G = some (.nor, clE n pA pB o8 o9 3, hset (hset (.box 29 [.d (.s r.a), .d (.s r.b), .d (.s r.c), .d (.s r.d)] :: G) o8 (.gr 29 4 (xs ++ [.d (.agg [.s r.a, .s r.b, .s r.c, .s r.d])]))) o9 (.gr 31 1 (es ++ [.d (.i .i64 e)]))) := by
  have w : IntKind.i64.wrap 3 = 3 := wr64 (by omega) (by omega)
  simp [l31_0, clE, put, eset, eget, D.cells, V.cells, allD, hget, hset, fz, List.zipIdx_cons, List.zipIdx_nil, c.f, hf, hx, he, w, hset_len, evApp, elemsOf, allCells, allCellsD, setParts, chunk1, notGr]
theorem calls_r3 {A B r : IV} {pA pB o8 o9 : Nat} {xs es : List V} {H G : Hp} {n e : Int} (c : CS A B pA pB o8 o9 xs es H G) (hx : xs.length = 3) (he : es.length = 3)
    (hf : callV cS false (fnV 43) [.d (.agg [.s A.a, .s A.b, .s A.c, .s A.d]), .d (.agg [.s B.a, .s B.b, .s B.c, .s B.d])] (.box 29 [.d (.s []), .d (.s []), .d (.s []), .d (.s [])] :: G) = some (.val (.d (.tup [(.agg [.s r.a, .s r.b, .s r.c, .s r.d]), .i .i64 e])), .box 29 [.d (.s []), .d (.s []), .d (.s []), .d (.s [])] :: G)) :
    evI cS l31_0 none (clE n pA pB o8 o9 3) G = some (.nor, clE n pA pB o8 o9 4, hset (hset (.box 29 [.d (.s r.a), .d (.s r.b), .d (.s r.c), .d (.s r.d)] :: G) o8 (.gr 29 4 (xs ++ [.d (.agg [.s r.a, .s r.b, .s r.c, .s r.d])]))) o9 (.gr 31 1 (es ++ [.d (.i .i64 e)]))) := by
  have w : IntKind.i64.wrap 4 = 4 := wr64 (by omega) (by omega)
  simp [l31_0, clE, put, eset, eget, D.cells, V.cells, allD, hget, hset, fz, List.zipIdx_cons, List.zipIdx_nil, c.f, hf, hx, he, w, hset_len, evApp, elemsOf, allCells, allCellsD, setParts, chunk1, notGr]
theorem calls_r4 {A B r : IV} {pA pB o8 o9 : Nat} {xs es : List V} {H G : Hp} {n e : Int} (c : CS A B pA pB o8 o9 xs es H G) (hx : xs.length = 4) (he : es.length = 4)
    (hf : callV cS false (fnV 27) [.d (.agg [.s A.a, .s A.b, .s A.c, .s A.d]), .d (.agg [.s B.a, .s B.b, .s B.c, .s B.d])] (.box 29 [.d (.s []), .d (.s []), .d (.s []), .d (.s [])] :: G) = some (.val (.d (.tup [(.agg [.s r.a, .s r.b, .s r.c, .s r.d]), .i .i64 e])), .box 29 [.d (.s []), .d (.s []), .d (.s []), .d (.s [])] :: G)) :
    evI cS l31_0 none (clE n pA pB o8 o9 4) G = some (.nor, clE n pA pB o8 o9 5, hset (hset (.box 29 [.d (.s r.a), .d (.s r.b), .d (.s r.c), .d (.s r.d)] :: G) o8 (.gr 29 4 (xs ++ [.d (.agg [.s r.a, .s r.b, .s r.c, .s r.d])]))) o9 (.gr 31 1 (es ++ [.d (.i .i64 e)]))) := by
  have w : IntKind.i64.wrap 5 = 5 := wr64 (by omega) (by omega)
  simp [l31_0, clE, put, eset, eget, D.cells, V.cells, allD, hget, hset, fz, List.zipIdx_cons, List.zipIdx_nil, c.f, hf, hx, he, w, hset_len, evApp, elemsOf, allCells, allCellsD, setParts, chunk1, notGr]
theorem calls_r5 {A B r : IV} {pA pB o8 o9 : Nat} {xs es : List V} {H G : Hp} {n e : Int} (c : CS A B pA pB o8 o9 xs es H G) (hx : xs.length = 5) (he : es.length = 5)
    (hf : callV cS false (fnV 26) [.d (.agg [.s A.a, .s A.b, .s A.c, .s A.d]), .d (.agg [.s B.a, .s B.b, .s B.c, .s B.d])] (.box 29 [.d (.s []), .d (.s []), .d (.s []), .d (.s [])] :: G) = some (.val (.d (.tup [(.agg [.s r.a, .s r.b, .s r.c, .s r.d]), .i .i64 e])), .box 29 [.d (.s []), .d (.s []), .d (.s []), .d (.s [])] :: G)) :
    evI cS l31_0 none (clE n pA pB o8 o9 5) G = some (.nor, clE n pA pB o8 o9 6, hset (hset (.box 29 [.d (.s r.a), .d (.s r.b), .d (.s r.c), .d (.s r.d)] :: G) o8 (.gr 29 4 (xs ++ [.d (.agg [.s r.a, .s r.b, .s r.c, .s r.d])]))) o9 (.gr 31 1 (es ++ [.d (.i .i64 e)]))) := by
  have w : IntKind.i64.wrap 6 = 6 := wr64 (by omega) (by omega)
  simp [l31_0, clE, put, eset, eget, D.cells, V.cells, allD, hget, hset, fz, List.zipIdx_cons, List.zipIdx_nil, c.f, hf, hx, he, w, hset_len, evApp, elemsOf, allCells, allCellsD, setParts, chunk1, notGr]
theorem calls_r6 {A B r : IV} {pA pB o8 o9 : Nat} {xs es : List V} {H G : Hp} {n e : Int} (c : CS A B pA pB o8 o9 xs es H G) (hx : xs.length = 6) (he : es.length = 6)
    (hf : callV cS false (fnV 22) [.d (.agg [.s A.a, .s A.b, .s A.c, .s A.d]), .d (.i .i64 n)] (.box 29 [.d (.s []), .d (.s []), .d (.s []), .d (.s [])] :: G) = some (.val (.d (.tup [(.agg [.s r.a, .s r.b, .s r.c, .s r.d]), .i .i64 e])), .box 29 [.d (.s []), .d (.s []), .d (.s []), .d (.s [])] :: G)) :
    evI cS l31_0 none (clE n pA pB o8 o9 6) G = some (.nor, clE n pA pB o8 o9 7, hset (hset (.box 29 [.d (.s r.a), .d (.s r.b), .d (.s r.c), .d (.s r.d)] :: G) o8 (.gr 29 4 (xs ++ [.d (.agg [.s r.a, .s r.b, .s r.c, .s r.d])]))) o9 (.gr 31 1 (es ++ [.d (.i .i64 e)]))) := by
  have w : IntKind.i64.wrap 7 = 7 := wr64 (by omega) (by omega)
  simp [l31_0, clE, put, eset, eget, D.cells, V.cells, allD, hget, hset, fz, List.zipIdx_cons, List.zipIdx_nil, c.f, hf, hx, he, w, hset_len, evApp, elemsOf, allCells, allCellsD, setParts, chunk1, notGr]
theorem calls_r7 {A B r : IV} {pA pB o8 o9 : Nat} {xs es : List V} {H G : Hp} {n e : Int} (c : CS A B pA pB o8 o9 xs es H G) (hx : xs.length = 7) (he : es.length = 7)
    (hf : callV cS false (fnV 14) [.d (.agg [.s A.a, .s A.b, .s A.c, .s A.d]), .d (.i .i64 n)] (.box 29 [.d (.s []), .d (.s []), .d (.s []), .d (.s [])] :: G) = some (.val (.d (.tup [(.agg [.s r.a, .s r.b, .s r.c, .s r.d]), .i .i64 e])), .box 29 [.d (.s []), .d (.s []), .d (.s []), .d (.s [])] :: G)) :
    evI cS l31_0 none (clE n pA pB o8 o9 7) G = some (.nor, clE n pA pB o8 o9 8, hset (hset (.box 29 [.d (.s r.a), .d (.s r.b), .d (.s r.c), .d (.s r.d)] :: G) o8 (.gr 29 4 (xs ++ [.d (.agg [.s r.a, .s r.b, .s r.c, .s r.d])]))) o9 (.gr 31 1 (es ++ [.d (.i .i64 e)]))) := by
  have w : IntKind.i64.wrap 8 = 8 := wr64 (by omega) (by omega)
  simp [l31_0, clE, put, eset, eget, D.cells, V.cells, allD, hget, hset, fz, List.zipIdx_cons, List.zipIdx_nil, c.f, hf, hx, he, w, hset_len, evApp, elemsOf, allCells, allCellsD, setParts, chunk1, notGr]
theorem calls_end {pA pB o8 o9 : Nat} {G : Hp} {n : Int} : evI cS l31_0 none (clE n pA pB o8 o9 8) G = some (.ex 0, clE n pA pB o8 o9 8 ++ [(14, .d (.b false))], G) := by
  simp [l31_0, clE, put, eset, eget, D.cells, V.cells, allD, hget, hset, fz, List.zipIdx_cons, List.zipIdx_nil]
/-- a list of data, frozen -/
theorem omap_d (h : Hp) (n k : Nat) : ∀ (ds : List D), omap (fz h n (k + 1)) (ds.map .d) = some ds
  | [] => rfl
  | d :: ds => by
    rw [List.map_cons]
    unfold omap
    rw [omap_d h n k ds]
    simp [fz]
theorem fin_two {H G : Hp} {o8 o9 : Nat} {t8 s8 t9 s9 : Nat} {ds es : List D} (g8 : hget G o8 = some (.gr t8 s8 (ds.map .d))) (g9 : hget G o9 = some (.gr t9 s9 (es.map .d))) (h8 : H.length ≤ o8) (h9 : H.length ≤ o9) (happ : ∃ L, G = L ++ H) :
    fin false H (.ret (.tup [.gr o8 ds.length, .gr o9 es.length]), G) = some (.val (.d (.tup [.ls ds, .ls es])), H) := by
  have k8 : ¬ o8 < H.length := by omega
  have k9 : ¬ o9 < H.length := by omega
  have hz : fz G H.length 8 (.tup [.gr o8 ds.length, .gr o9 es.length]) = some (.tup [.ls ds, .ls es]) := by
    have e8 : fz G H.length 7 (.gr o8 ds.length) = some (.ls ds) := by
      unfold fz
      rw [if_neg k8, g8]
      simp only [List.length_map, if_true]
      rw [omap_d]
    have e9 : fz G H.length 7 (.gr o9 es.length) = some (.ls es) := by
      unfold fz
      rw [if_neg k9, g9]
      simp only [List.length_map, if_true]
      rw [omap_d]
    unfold fz
    simp only [omap, e8, e9]
  obtain ⟨L, rfl⟩ := happ
  simp only [fin, Bool.false_eq_true, if_false, hz]
  rw [if_pos ⟨by simp, HOk_app L H⟩, trunc_app]
theorem calls_ok {A B r0 r1 r2 r3 r4 r5 r6 r7 : IV} {n e0 e1 e2 e3 e4 e5 e6 e7 : Int} {H : Hp} {o : EO} (hG : Glb H) (hE : ErrAt H o)
    (f0 : ∀ h, Glb h → ErrAt h o → callV cS false (fnV 82) [.d (.agg [.s A.a, .s A.b, .s A.c, .s A.d]), .d (.agg [.s B.a, .s B.b, .s B.c, .s B.d])] h = some (.val (.d (.tup [(.agg [.s r0.a, .s r0.b, .s r0.c, .s r0.d]), .i .i64 e0])), h))
    (f1 : ∀ h, Glb h → ErrAt h o → callV cS false (fnV 83) [.d (.agg [.s A.a, .s A.b, .s A.c, .s A.d]), .d (.agg [.s B.a, .s B.b, .s B.c, .s B.d])] h = some (.val (.d (.tup [(.agg [.s r1.a, .s r1.b, .s r1.c, .s r1.d]), .i .i64 e1])), h))
    (f2 : ∀ h, Glb h → ErrAt h o → callV cS false (fnV 41) [.d (.agg [.s A.a, .s A.b, .s A.c, .s A.d]), .d (.agg [.s B.a, .s B.b, .s B.c, .s B.d])] h = some (.val (.d (.tup [(.agg [.s r2.a, .s r2.b, .s r2.c, .s r2.d]), .i .i64 e2])), h))
    (f3 : ∀ h, Glb h → ErrAt h o → callV cS false (fnV 43) [.d (.agg [.s A.a, .s A.b, .s A.c, .s A.d]), .d (.agg [.s B.a, .s B.b, .s B.c, .s B.d])] h = some (.val (.d (.tup [(.agg [.s r3.a, .s r3.b, .s r3.c, .s r3.d]), .i .i64 e3])), h))
    (f4 : ∀ h, Glb h → ErrAt h o → callV cS false (fnV 27) [.d (.agg [.s A.a, .s A.b, .s A.c, .s A.d]), .d (.agg [.s B.a, .s B.b, .s B.c, .s B.d])] h = some (.val (.d (.tup [(.agg [.s r4.a, .s r4.b, .s r4.c, .s r4.d]), .i .i64 e4])), h))
    (f5 : ∀ h, Glb h → ErrAt h o → callV cS false (fnV 26) [.d (.agg [.s A.a, .s A.b, .s A.c, .s A.d]), .d (.agg [.s B.a, .s B.b, .s B.c, .s B.d])] h = some (.val (.d (.tup [(.agg [.s r5.a, .s r5.b, .s r5.c, .s r5.d]), .i .i64 e5])), h))
    (f6 : ∀ h, Glb h → ErrAt h o → callV cS false (fnV 22) [.d (.agg [.s A.a, .s A.b, .s A.c, .s A.d]), .d (.i .i64 n)] h = some (.val (.d (.tup [(.agg [.s r6.a, .s r6.b, .s r6.c, .s r6.d]), .i .i64 e6])), h))
    (f7 : ∀ h, Glb h → ErrAt h o → callV cS false (fnV 14) [.d (.agg [.s A.a, .s A.b, .s A.c, .s A.d]), .d (.i .i64 n)] h = some (.val (.d (.tup [(.agg [.s r7.a, .s r7.b, .s r7.c, .s r7.d]), .i .i64 e7])), h)) :
    callV cS false (fnV 31) [.d (.agg [.s A.a, .s A.b, .s A.c, .s A.d]), .d (.agg [.s B.a, .s B.b, .s B.c, .s B.d]), .d (.i .i64 n)] H = some (.val (.d (.tup [.ls [(.agg [.s r0.a, .s r0.b, .s r0.c, .s r0.d]), (.agg [.s r1.a, .s r1.b, .s r1.c, .s r1.d]), (.agg [.s r2.a, .s r2.b, .s r2.c, .s r2.d]), (.agg [.s r3.a, .s r3.b, .s r3.c, .s r3.d]), (.agg [.s r4.a, .s r4.b, .s r4.c, .s r4.d]), (.agg [.s r5.a, .s r5.b, .s r5.c, .s r5.d]), (.agg [.s r6.a, .s r6.b, .s r6.c, .s r6.d]), (.agg [.s r7.a, .s r7.b, .s r7.c, .s r7.d])], .ls [.i .i64 e0, .i .i64 e1, .i .i64 e2, .i .i64 e3, .i .i64 e4, .i .i64 e5, .i .i64 e6, .i .i64 e7]])), H) := by
  rw [callV_fn (sf := c31) rfl rfl rfl rfl]
  obtain ⟨G, eG⟩ : ∃ G : Hp, G = .gr 31 1 [] :: .gr 29 4 [] :: .gr 31 1 [] :: .gr 29 4 [] :: .box 29 [.d (.s B.a), .d (.s B.b), .d (.s B.c), .d (.s B.d)] :: .box 29 [.d (.s A.a), .d (.s A.b), .d (.s A.c), .d (.s A.d)] :: H := ⟨_, rfl⟩
  have c0 : CS A B H.length (H.length + 1) (H.length + 1 + 1 + 1 + 1) (H.length + 1 + 1 + 1 + 1 + 1) [] [] H G := by
    subst eG
    refine ⟨by simp [put, eset, eget, D.cells, V.cells, allD, hget, hset, fz, List.zipIdx_cons, List.zipIdx_nil], by simp [put, eset, eget, D.cells, V.cells, allD, hget, hset, fz, List.zipIdx_cons, List.zipIdx_nil], by simp [put, eset, eget, D.cells, V.cells, allD, hget, hset, fz, List.zipIdx_cons, List.zipIdx_nil], by simp [put, eset, eget, D.cells, V.cells, allD, hget, hset, fz, List.zipIdx_cons, List.zipIdx_nil], ⟨[_, _, _, _, _, _], rfl⟩, by omega, by omega, by omega, by omega, by omega, by omega, by omega⟩
  have q0 := calls_r0 (n := n) c0 (by simp) (by simp) (f0 _ ((c0.over.cons).glb hG) ((c0.over.cons).err hE))
  have c1 := c0.next (.box 29 [.d (.s r0.a), .d (.s r0.b), .d (.s r0.c), .d (.s r0.d)]) (.d (.agg [.s r0.a, .s r0.b, .s r0.c, .s r0.d])) (.d (.i .i64 e0))
  simp only [List.nil_append, List.cons_append] at q0 c1
  generalize hset (hset (.box 29 [.d (.s r0.a), .d (.s r0.b), .d (.s r0.c), .d (.s r0.d)] :: G) _ _) _ _ = G1 at q0 c1
  have q1 := calls_r1 (n := n) c1 (by simp) (by simp) (f1 _ ((c1.over.cons).glb hG) ((c1.over.cons).err hE))
  have c2 := c1.next (.box 29 [.d (.s r1.a), .d (.s r1.b), .d (.s r1.c), .d (.s r1.d)]) (.d (.agg [.s r1.a, .s r1.b, .s r1.c, .s r1.d])) (.d (.i .i64 e1))
  simp only [List.nil_append, List.cons_append] at q1 c2
  generalize hset (hset (.box 29 [.d (.s r1.a), .d (.s r1.b), .d (.s r1.c), .d (.s r1.d)] :: G1) _ _) _ _ = G2 at q1 c2
  have q2 := calls_r2 (n := n) c2 (by simp) (by simp) (f2 _ ((c2.over.cons).glb hG) ((c2.over.cons).err hE))
  have c3 := c2.next (.box 29 [.d (.s r2.a), .d (.s r2.b), .d (.s r2.c), .d (.s r2.d)]) (.d (.agg [.s r2.a, .s r2.b, .s r2.c, .s r2.d])) (.d (.i .i64 e2))
  simp only [List.nil_append, List.cons_append] at q2 c3
  generalize hset (hset (.box 29 [.d (.s r2.a), .d (.s r2.b), .d (.s r2.c), .d (.s r2.d)] :: G2) _ _) _ _ = G3 at q2 c3
  have q3 := calls_r3 (n := n) c3 (by simp) (by simp) (f3 _ ((c3.over.cons).glb hG) ((c3.over.cons).err hE))
  have c4 := c3.next (.box 29 [.d (.s r3.a), .d (.s r3.b), .d (.s r3.c), .d (.s r3.d)]) (.d (.agg [.s r3.a, .s r3.b, .s r3.c, .s r3.d])) (.d (.i .i64 e3))
  simp only [List.nil_append, List.cons_append] at q3 c4
  generalize hset (hset (.box 29 [.d (.s r3.a), .d (.s r3.b), .d (.s r3.c), .d (.s r3.d)] :: G3) _ _) _ _ = G4 at q3 c4
  have q4 := calls_r4 (n := n) c4 (by simp) (by simp) (f4 _ ((c4.over.cons).glb hG) ((c4.over.cons).err hE))
  have c5 := c4.next (.box 29 [.d (.s r4.a), .d (.s r4.b), .d (.s r4.c), .d (.s r4.d)]) (.d (.agg [.s r4.a, .s r4.b, .s r4.c, .s r4.d])) (.d (.i .i64 e4))
  simp only [List.nil_append, List.cons_append] at q4 c5
  generalize hset (hset (.box 29 [.d (.s r4.a), .d (.s r4.b), .d (.s r4.c), .d (.s r4.d)] :: G4) _ _) _ _ = G5 at q4 c5
  have q5 := calls_r5 (n := n) c5 (by simp) (by simp) (f5 _ ((c5.over.cons).glb hG) ((c5.over.cons).err hE))
  have c6 := c5.next (.box 29 [.d (.s r5.a), .d (.s r5.b), .d (.s r5.c), .d (.s r5.d)]) (.d (.agg [.s r5.a, .s r5.b, .s r5.c, .s r5.d])) (.d (.i .i64 e5))
  simp only [List.nil_append, List.cons_append] at q5 c6
  generalize hset (hset (.box 29 [.d (.s r5.a), .d (.s r5.b), .d (.s r5.c), .d (.s r5.d)] :: G5) _ _) _ _ = G6 at q5 c6
  have q6 := calls_r6 (n := n) c6 (by simp) (by simp) (f6 _ ((c6.over.cons).glb hG) ((c6.over.cons).err hE))
  have c7 := c6.next (.box 29 [.d (.s r6.a), .d (.s r6.b), .d (.s r6.c), .d (.s r6.d)]) (.d (.agg [.s r6.a, .s r6.b, .s r6.c, .s r6.d])) (.d (.i .i64 e6))
  simp only [List.nil_append, List.cons_append] at q6 c7
  generalize hset (hset (.box 29 [.d (.s r6.a), .d (.s r6.b), .d (.s r6.c), .d (.s r6.d)] :: G6) _ _) _ _ = G7 at q6 c7
  have q7 := calls_r7 (n := n) c7 (by simp) (by simp) (f7 _ ((c7.over.cons).glb hG) ((c7.over.cons).err hE))
  have c8 := c7.next (.box 29 [.d (.s r7.a), .d (.s r7.b), .d (.s r7.c), .d (.s r7.d)]) (.d (.agg [.s r7.a, .s r7.b, .s r7.c, .s r7.d])) (.d (.i .i64 e7))
  simp only [List.nil_append, List.cons_append] at q7 c8
  generalize hset (hset (.box 29 [.d (.s r7.a), .d (.s r7.b), .d (.s r7.c), .d (.s r7.d)] :: G7) _ _) _ _ = G8 at q7 c8
  have q8 := calls_end (G := G8) (n := n) (pA := H.length) (pB := H.length + 1) (o8 := H.length + 1 + 1 + 1 + 1) (o9 := H.length + 1 + 1 + 1 + 1 + 1)
  have lp : evI cS (.loop l31_0) none (clE n H.length (H.length + 1) (H.length + 1 + 1 + 1 + 1) (H.length + 1 + 1 + 1 + 1 + 1) 0) G = some (.ex 0, clE n H.length (H.length + 1) (H.length + 1 + 1 + 1 + 1) (H.length + 1 + 1 + 1 + 1 + 1) 8 ++ [(14, .d (.b false))], G8) := by
    rw [evI_loop, q0]
    simp only [thenR]
    rw [evI_loop, q1]
    simp only [thenR]
    rw [evI_loop, q2]
    simp only [thenR]
    rw [evI_loop, q3]
    simp only [thenR]
    rw [evI_loop, q4]
    simp only [thenR]
    rw [evI_loop, q5]
    simp only [thenR]
    rw [evI_loop, q6]
    simp only [thenR]
    rw [evI_loop, q7]
    simp only [thenR]
    rw [evI_loop, q8]
    rfl
  have hf := fin_two (H := H) (G := G8) (ds := [(.agg [.s r0.a, .s r0.b, .s r0.c, .s r0.d]), (.agg [.s r1.a, .s r1.b, .s r1.c, .s r1.d]), (.agg [.s r2.a, .s r2.b, .s r2.c, .s r2.d]), (.agg [.s r3.a, .s r3.b, .s r3.c, .s r3.d]), (.agg [.s r4.a, .s r4.b, .s r4.c, .s r4.d]), (.agg [.s r5.a, .s r5.b, .s r5.c, .s r5.d]), (.agg [.s r6.a, .s r6.b, .s r6.c, .s r6.d]), (.agg [.s r7.a, .s r7.b, .s r7.c, .s r7.d])]) (es := [.i .i64 e0, .i .i64 e1, .i .i64 e2, .i .i64 e3, .i .i64 e4, .i .i64 e5, .i .i64 e6, .i .i64 e7]) c8.x c8.e c8.l8 c8.l9 c8.app
  rw [eG] at lp
  simp only [clE, Int.natCast_zero, show ((0 : Nat) : Int) = 0 from rfl, show ((8 : Nat) : Int) = 8 from rfl, List.cons_append, List.nil_append] at lp
  simp only [List.length_cons, List.length_nil] at hf
  simp [c31, b31, put, eset, eget, D.cells, V.cells, allD, hget, hset, fz, List.zipIdx_cons, List.zipIdx_nil, lp]
  exact hf
end Go.Proofs.YtmiioebapckcoaaGreatDoor
end
section
/- Operations of small fractions: what they answer. -/
namespace Go.Proofs.YtmiioebapckcoaaGreatDoor
open Go Num
set_option maxRecDepth 4000

/-- as small as the fractions of the law -/
def S3 (q : Rat) : Prop := q.num.natAbs ≤ 1000000000000 ∧ q.den ≤ 1000000000000
theorem big_fits {z : Int} (h : z.natAbs < 10 ^ 60) : Fits z := by
  unfold Fits
  exact Nat.lt_of_lt_of_le h (Nat.pow_le_pow_right (by omega) (by omega))
theorem S3.fits {q : Rat} (h : S3 q) : RFits q := by
  obtain ⟨h1, h2⟩ := h
  exact ⟨big_fits (by omega), big_fits (by simp only [Int.natAbs_natCast]; omega)⟩
theorem s3_of {q : Rat} (h : q.num.natAbs ≤ 999 ∧ q.den ≤ 60) : S3 q := ⟨by omega, by omega⟩
theorem abs_mul {x y : Int} {a b : Nat} (hx : x.natAbs ≤ a) (hy : y.natAbs ≤ b) : (x * y).natAbs ≤ a * b := by
  rw [Int.natAbs_mul]; exact Nat.mul_le_mul hx hy
theorem s3_prods {p q : Rat} (hp : S3 p) (hq : S3 q) : (p.num * q.den).natAbs ≤ 1000000000000000000000000 ∧ (q.num * p.den).natAbs ≤ 1000000000000000000000000 ∧ ((p.den : Int) * q.den).natAbs ≤ 1000000000000000000000000 ∧ (p.num * q.num).natAbs ≤ 1000000000000000000000000 ∧ ((p.den : Int) * q.num).natAbs ≤ 1000000000000000000000000 := by
  obtain ⟨h1, h2⟩ := hp
  obtain ⟨h3, h4⟩ := hq
  have e1 : ((p.den : Int)).natAbs ≤ 1000000000000 := by simp; omega
  have e2 : ((q.den : Int)).natAbs ≤ 1000000000000 := by simp; omega
  exact ⟨abs_mul h1 e2, abs_mul h3 e1, abs_mul e1 e2, abs_mul h1 h3, abs_mul e1 h3⟩
theorem den_mul_ne (p q : Rat) : (p.den : Int) * q.den ≠ 0 := by
  have := Int.mul_pos (den_pos p) (den_pos q); omega
theorem add_s3 {p q : Rat} (hp : S3 p) (hq : S3 q) : sumD (fun x y => x + y) p q = .tup [dR (p + q), .i .i64 0] ∧ sumO (fun x y => x + y) p q = some (p + q) ∧ RFits (p + q) := by
  obtain ⟨a1, a2, a3, _, _⟩ := s3_prods hp hq
  have f1 : Fits (p.num * q.den) := big_fits (by omega)
  have f2 : Fits (q.num * p.den) := big_fits (by omega)
  have f3 : Fits (p.num * q.den + q.num * p.den) := big_fits (by omega)
  have f4 : Fits ((p.den : Int) * q.den) := big_fits (by omega)
  have hn := den_mul_ne p q
  refine ⟨?_, ?_, ?_⟩
  · unfold sumD
    rw [if_pos ⟨f1, f2⟩, two, if_pos ⟨f3, f4⟩, makeD, if_neg hn, add_parts]
  · unfold sumO
    rw [if_pos ⟨f1, f2⟩, twoQ, if_pos ⟨f3, f4, hn⟩, add_parts]
  · rw [add_parts]; exact divInt_fits f3 f4 hn
theorem sub_s3 {p q : Rat} (hp : S3 p) (hq : S3 q) : sumD (fun x y => x - y) p q = .tup [dR (p - q), .i .i64 0] ∧ sumO (fun x y => x - y) p q = some (p - q) ∧ RFits (p - q) := by
  obtain ⟨a1, a2, a3, _, _⟩ := s3_prods hp hq
  have f1 : Fits (p.num * q.den) := big_fits (by omega)
  have f2 : Fits (q.num * p.den) := big_fits (by omega)
  have f3 : Fits (p.num * q.den - q.num * p.den) := big_fits (by omega)
  have f4 : Fits ((p.den : Int) * q.den) := big_fits (by omega)
  have hn := den_mul_ne p q
  refine ⟨?_, ?_, ?_⟩
  · unfold sumD
    rw [if_pos ⟨f1, f2⟩, two, if_pos ⟨f3, f4⟩, makeD, if_neg hn, sub_parts]
  · unfold sumO
    rw [if_pos ⟨f1, f2⟩, twoQ, if_pos ⟨f3, f4, hn⟩, sub_parts]
  · rw [sub_parts]; exact divInt_fits f3 f4 hn
theorem mul_s3 {p q : Rat} (hp : S3 p) (hq : S3 q) : two (p.num * q.num) ((p.den : Int) * q.den) = .tup [dR (p * q), .i .i64 0] ∧ twoQ (p.num * q.num) ((p.den : Int) * q.den) = some (p * q) ∧ RFits (p * q) := by
  obtain ⟨a1, a2, a3, a4, _⟩ := s3_prods hp hq
  have f3 : Fits (p.num * q.num) := big_fits (by omega)
  have f4 : Fits ((p.den : Int) * q.den) := big_fits (by omega)
  have hn := den_mul_ne p q
  refine ⟨?_, ?_, ?_⟩
  · rw [two, if_pos ⟨f3, f4⟩, makeD, if_neg hn, mul_parts]
  · rw [twoQ, if_pos ⟨f3, f4, hn⟩, mul_parts]
  · rw [mul_parts]; exact divInt_fits f3 f4 hn
theorem div_s3 {p q : Rat} (hp : S3 p) (hq : S3 q) (h0 : q ≠ 0) : two (p.num * q.den) ((p.den : Int) * q.num) = .tup [dR (p / q), .i .i64 0] ∧ twoQ (p.num * q.den) ((p.den : Int) * q.num) = some (p / q) ∧ RFits (p / q) := by
  obtain ⟨a1, a2, a3, a4, a5⟩ := s3_prods hp hq
  have f3 : Fits (p.num * q.den) := big_fits (by omega)
  have f4 : Fits ((p.den : Int) * q.num) := big_fits (by omega)
  have hn : (p.den : Int) * q.num ≠ 0 := by
    have h1 := den_pos p
    have h2 : q.num ≠ 0 := fun h => h0 (Rat.num_eq_zero.1 h)
    exact Int.mul_ne_zero (by omega) h2
  refine ⟨?_, ?_, ?_⟩
  · rw [two, if_pos ⟨f3, f4⟩, makeD, if_neg hn, div_parts']
  · rw [twoQ, if_pos ⟨f3, f4, hn⟩, div_parts']
  · rw [div_parts']; exact divInt_fits f3 f4 hn
theorem sum_call {p q : Rat} (hp : S3 p) (hq : S3 q) {h : Hp} (g : Glb h) : callV cS false (fnV 24) [.d (.agg [.s (txt p.num), .s (txt p.den)]), .d (.agg [.s (txt q.num), .s (txt q.den)])] h = some (.val (.d (.tup [.agg [.s (txt (p + q).num), .s (txt (p + q).den)], .i .i64 0])), h) := by
  rw [RAdd_ok _ _ _ _ _ g]
  simp only [opQ, RQ_txt hp.fits, RQ_txt hq.fits, (add_s3 hp hq).1]
  rfl
theorem dif_call {p q : Rat} (hp : S3 p) (hq : S3 q) {h : Hp} (g : Glb h) : callV cS false (fnV 18) [.d (.agg [.s (txt p.num), .s (txt p.den)]), .d (.agg [.s (txt q.num), .s (txt q.den)])] h = some (.val (.d (.tup [.agg [.s (txt (p - q).num), .s (txt (p - q).den)], .i .i64 0])), h) := by
  rw [RSub_ok _ _ _ _ _ g]
  simp only [opQ, RQ_txt hp.fits, RQ_txt hq.fits, (sub_s3 hp hq).1]
  rfl
theorem pro_call {p q : Rat} (hp : S3 p) (hq : S3 q) {h : Hp} (g : Glb h) : callV cS false (fnV 21) [.d (.agg [.s (txt p.num), .s (txt p.den)]), .d (.agg [.s (txt q.num), .s (txt q.den)])] h = some (.val (.d (.tup [.agg [.s (txt (p * q).num), .s (txt (p * q).den)], .i .i64 0])), h) := by
  rw [RMul_ok _ _ _ _ _ g]
  simp only [opQ, RQ_txt hp.fits, RQ_txt hq.fits, (mul_s3 hp hq).1]
  rfl
theorem quo_call {p q : Rat} (hp : S3 p) (hq : S3 q) (h0 : q ≠ 0) {h : Hp} (g : Glb h) : callV cS false (fnV 17) [.d (.agg [.s (txt p.num), .s (txt p.den)]), .d (.agg [.s (txt q.num), .s (txt q.den)])] h = some (.val (.d (.tup [.agg [.s (txt (p / q).num), .s (txt (p / q).den)], .i .i64 0])), h) := by
  rw [RDiv_ok _ _ _ _ _ g]
  simp only [opQ, RQ_txt hp.fits, RQ_txt hq.fits, (div_s3 hp hq h0).1]
  rfl
/-- the least and the greatest of four -/
def min4 (a b c d : Rat) : Rat := [b, c, d].foldl minQ a
def max4 (a b c d : Rat) : Rat := [b, c, d].foldl maxQ a
theorem min4_le (a b c d : Rat) : min4 a b c d ≤ a ∧ min4 a b c d ≤ b ∧ min4 a b c d ≤ c ∧ min4 a b c d ≤ d := by
  simp only [min4, List.foldl_cons, List.foldl_nil, minQ_eq]
  grind
theorem max4_ge (a b c d : Rat) : a ≤ max4 a b c d ∧ b ≤ max4 a b c d ∧ c ≤ max4 a b c d ∧ d ≤ max4 a b c d := by
  simp only [max4, List.foldl_cons, List.foldl_nil, maxQ_eq]
  grind
theorem min4_mem (a b c d : Rat) : min4 a b c d = a ∨ min4 a b c d = b ∨ min4 a b c d = c ∨ min4 a b c d = d := by
  simp only [min4, List.foldl_cons, List.foldl_nil, minQ_eq]
  grind
theorem max4_mem (a b c d : Rat) : max4 a b c d = a ∨ max4 a b c d = b ∨ max4 a b c d = c ∨ max4 a b c d = d := by
  simp only [max4, List.foldl_cons, List.foldl_nil, maxQ_eq]
  grind
theorem min4_max4 (a b c d : Rat) : min4 a b c d ≤ max4 a b c d := Rat.le_trans (min4_le a b c d).1 (max4_ge a b c d).1
section
variable {a1 a2 b1 b2 : Rat} (ha1 : S3 a1) (ha2 : S3 a2) (hb1 : S3 b1) (hb2 : S3 b2) (la : a1 ≤ a2) (lb : b1 ≤ b2)
include ha1 ha2 hb1 hb2 la lb
theorem EAdd_val {h : Hp} {o : EO} (g : Glb h) (e : ErrAt h o) : callV cS false (fnV 82) [.d (qV a1 a2).D, .d (qV b1 b2).D] h = some (.val (.d (.tup [(qV (a1 + b1) (a2 + b2)).D, .i .i64 0])), h) := by
  rw [EAdd_ok _ _ g e]
  have hx : addX (qV a1 a2) (qV b1 b2) = some (dI4 (a1 + b1) (a2 + b2)) := by
    unfold addX
    rw [VQ_qV ha1.fits ha2.fits la, VQ_qV hb1.fits hb2.fits lb]
    simp only [(add_s3 ha1 hb1).2.1, (add_s3 ha2 hb2).2.1, pairO]
  rw [hx, workD_two (qV_ok ha1.fits ha2.fits la) (qV_ok hb1.fits hb2.fits lb)]
  rfl
theorem ESub_val {h : Hp} {o : EO} (g : Glb h) (e : ErrAt h o) : callV cS false (fnV 83) [.d (qV a1 a2).D, .d (qV b1 b2).D] h = some (.val (.d (.tup [(qV (a1 - b2) (a2 - b1)).D, .i .i64 0])), h) := by
  rw [ESub_ok _ _ g e]
  have hx : subX (qV a1 a2) (qV b1 b2) = some (dI4 (a1 - b2) (a2 - b1)) := by
    unfold subX
    rw [VQ_qV ha1.fits ha2.fits la, VQ_qV hb1.fits hb2.fits lb]
    simp only [(sub_s3 ha1 hb2).2.1, (sub_s3 ha2 hb1).2.1, pairO]
  rw [hx, workD_two (qV_ok ha1.fits ha2.fits la) (qV_ok hb1.fits hb2.fits lb)]
  rfl
theorem EMul_val {h : Hp} {o : EO} (g : Glb h) (e : ErrAt h o) : callV cS false (fnV 41) [.d (qV a1 a2).D, .d (qV b1 b2).D] h = some (.val (.d (.tup [(qV (min4 (a1 * b1) (a1 * b2) (a2 * b1) (a2 * b2)) (max4 (a1 * b1) (a1 * b2) (a2 * b1) (a2 * b2))).D, .i .i64 0])), h) := by
  rw [EMul_ok _ _ g e]
  have hx : mulX (qV a1 a2) (qV b1 b2) = some (dI4 (min4 (a1 * b1) (a1 * b2) (a2 * b1) (a2 * b2)) (max4 (a1 * b1) (a1 * b2) (a2 * b1) (a2 * b2))) := by
    unfold mulX
    rw [VQ_qV ha1.fits ha2.fits la, VQ_qV hb1.fits hb2.fits lb]
    simp only [endsO, (mul_s3 ha1 hb1).2.1, (mul_s3 ha1 hb2).2.1, (mul_s3 ha2 hb1).2.1, (mul_s3 ha2 hb2).2.1]
    rfl
  rw [hx, workD_two (qV_ok ha1.fits ha2.fits la) (qV_ok hb1.fits hb2.fits lb)]
  rfl
theorem EDiv_val (h0 : ¬ (b1 ≤ 0 ∧ 0 ≤ b2)) {h : Hp} {o : EO} (g : Glb h) (e : ErrAt h o) : callV cS false (fnV 43) [.d (qV a1 a2).D, .d (qV b1 b2).D] h = some (.val (.d (.tup [(qV (min4 (a1 / b1) (a1 / b2) (a2 / b1) (a2 / b2)) (max4 (a1 / b1) (a1 / b2) (a2 / b1) (a2 / b2))).D, .i .i64 0])), h) := by
  rw [EDiv_ok _ _ g e]
  have n1 : b1 ≠ 0 := by grind
  have n2 : b2 ≠ 0 := by grind
  have hx : divX (qV a1 a2) (qV b1 b2) = some (dI4 (min4 (a1 / b1) (a1 / b2) (a2 / b1) (a2 / b2)) (max4 (a1 / b1) (a1 / b2) (a2 / b1) (a2 / b2))) := by
    unfold divX
    rw [VQ_qV ha1.fits ha2.fits la, VQ_qV hb1.fits hb2.fits lb]
    simp only [cmpQ_le]
    rw [if_neg h0]
    simp only [endsO, (div_s3 ha1 hb1 n1).2.1, (div_s3 ha1 hb2 n2).2.1, (div_s3 ha2 hb1 n1).2.1, (div_s3 ha2 hb2 n2).2.1]
    rfl
  rw [hx, workD_two (qV_ok ha1.fits ha2.fits la) (qV_ok hb1.fits hb2.fits lb)]
  rfl
theorem EDiv_zero (h0 : b1 ≤ 0 ∧ 0 ≤ b2) {h : Hp} {o : EO} (g : Glb h) (e : ErrAt h o) : callV cS false (fnV 43) [.d (qV a1 a2).D, .d (qV b1 b2).D] h = some (.val (.d errV), h) := by
  rw [EDiv_ok _ _ g e]
  have hx : divX (qV a1 a2) (qV b1 b2) = none := by
    unfold divX
    rw [VQ_qV ha1.fits ha2.fits la, VQ_qV hb1.fits hb2.fits lb]
    simp only [cmpQ_le]
    rw [if_pos h0]
  rw [hx, workD_none]
end
/-- an operation's answer, whatever it is -/
theorem work_any {l : List IV} {x : Option D} (hx : ∀ z, x = some z → ∃ s t u v, z = .agg [.s s, .s t, .s u, .s v]) : ∃ (r : IV) (e : Int), workD l x = .tup [r.D, .i .i64 e] := by
  obtain ⟨s, t, u, v, e, h⟩ := workD_form (l := l) hx
  exact ⟨⟨s, t, u, v⟩, e, h⟩
end Go.Proofs.YtmiioebapckcoaaGreatDoor
end
section
/- Pieces of code; a heap under another. -/
namespace Go.Proofs.YtmiioebapckcoaaGreatDoor
open Go Num
set_option maxRecDepth 4000

def tlC : Nat → C → C
  | 0, c => c
  | n + 1, .seq _ b => tlC n b
  | _, c => c
def unB : C → C
  | .block _ c => c
  | c => c
theorem hget_app : ∀ (L : Hp) {H : Hp} {i : Nat} {y : Ob}, hget H i = some y → hget (L ++ H) i = some y
  | [], _, _, _, h => h
  | x :: L, _, _, _, h => hget_up rfl (hget_app L h)
theorem glb_app : ∀ (L : Hp) {H : Hp}, Glb H → Glb (L ++ H)
  | [], _, h => h
  | x :: L, _, h => (glb_app L h).cons x
/-- a drawn region whose operations leave the heap as it is -/
noncomputable def evP (call : CallF) (keep : List Nat) : List DI → En → Hp → Option (Ex × En × Hp)
  | [], e, h => some (.nor, ekeep keep e, h)
  | d :: ds, e, h => match evG call d.so e h with
    | some (.val v, h') => open Classical in if h' = h then evP call keep ds (put e d.so.dst v) h else none
    | _ => none
theorem evD_P {call : CallF} {keep : List Nat} : ∀ {ds past : List DI} {e : En} {h : Hp} {r : Ex × En × Hp}, evP call keep ds e h = some r → evD call keep past ds e h = some r
  | [], _, _, _, _, hr => hr
  | d :: ds, past, e, h, r, hr => by
    rw [evP] at hr
    rw [evD]
    split at hr
    · rename_i v h' he
      rw [he]
      by_cases hh : h' = h
      · rw [if_pos hh] at hr
        simp only
        rw [if_pos (.inl hh), hh]
        exact evD_P hr
      · rw [if_neg hh] at hr; cases hr
    · cases hr
theorem evI_drawP {ds : List DI} {keep : List Nat} {e : En} {h : Hp} {r : Ex × En × Hp} (hr : evP cS keep ds (kills ds e) h = some r) : evI cS (.draw ds keep) none e h = some r := by
  rw [evI_draw]; exact evD_P hr
end Go.Proofs.YtmiioebapckcoaaGreatDoor
end
section
/- The law's pick. -/
namespace Go.Proofs.YtmiioebapckcoaaGreatDoor
open Go Num
set_option maxRecDepth 4000

theorem pick5_ok (x n : Int) (hx : I64 x) (hn : I64 n) (h0 : 0 < n) (H : Hp) : callV cS false (fnV 11) [.d (.i .i64 x), .d (.i .i64 n)] H = some (.val (.d (.i .i64 (pickI x n))), H) := by
  rw [callV_fn (sf := c11) rfl rfl rfl rfl]
  obtain ⟨a1, a2⟩ := hx
  obtain ⟨b1, b2⟩ := hn
  have hn0 : ¬ n = 0 := by omega
  have r0 := pickI_range x h0
  have r2 : IntKind.i64.wrap (pickI x n) = pickI x n := wr64 (by omega) (by omega)
  by_cases hneg : x < 0
  · have w1 : IntKind.i64.wrap (x + 1) = x + 1 := wr64 (by omega) (by omega)
    have w2 : IntKind.i64.wrap (-(x + 1)) = -(x + 1) := wr64 (by omega) (by omega)
    have r1 : (-(x + 1)).tmod n = pickI x n := by rw [Int.tmod_eq_emod_of_nonneg (by omega), pickI, if_pos hneg]
    obtain ⟨y, hy⟩ : ∃ y, y = -(x + 1) := ⟨_, rfl⟩
    rw [← hy] at w2 r1
    have hy' : y = -x + -1 := by omega
    simp [c11, b11, put, eset, eget, D.cells, V.cells, allD, hget, hset, fz, List.zipIdx_cons, List.zipIdx_nil, hneg, w1, hn0]
    rw [← hy, w2]
    simp [r1, r2]
  · have r1 : x.tmod n = pickI x n := by rw [Int.tmod_eq_emod_of_nonneg (by omega), pickI, if_neg hneg]
    simp [c11, b11, put, eset, eget, D.cells, V.cells, allD, hget, hset, fz, List.zipIdx_cons, List.zipIdx_nil, hneg, hn0, r1, r2]
end Go.Proofs.YtmiioebapckcoaaGreatDoor
end
section
/- Products, quotients, roots and roundings grow with their intervals. -/
namespace Go.Proofs.YtmiioebapckcoaaGreatDoor
open Go Num
set_option maxRecDepth 4000

theorem mul_pos_le {p q y : Rat} (h : p ≤ q) (hy : 0 ≤ y) : p * y ≤ q * y := Rat.mul_le_mul_of_nonneg_right h hy
theorem mul_neg_le {p q y : Rat} (h : p ≤ q) (hy : y ≤ 0) : q * y ≤ p * y := by
  have h1 := Rat.mul_le_mul_of_nonneg_right h (show 0 ≤ -y by grind)
  grind
/-- a product lies between a product with one end and one with the other -/
theorem mul_between {c1 c2 x y : Rat} (h1 : c1 ≤ x) (h2 : x ≤ c2) : (c1 * y ≤ x * y ∧ x * y ≤ c2 * y) ∨ (c2 * y ≤ x * y ∧ x * y ≤ c1 * y) := by
  by_cases hy : 0 ≤ y
  · exact .inl ⟨mul_pos_le h1 hy, mul_pos_le h2 hy⟩
  · have hy' : y ≤ 0 := by grind
    exact .inr ⟨mul_neg_le h2 hy', mul_neg_le h1 hy'⟩
theorem prod_in {c1 c2 d1 d2 x y : Rat} (h1 : c1 ≤ x) (h2 : x ≤ c2) (k1 : d1 ≤ y) (k2 : y ≤ d2) :
    min4 (c1 * d1) (c1 * d2) (c2 * d1) (c2 * d2) ≤ x * y ∧ x * y ≤ max4 (c1 * d1) (c1 * d2) (c2 * d1) (c2 * d2) := by
  obtain ⟨l0, l1, l2, l3⟩ := min4_le (c1 * d1) (c1 * d2) (c2 * d1) (c2 * d2)
  obtain ⟨u0, u1, u2, u3⟩ := max4_ge (c1 * d1) (c1 * d2) (c2 * d1) (c2 * d2)
  have hx := mul_between (y := y) h1 h2
  have hc1 := mul_between (y := c1) k1 k2
  have hc2 := mul_between (y := c2) k1 k2
  rw [Rat.mul_comm d1 c1, Rat.mul_comm d2 c1, Rat.mul_comm y c1] at hc1
  rw [Rat.mul_comm d1 c2, Rat.mul_comm d2 c2, Rat.mul_comm y c2] at hc2
  generalize min4 (c1 * d1) (c1 * d2) (c2 * d1) (c2 * d2) = mn at *
  generalize max4 (c1 * d1) (c1 * d2) (c2 * d1) (c2 * d2) = mx at *
  generalize c1 * d1 = p1 at *
  generalize c1 * d2 = p2 at *
  generalize c2 * d1 = p3 at *
  generalize c2 * d2 = p4 at *
  generalize c1 * y = p5 at *
  generalize c2 * y = p6 at *
  generalize x * y = p7 at *
  grind
theorem inv_anti {p q : Rat} (hp : 0 < p) (h : p ≤ q) : q⁻¹ ≤ p⁻¹ := by
  have hq : 0 < q := Std.lt_of_lt_of_le hp h
  have h1 : 0 < p⁻¹ := Rat.inv_pos.2 hp
  have h2 : 0 < q⁻¹ := Rat.inv_pos.2 hq
  have e1 : p * p⁻¹ = 1 := Rat.mul_inv_cancel p (by grind)
  have e2 : q * q⁻¹ = 1 := Rat.mul_inv_cancel q (by grind)
  have k := Rat.mul_le_mul_of_nonneg_right (Rat.mul_le_mul_of_nonneg_right h (show 0 ≤ p⁻¹ by grind)) (show 0 ≤ q⁻¹ by grind)
  rw [e1, Rat.one_mul, Rat.mul_comm q p⁻¹, Rat.mul_assoc, e2, Rat.mul_one] at k
  exact k
theorem quot_in {c1 c2 d1 d2 x y : Rat} (h1 : c1 ≤ x) (h2 : x ≤ c2) (k1 : d1 ≤ y) (k2 : y ≤ d2) (h0 : ¬ (d1 ≤ 0 ∧ 0 ≤ d2)) :
    min4 (c1 / d1) (c1 / d2) (c2 / d1) (c2 / d2) ≤ x / y ∧ x / y ≤ max4 (c1 / d1) (c1 / d2) (c2 / d1) (c2 / d2) := by
  have hi : d2⁻¹ ≤ y⁻¹ ∧ y⁻¹ ≤ d1⁻¹ := by
    by_cases hp : 0 < d1
    · exact ⟨inv_anti (Std.lt_of_lt_of_le hp k1) k2, inv_anti hp k1⟩
    · have hn : d2 < 0 := by grind
      have a1 := inv_anti (p := -d2) (q := -y) (by grind) (by grind)
      have a2 := inv_anti (p := -y) (q := -d1) (by grind) (by grind)
      have e : ∀ a : Rat, (-a)⁻¹ = -a⁻¹ := fun a => by grind
      rw [e, e] at a1 a2
      exact ⟨by grind, by grind⟩
  have h := prod_in h1 h2 hi.1 hi.2
  simp only [Rat.div_def]
  obtain ⟨l0, l1, l2, l3⟩ := min4_le (c1 * d1⁻¹) (c1 * d2⁻¹) (c2 * d1⁻¹) (c2 * d2⁻¹)
  obtain ⟨u0, u1, u2, u3⟩ := max4_ge (c1 * d1⁻¹) (c1 * d2⁻¹) (c2 * d1⁻¹) (c2 * d2⁻¹)
  have m1 := min4_mem (c1 * d2⁻¹) (c1 * d1⁻¹) (c2 * d2⁻¹) (c2 * d1⁻¹)
  have m2 := max4_mem (c1 * d2⁻¹) (c1 * d1⁻¹) (c2 * d2⁻¹) (c2 * d1⁻¹)
  grind
/-! roundings -/
theorem fdiv_mono {x P y Q : Int} (hP : 0 < P) (hQ : 0 < Q) (h : x * Q ≤ y * P) : x / P ≤ y / Q := by
  rw [Int.le_ediv_iff_mul_le hQ]
  have h1 : x / P * P ≤ x := Int.ediv_mul_le x (by omega)
  have h2 := Int.mul_le_mul_of_nonneg_right h1 (show 0 ≤ Q by omega)
  refine Int.le_of_mul_le_mul_right (a := P) ?_ hP
  have e : x / P * Q * P = x / P * P * Q := by rw [Int.mul_assoc, Int.mul_assoc, Int.mul_comm Q P]
  omega
theorem cross_mul {p q : Rat} (h : p ≤ q) {t : Int} (ht : 0 ≤ t) : p.num * t * q.den ≤ q.num * t * p.den := by
  have hc : p.num * q.den ≤ q.num * p.den := (Rat.le_iff _ _).1 h
  have := Int.mul_le_mul_of_nonneg_right hc ht
  rw [Int.mul_right_comm, Int.mul_right_comm q.num]
  exact this
theorem rdQ_mono {up : Bool} {n : Int} {p q : Rat} (h : p ≤ q) : rdQ up n p ≤ rdQ up n q := by
  have hT := tenP_pos n
  unfold rdQ
  rw [divInt_le hT hT]
  refine Int.mul_le_mul_of_nonneg_right ?_ (by omega)
  have hp := den_pos p
  have hq := den_pos q
  have hc := cross_mul h (show 0 ≤ tenP n by omega)
  cases up with
  | false =>
    have := fdiv_mono hp hq hc
    simpa [rdI] using this
  | true =>
    obtain ⟨a1, a2⟩ := rdI_up (p.num * tenP n) hp
    obtain ⟨b1, b2⟩ := rdI_up (q.num * tenP n) hq
    generalize rdI true (p.num * tenP n) p.den = a at *
    generalize rdI true (q.num * tenP n) q.den = b at *
    generalize p.num * tenP n = x at *
    generalize q.num * tenP n = y at *
    have h1 := Int.mul_lt_mul_of_pos_right a2 hq
    have h2 := Int.mul_le_mul_of_nonneg_right b1 (show 0 ≤ (p.den : Int) by omega)
    have h3 : (a - 1) * p.den * q.den < b * q.den * p.den := by omega
    rw [Int.mul_right_comm] at h3
    have h4 : (a - 1) * (q.den * p.den) < b * (q.den * p.den) := by rw [← Int.mul_assoc, ← Int.mul_assoc]; exact h3
    have h5 := Int.lt_of_mul_lt_mul_right h4 (Int.le_of_lt (Int.mul_pos hq hp))
    omega
theorem sq_le {x y : Int} (h0 : 0 ≤ x) (h : x ≤ y) : x * x ≤ y * y := Int.mul_le_mul h h h0 (by omega)
theorem rootK_mono {T : Int} {p q : Rat} (h : p ≤ q) : p.num * T * T / p.den ≤ q.num * T * T / q.den := by
  have hs : 0 ≤ T * T := by
    by_cases h : 0 ≤ T
    · exact Int.mul_nonneg h h
    · have := Int.mul_nonneg (a := -T) (b := -T) (by omega) (by omega)
      rwa [Int.neg_mul_neg] at this
  rw [Int.mul_assoc, Int.mul_assoc]
  exact fdiv_mono (den_pos p) (den_pos q) (cross_mul h hs)
theorem rootM_mono {T : Int} {p q : Rat} (p0 : 0 ≤ p.num) (q0 : 0 ≤ q.num) (h : p ≤ q) : rootM T p ≤ rootM T q := by
  obtain ⟨s0, s1, s2⟩ := rootM_sq (T := T) p0
  obtain ⟨t0, t1, t2⟩ := rootM_sq (T := T) q0
  have hk := rootK_mono (T := T) h
  refine Int.not_lt.1 fun hc => ?_
  have := sq_le (x := rootM T q + 1) (y := rootM T p) (by omega) (by omega)
  omega
theorem rootHi_mono {T : Int} {p q : Rat} (p0 : 0 ≤ p.num) (q0 : 0 ≤ q.num) (h : p ≤ q) : rootHi T p ≤ rootHi T q := by
  obtain ⟨s0, s1, s2⟩ := rootM_sq (T := T) p0
  obtain ⟨t0, t1, t2⟩ := rootM_sq (T := T) q0
  have hm := rootM_mono (T := T) p0 q0 h
  have hk := rootK_mono (T := T) h
  unfold rootHi
  by_cases hE : rootE T q = true
  · rw [if_pos hE]
    by_cases he : rootM T p = rootM T q
    · have hp : rootE T p = true := by
        unfold rootE at hE ⊢
        simp only [Bool.and_eq_true, decide_eq_true_eq] at hE ⊢
        obtain ⟨r0, m0⟩ := hE
        have k1 : p.num * T * T / p.den = rootM T p * rootM T p := by rw [he] at s1 ⊢; omega
        refine ⟨?_, k1.symm⟩
        have hs : 0 ≤ T * T := by
          by_cases h : 0 ≤ T
          · exact Int.mul_nonneg h h
          · have := Int.mul_nonneg (a := -T) (b := -T) (by omega) (by omega)
            rwa [Int.neg_mul_neg] at this
        have hc := cross_mul h hs
        rw [← Int.mul_assoc, ← Int.mul_assoc] at hc
        have dp := den_pos p
        have dq := den_pos q
        have e1 := Int.mul_ediv_add_emod (p.num * T * T) p.den
        have e2 := Int.mul_ediv_add_emod (q.num * T * T) q.den
        have n1 := Int.emod_nonneg (p.num * T * T) (show (p.den : Int) ≠ 0 by omega)
        rw [k1, he] at e1
        rw [r0, ← m0] at e2
        generalize p.num * T * T % p.den = r at *
        generalize p.num * T * T = x at *
        generalize q.num * T * T = y at *
        generalize rootM T q * rootM T q = m at *
        have h3 : (p.den * m + r) * q.den ≤ (q.den * m) * p.den := by rw [e1]; rw [Int.add_zero] at e2; rw [e2]; exact hc
        rw [Int.add_mul] at h3
        have h4 : (p.den : Int) * m * q.den = q.den * m * p.den := by rw [Int.mul_comm (p.den : Int) m, Int.mul_comm (q.den : Int) m, Int.mul_right_comm]
        have h5 : r * q.den ≤ 0 := by omega
        by_cases hr : r = 0
        · exact hr
        · have := Int.mul_pos (show 0 < r by omega) dq
          omega
      rw [if_pos hp]; omega
    · split <;> omega
  · rw [if_neg hE]
    split <;> omega
end Go.Proofs.YtmiioebapckcoaaGreatDoor
end
section
/- What the hull of two intervals is. -/
namespace Go.Proofs.YtmiioebapckcoaaGreatDoor
open Go Num
set_option maxRecDepth 4000

theorem hull_lo {a1 a2 b1 b2 : Rat} (ha : a1 ≤ a2) (hb : b1 ≤ b2) : [a2, b1, b2].foldl minQ a1 = if b1 < a1 then b1 else a1 := by
  simp only [List.foldl_cons, List.foldl_nil, minQ_eq]
  grind
theorem hull_hi {a1 a2 b1 b2 : Rat} (ha : a1 ≤ a2) (hb : b1 ≤ b2) : [a2, b1, b2].foldl maxQ a1 = if a2 < b2 then b2 else a2 := by
  simp only [List.foldl_cons, List.foldl_nil, maxQ_eq]
  grind
theorem hull_val {a1 a2 b1 b2 : Rat} (f1 : RFits a1) (f2 : RFits a2) (f3 : RFits b1) (f4 : RFits b2) (ha : a1 ≤ a2) (hb : b1 ≤ b2) {h : Hp} {o : EO} (g : Glb h) (e : ErrAt h o) :
    callV cS false (fnV 27) [.d (dI4 a1 a2), .d (dI4 b1 b2)] h = some (.val (.d (.tup [dI4 (if b1 < a1 then b1 else a1) (if a2 < b2 then b2 else a2), .i .i64 0])), h) := by
  have := EHull_ok (qV a1 a2) (qV b1 b2) g e
  have hx : hullX (qV a1 a2) (qV b1 b2) = some (dI4 (if b1 < a1 then b1 else a1) (if a2 < b2 then b2 else a2)) := by
    unfold hullX
    rw [VQ_qV f1 f2 ha, VQ_qV f3 f4 hb]
    simp only [hullQ]
    rw [hull_lo ha hb, hull_hi ha hb]
  rw [hx, workD_two (qV_ok f1 f2 ha) (qV_ok f3 f4 hb)] at this
  exact this
end Go.Proofs.YtmiioebapckcoaaGreatDoor
end
section
/- Two pairs of intervals, one within the other: what the operations answer for both. -/
namespace Go.Proofs.YtmiioebapckcoaaGreatDoor
open Go Num
set_option maxRecDepth 4000

theorem S3.sh {q : Rat} (h : S3 q) : Sh q := by
  obtain ⟨h1, h2⟩ := h
  have : (10 : Nat) ^ 12 ≤ 10 ^ 100 := Nat.pow_le_pow_right (by omega) (by omega)
  exact ⟨by omega, by omega⟩
/-- one operation for two pairs, of which the second pair is wider: both answers, and that the first lies within the second, if there is one -/
def Both (o : EO) (f : FuncId) (A C' : List V) (strict : Bool) : Prop := ∃ (r : IV) (e : Int) (m : IV) (g : Int),
  (∀ h, Glb h → ErrAt h o → callV cS false (fnV f) A h = some (.val (.d (.tup [.agg [.s r.a, .s r.b, .s r.c, .s r.d], .i .i64 e])), h)) ∧
  (∀ h, Glb h → ErrAt h o → callV cS false (fnV f) C' h = some (.val (.d (.tup [.agg [.s m.a, .s m.b, .s m.c, .s m.d], .i .i64 g])), h)) ∧
  (g = 0 → strict = true → e = 0) ∧
  (g = 0 → e = 0 → ∀ h, Glb h → callV cS false (fnV 15) [.d (.agg [.s r.a, .s r.b, .s r.c, .s r.d]), .d (.agg [.s m.a, .s m.b, .s m.c, .s m.d])] h = some (.val (.d (.b true)), h))
theorem within_q {lo hi L U : Rat} (fl : RFits lo) (fh : RFits hi) (fL : RFits L) (fU : RFits U) (h1 : L ≤ lo) (h2 : lo ≤ hi) (h3 : hi ≤ U) (h : Hp) (g : Glb h) :
    callV cS false (fnV 15) [.d (.agg [.s (qV lo hi).a, .s (qV lo hi).b, .s (qV lo hi).c, .s (qV lo hi).d]), .d (.agg [.s (qV L U).a, .s (qV L U).b, .s (qV L U).c, .s (qV L U).d])] h = some (.val (.d (.b true)), h) := within_val fl fh fL fU h1 h2 h3 g
section
variable {a1 a2 b1 b2 c1 c2 d1 d2 : Rat} (ha1 : S3 a1) (ha2 : S3 a2) (hb1 : S3 b1) (hb2 : S3 b2) (hc1 : S3 c1) (hc2 : S3 c2) (hd1 : S3 d1) (hd2 : S3 d2)
  (la : a1 ≤ a2) (lb : b1 ≤ b2) (wa1 : c1 ≤ a1) (wa2 : a2 ≤ c2) (wb1 : d1 ≤ b1) (wb2 : b2 ≤ d2) (o : EO)
include ha1 ha2 hb1 hb2 hc1 hc2 hd1 hd2 la lb wa1 wa2 wb1 wb2
theorem both_add : Both o 82 [.d (qV a1 a2).D, .d (qV b1 b2).D] [.d (qV c1 c2).D, .d (qV d1 d2).D] true := by
  have lc : c1 ≤ c2 := by grind
  have ld : d1 ≤ d2 := by grind
  refine ⟨qV _ _, 0, qV _ _, 0, fun h g e => EAdd_val ha1 ha2 hb1 hb2 la lb g e, fun h g e => EAdd_val hc1 hc2 hd1 hd2 lc ld g e, fun _ _ => rfl, fun _ _ => ?_⟩
  exact within_q (add_s3 ha1 hb1).2.2 (add_s3 ha2 hb2).2.2 (add_s3 hc1 hd1).2.2 (add_s3 hc2 hd2).2.2 (by grind) (by grind) (by grind)
theorem both_sub : Both o 83 [.d (qV a1 a2).D, .d (qV b1 b2).D] [.d (qV c1 c2).D, .d (qV d1 d2).D] true := by
  have lc : c1 ≤ c2 := by grind
  have ld : d1 ≤ d2 := by grind
  refine ⟨qV _ _, 0, qV _ _, 0, fun h g e => ESub_val ha1 ha2 hb1 hb2 la lb g e, fun h g e => ESub_val hc1 hc2 hd1 hd2 lc ld g e, fun _ _ => rfl, fun _ _ => ?_⟩
  exact within_q (sub_s3 ha1 hb2).2.2 (sub_s3 ha2 hb1).2.2 (sub_s3 hc1 hd2).2.2 (sub_s3 hc2 hd1).2.2 (by grind) (by grind) (by grind)
omit ha1 ha2 hb1 hb2 la lb wa1 wa2 wb1 wb2 hc1 hc2 hd1 hd2 in
theorem fits_min4 {p q r s : Rat} (f1 : RFits p) (f2 : RFits q) (f3 : RFits r) (f4 : RFits s) : RFits (min4 p q r s) ∧ RFits (max4 p q r s) := by
  constructor
  · rcases min4_mem p q r s with h | h | h | h <;> rw [h] <;> assumption
  · rcases max4_mem p q r s with h | h | h | h <;> rw [h] <;> assumption
theorem both_mul : Both o 41 [.d (qV a1 a2).D, .d (qV b1 b2).D] [.d (qV c1 c2).D, .d (qV d1 d2).D] true := by
  have lc : c1 ≤ c2 := by grind
  have ld : d1 ≤ d2 := by grind
  refine ⟨qV _ _, 0, qV _ _, 0, fun h g e => EMul_val ha1 ha2 hb1 hb2 la lb g e, fun h g e => EMul_val hc1 hc2 hd1 hd2 lc ld g e, fun _ _ => rfl, fun _ _ => ?_⟩
  obtain ⟨f1, f2⟩ := fits_min4 (mul_s3 ha1 hb1).2.2 (mul_s3 ha1 hb2).2.2 (mul_s3 ha2 hb1).2.2 (mul_s3 ha2 hb2).2.2
  obtain ⟨f3, f4⟩ := fits_min4 (mul_s3 hc1 hd1).2.2 (mul_s3 hc1 hd2).2.2 (mul_s3 hc2 hd1).2.2 (mul_s3 hc2 hd2).2.2
  have p1 := prod_in (c1 := c1) (c2 := c2) (d1 := d1) (d2 := d2) (x := a1) (y := b1) (by grind) (by grind) (by grind) (by grind)
  have p2 := prod_in (c1 := c1) (c2 := c2) (d1 := d1) (d2 := d2) (x := a1) (y := b2) (by grind) (by grind) (by grind) (by grind)
  have p3 := prod_in (c1 := c1) (c2 := c2) (d1 := d1) (d2 := d2) (x := a2) (y := b1) (by grind) (by grind) (by grind) (by grind)
  have p4 := prod_in (c1 := c1) (c2 := c2) (d1 := d1) (d2 := d2) (x := a2) (y := b2) (by grind) (by grind) (by grind) (by grind)
  refine within_q f1 f2 f3 f4 ?_ (min4_max4 _ _ _ _) ?_
  · rcases min4_mem (a1 * b1) (a1 * b2) (a2 * b1) (a2 * b2) with h | h | h | h <;> rw [h]
    · exact p1.1
    · exact p2.1
    · exact p3.1
    · exact p4.1
  · rcases max4_mem (a1 * b1) (a1 * b2) (a2 * b1) (a2 * b2) with h | h | h | h <;> rw [h]
    · exact p1.2
    · exact p2.2
    · exact p3.2
    · exact p4.2
theorem both_div : Both o 43 [.d (qV a1 a2).D, .d (qV b1 b2).D] [.d (qV c1 c2).D, .d (qV d1 d2).D] true := by
  have lc : c1 ≤ c2 := by grind
  have ld : d1 ≤ d2 := by grind
  by_cases hz : d1 ≤ 0 ∧ 0 ≤ d2
  · obtain ⟨r, e, w⟩ := work_any (l := [qV a1 a2, qV b1 b2]) (divX_form (qV a1 a2) (qV b1 b2))
    exact ⟨r, e, ⟨[], [], [], []⟩, 50, fun h g eh => (EDiv_ok (qV a1 a2) (qV b1 b2) g eh).trans (by rw [w]; rfl), fun h g eh => EDiv_zero hc1 hc2 hd1 hd2 lc ld hz g eh, fun h => by omega, fun h => by omega⟩
  · have hb : ¬ (b1 ≤ 0 ∧ 0 ≤ b2) := by grind
    have n1 : b1 ≠ 0 := by grind
    have n2 : b2 ≠ 0 := by grind
    have n3 : d1 ≠ 0 := by grind
    have n4 : d2 ≠ 0 := by grind
    refine ⟨qV _ _, 0, qV _ _, 0, fun h g e => EDiv_val ha1 ha2 hb1 hb2 la lb hb g e, fun h g e => EDiv_val hc1 hc2 hd1 hd2 lc ld hz g e, fun _ _ => rfl, fun _ _ => ?_⟩
    obtain ⟨f1, f2⟩ := fits_min4 (div_s3 ha1 hb1 n1).2.2 (div_s3 ha1 hb2 n2).2.2 (div_s3 ha2 hb1 n1).2.2 (div_s3 ha2 hb2 n2).2.2
    obtain ⟨f3, f4⟩ := fits_min4 (div_s3 hc1 hd1 n3).2.2 (div_s3 hc1 hd2 n4).2.2 (div_s3 hc2 hd1 n3).2.2 (div_s3 hc2 hd2 n4).2.2
    have p1 := quot_in (c1 := c1) (c2 := c2) (d1 := d1) (d2 := d2) (x := a1) (y := b1) (by grind) (by grind) (by grind) (by grind) hz
    have p2 := quot_in (c1 := c1) (c2 := c2) (d1 := d1) (d2 := d2) (x := a1) (y := b2) (by grind) (by grind) (by grind) (by grind) hz
    have p3 := quot_in (c1 := c1) (c2 := c2) (d1 := d1) (d2 := d2) (x := a2) (y := b1) (by grind) (by grind) (by grind) (by grind) hz
    have p4 := quot_in (c1 := c1) (c2 := c2) (d1 := d1) (d2 := d2) (x := a2) (y := b2) (by grind) (by grind) (by grind) (by grind) hz
    refine within_q f1 f2 f3 f4 ?_ (min4_max4 _ _ _ _) ?_
    · rcases min4_mem (a1 / b1) (a1 / b2) (a2 / b1) (a2 / b2) with h | h | h | h <;> rw [h]
      · exact p1.1
      · exact p2.1
      · exact p3.1
      · exact p4.1
    · rcases max4_mem (a1 / b1) (a1 / b2) (a2 / b1) (a2 / b2) with h | h | h | h <;> rw [h]
      · exact p1.2
      · exact p2.2
      · exact p3.2
      · exact p4.2
theorem both_hull : Both o 27 [.d (qV a1 a2).D, .d (qV b1 b2).D] [.d (qV c1 c2).D, .d (qV d1 d2).D] true := by
  have lc : c1 ≤ c2 := by grind
  have ld : d1 ≤ d2 := by grind
  refine ⟨qV _ _, 0, qV _ _, 0, fun h g e => hull_val ha1.fits ha2.fits hb1.fits hb2.fits la lb g e, fun h g e => hull_val hc1.fits hc2.fits hd1.fits hd2.fits lc ld g e, fun _ _ => rfl, fun _ _ => ?_⟩
  refine within_q ?_ ?_ ?_ ?_ (by grind) (by grind) (by grind)
  · split <;> first | exact hb1.fits | exact ha1.fits
  · split <;> first | exact hb2.fits | exact ha2.fits
  · split <;> first | exact hd1.fits | exact hc1.fits
  · split <;> first | exact hd2.fits | exact hc2.fits
theorem both_meet : Both o 26 [.d (qV a1 a2).D, .d (qV b1 b2).D] [.d (qV c1 c2).D, .d (qV d1 d2).D] false := by
  have lc : c1 ≤ c2 := by grind
  have ld : d1 ≤ d2 := by grind
  have key : ∀ {p1 p2 q1 q2 : Rat}, S3 p1 → S3 p2 → S3 q1 → S3 q2 → p1 ≤ p2 → q1 ≤ q2 → ((maxQ p1 q1 ≤ minQ p2 q2 ∧ (∀ h, Glb h → ErrAt h o → callV cS false (fnV 26) [.d (qV p1 p2).D, .d (qV q1 q2).D] h = some (.val (.d (.tup [(qV (maxQ p1 q1) (minQ p2 q2)).D, .i .i64 0])), h))) ∨
      (∀ h, Glb h → ErrAt h o → callV cS false (fnV 26) [.d (qV p1 p2).D, .d (qV q1 q2).D] h = some (.val (.d errV), h))) := by
    intro p1 p2 q1 q2 h1 h2 h3 h4 l1 l2
    have hx : meetX (qV p1 p2) (qV q1 q2) = if cmpQ (maxQ p1 q1) (minQ p2 q2) ≤ 0 then some (dI4 (maxQ p1 q1) (minQ p2 q2)) else none := by
      unfold meetX
      rw [VQ_qV h1.fits h2.fits l1, VQ_qV h3.fits h4.fits l2]
      rfl
    by_cases hc : cmpQ (maxQ p1 q1) (minQ p2 q2) ≤ 0
    · rw [if_pos hc] at hx
      refine .inl ⟨cmpQ_le.1 hc, fun h g e => ?_⟩
      rw [EMeet_ok _ _ g e, hx, workD_two (qV_ok h1.fits h2.fits l1) (qV_ok h3.fits h4.fits l2)]
      rfl
    · rw [if_neg hc] at hx
      refine .inr fun h g e => ?_
      rw [EMeet_ok _ _ g e, hx, workD_none]
  have fm : ∀ {p q : Rat}, S3 p → S3 q → RFits (maxQ p q) ∧ RFits (minQ p q) := by
    intro p q h1 h2
    rw [maxQ_eq, minQ_eq]
    constructor <;> split <;> first | exact h1.fits | exact h2.fits
  rcases key hc1 hc2 hd1 hd2 lc ld with ⟨k1, w1⟩ | w1
  · rcases key ha1 ha2 hb1 hb2 la lb with ⟨k2, w2⟩ | w2
    · refine ⟨qV _ _, 0, qV _ _, 0, w2, w1, fun _ h => (by cases h), fun _ _ => ?_⟩
      refine within_q (fm ha1 hb1).1 (fm ha2 hb2).2 (fm hc1 hd1).1 (fm hc2 hd2).2 ?_ k2 ?_
      · rw [maxQ_eq, maxQ_eq]; grind
      · rw [minQ_eq, minQ_eq]; grind
    · exact ⟨⟨[], [], [], []⟩, 50, qV _ _, 0, w2, w1, fun _ h => (by cases h), fun _ h => by omega⟩
  · obtain ⟨r, e, w⟩ := work_any (l := [qV a1 a2, qV b1 b2]) (meetX_form (qV a1 a2) (qV b1 b2))
    exact ⟨r, e, ⟨[], [], [], []⟩, 50, fun h g eh => (EMeet_ok (qV a1 a2) (qV b1 b2) g eh).trans (by rw [w]; rfl), w1, fun h => by omega, fun h => by omega⟩
omit hb1 hb2 hd1 hd2 lb wb1 wb2 in
theorem both_round {n : Int} (h0 : 0 ≤ n) (h11 : n ≤ 11) : Both o 14 [.d (qV a1 a2).D, .d (.i .i64 n)] [.d (qV c1 c2).D, .d (.i .i64 n)] true := by
  have lc : c1 ≤ c2 := by grind
  have h30 : n ≤ 30 := by omega
  have key : ∀ {p q : Rat}, S3 p → S3 q → p ≤ q → ∀ h, Glb h → ErrAt h o → callV cS false (fnV 14) [.d (qV p q).D, .d (.i .i64 n)] h = some (.val (.d (.tup [(qV (rdQ false n p) (rdQ true n q)).D, .i .i64 0])), h) := by
    intro p q hp hq hl h g e
    have := ERound_ok (qV p q) n (by unfold I64; omega) g e
    have he : pairD (opQ1 (rdD false n) errR (qV p q).a (qV p q).b) (opQ1 (rdD true n) errR (qV p q).c (qV p q).d) = some (dI4 (rdQ false n p) (rdQ true n q)) := by
      simp only [qV, opQ1, RQ_txt hp.fits, RQ_txt hq.fits, rdD_eq false h0 h30 (hp.sh.fitT h30), rdD_eq true h0 h30 (hq.sh.fitT h30)]
      rfl
    rw [he, workD_one (qV_ok hp.fits hq.fits hl)] at this
    exact this
  refine ⟨qV _ _, 0, qV _ _, 0, key ha1 ha2 la, key hc1 hc2 lc, fun _ _ => rfl, fun _ _ => ?_⟩
  refine within_q (ha1.sh.rd false h30).1 (ha2.sh.rd true h30).1 (hc1.sh.rd false h30).1 (hc2.sh.rd true h30).1 (rdQ_mono wa1) ?_ (rdQ_mono wa2)
  exact Rat.le_trans (rdQ_down n a1).1 (Rat.le_trans la (rdQ_up n a2).1)
omit hb1 hb2 hd1 hd2 lb wb1 wb2 in
theorem both_sqrt {n : Int} (h0 : 0 ≤ n) (h11 : n ≤ 11) : Both o 22 [.d (qV a1 a2).D, .d (.i .i64 n)] [.d (qV c1 c2).D, .d (.i .i64 n)] true := by
  have lc : c1 ≤ c2 := by grind
  have hT := tenP_pos n
  have hT11 : (tenP n).natAbs ≤ 10 ^ 11 := by
    unfold tenP
    simp only [Int.natAbs_natCast]
    exact Nat.pow_le_pow_right (by omega) (by omega)
  have fT := tenP_fits (show n ≤ 30 by omega)
  have f1 : ∀ {q : Rat}, S3 q → Fits (q.num * tenP n) ∧ Fits (q.num * tenP n * tenP n) := by
    intro q hq
    have k1 := abs_mul hq.1 hT11
    have k2 := abs_mul k1 hT11
    exact ⟨big_fits (by omega), big_fits (by omega)⟩
  have key : ∀ {p q : Rat}, S3 p → S3 q → p ≤ q → 0 ≤ p → (∀ h, Glb h → ErrAt h o → callV cS false (fnV 22) [.d (qV p q).D, .d (.i .i64 n)] h = some (.val (.d (.tup [(qV (Rat.divInt (rootM (tenP n) p) (tenP n)) (Rat.divInt (rootHi (tenP n) q) (tenP n))).D, .i .i64 0])), h)) ∧
      RFits (Rat.divInt (rootM (tenP n) p) (tenP n)) ∧ RFits (Rat.divInt (rootHi (tenP n) q) (tenP n)) := by
    intro p q hp hq hl h0p
    have p0 : 0 ≤ p.num := Rat.num_nonneg.2 h0p
    have q0 : 0 ≤ q.num := Rat.num_nonneg.2 (Rat.le_trans h0p hl)
    have fm := (rootM_fits p0 hp.fits (f1 hp).2).1
    obtain ⟨fh, fh1⟩ := rootM_fits q0 hq.fits (f1 hq).2
    refine ⟨fun h g e => ?_, divInt_fits fm fT (by omega), divInt_fits (by unfold rootHi; split <;> assumption) fT (by omega)⟩
    have hx : sqrtX n (qV p q) = some (dI4 (Rat.divInt (rootM (tenP n) p) (tenP n)) (Rat.divInt (rootHi (tenP n) q) (tenP n))) := by
      unfold sqrtX
      rw [VQ_qV hp.fits hq.fits hl]
      simp only [sqrtO]
      rw [if_pos ⟨⟨h0, by omega⟩, cmpQ_ge.2 h0p, f1 hp, f1 hq⟩]
    rw [ESqrt_ok _ n (by unfold I64; omega) g e, hx, workD_one (qV_ok hp.fits hq.fits hl)]
    rfl
  by_cases hz : 0 ≤ c1
  · obtain ⟨w1, fr1, fr2⟩ := key ha1 ha2 la (Rat.le_trans hz wa1)
    obtain ⟨w2, fr3, fr4⟩ := key hc1 hc2 lc hz
    refine ⟨qV _ _, 0, qV _ _, 0, w1, w2, fun _ _ => rfl, fun _ _ => ?_⟩
    have z1 : 0 ≤ c1.num := Rat.num_nonneg.2 hz
    have z2 : 0 ≤ a1.num := Rat.num_nonneg.2 (Rat.le_trans hz wa1)
    have z3 : 0 ≤ a2.num := Rat.num_nonneg.2 (Rat.le_trans (Rat.le_trans hz wa1) la)
    have z4 : 0 ≤ c2.num := Rat.num_nonneg.2 (Rat.le_trans hz lc)
    refine within_q fr1 fr2 fr3 fr4 ?_ ?_ ?_
    · rw [divInt_le hT hT]; exact Int.mul_le_mul_of_nonneg_right (rootM_mono z1 z2 wa1) (by omega)
    · rw [divInt_le hT hT]
      refine Int.mul_le_mul_of_nonneg_right (Int.le_trans (rootM_mono z2 z3 la) ?_) (by omega)
      unfold rootHi; split <;> omega
    · rw [divInt_le hT hT]; exact Int.mul_le_mul_of_nonneg_right (rootHi_mono z3 z4 wa2) (by omega)
  · obtain ⟨r, e, w⟩ := work_any (l := [qV a1 a2]) (sqrtX_form n (qV a1 a2))
    have hx : sqrtX n (qV c1 c2) = none := by
      unfold sqrtX
      rw [VQ_qV hc1.fits hc2.fits lc]
      simp only [sqrtO]
      rw [if_neg (fun k => hz (cmpQ_ge.1 k.2.1))]
    refine ⟨r, e, ⟨[], [], [], []⟩, 50, fun h g eh => (ESqrt_ok (qV a1 a2) n (by unfold I64; omega) g eh).trans (by rw [w]; rfl), fun h g eh => ?_, fun h => by omega, fun h => by omega⟩
    rw [ESqrt_ok _ n (by unfold I64; omega) g eh, hx, workD_none]
    rfl
end
end Go.Proofs.YtmiioebapckcoaaGreatDoor
end
section
/- The walk of EnclosureNarrower. Printed by wip/tools/mkNarrow.py. -/
namespace Go.Proofs.YtmiioebapckcoaaGreatDoor
open Go Num
set_option maxRecDepth 4000

theorem nar_0 (H : Hp) (x0 x1 x2 x3 y0 y1 y2 y3 w0 w1 w2 w3 n : Int) : evI cS (nthC 0 b9) none [(0, .d (.agg [.i .i64 x0, .i .i64 x1, .i .i64 x2, .i .i64 x3])), (1, .d (.agg [.i .i64 y0, .i .i64 y1, .i .i64 y2, .i .i64 y3])), (2, .d (.agg [.i .i64 w0, .i .i64 w1, .i .i64 w2, .i .i64 w3])), (3, .d (.i .i64 n))] H = some (.nor, [(3, .d (.i .i64 n)), (4, .p H.length 0), (5, .p (H.length + 1) 0), (6, .p (H.length + 1 + 1) 0)], .box 22 [.d (.i .i64 w0), .d (.i .i64 w1), .d (.i .i64 w2), .d (.i .i64 w3)] :: .box 22 [.d (.i .i64 y0), .d (.i .i64 y1), .d (.i .i64 y2), .d (.i .i64 y3)] :: .box 22 [.d (.i .i64 x0), .d (.i .i64 x1), .d (.i .i64 x2), .d (.i .i64 x3)] :: H) := by
  simp [nthC, b9, put, eset, eget, D.cells, V.cells, allD, hget, hset, fz, List.zipIdx_cons, List.zipIdx_nil, setParts, chunk1, allCellsD, eqKs, eqCell]
theorem nar_1 {H : Hp} {o : EO} (g : Glb H) (e : ErrAt H o) (v3 v4 v5 v6 : V) : evI cS (nthC 1 b9) none [(3, v3), (4, v4), (5, v5), (6, v6)] H = some (.nor, [(3, v3), (4, v4), (5, v5), (6, v6), (9, .d (.b true))], H) := by
  have f0 := sane_ok g e
  simp [nthC, b9, put, eset, eget, D.cells, V.cells, allD, hget, hset, fz, List.zipIdx_cons, List.zipIdx_nil, setParts, chunk1, allCellsD, eqKs, eqCell, f0]
theorem nar_2 {H : Hp} {i : Nat} {c0 c1 c2 c3 : Int} (gi : hget H i = some (.box 22 [.d (.i .i64 c0), .d (.i .i64 c1), .d (.i .i64 c2), .d (.i .i64 c3)])) {a b c d : List UInt8} (hl : callV cS false (fnV 19) [.d (.agg [.i .i64 c0, .i .i64 c1, .i .i64 c2, .i .i64 c3])] H = some (.val (.d (.agg [.s a, .s b, .s c, .s d])), H)) (v3 v5 v6 v9 : V) :
    evI cS (nthC 2 b9) none [(3, v3), (4, .p i 0), (5, v5), (6, v6), (9, v9)] H = some (.nor, [(3, v3), (5, v5), (6, v6), (9, v9), (10, .p H.length 0)], .box 29 [.d (.s a), .d (.s b), .d (.s c), .d (.s d)] :: H) := by
  simp [nthC, b9, put, eset, eget, D.cells, V.cells, allD, hget, hset, fz, List.zipIdx_cons, List.zipIdx_nil, setParts, chunk1, allCellsD, eqKs, eqCell, gi, hl]
theorem nar_3 {H : Hp} {i : Nat} {c0 c1 c2 c3 : Int} (gi : hget H i = some (.box 22 [.d (.i .i64 c0), .d (.i .i64 c1), .d (.i .i64 c2), .d (.i .i64 c3)])) {a b c d : List UInt8} (hl : callV cS false (fnV 19) [.d (.agg [.i .i64 c0, .i .i64 c1, .i .i64 c2, .i .i64 c3])] H = some (.val (.d (.agg [.s a, .s b, .s c, .s d])), H)) (v3 v6 v9 v10 : V) :
    evI cS (nthC 3 b9) none [(3, v3), (5, .p i 0), (6, v6), (9, v9), (10, v10)] H = some (.nor, [(3, v3), (6, v6), (9, v9), (10, v10), (11, .p H.length 0)], .box 29 [.d (.s a), .d (.s b), .d (.s c), .d (.s d)] :: H) := by
  simp [nthC, b9, put, eset, eget, D.cells, V.cells, allD, hget, hset, fz, List.zipIdx_cons, List.zipIdx_nil, setParts, chunk1, allCellsD, eqKs, eqCell, gi, hl]
theorem nar_4 {H : Hp} (n : Int) (hn : I64 n) (v6 v9 v10 v11 : V) : evI cS (nthC 4 b9) none [(3, .d (.i .i64 n)), (6, v6), (9, v9), (10, v10), (11, v11)] H = some (.nor, [(3, .d (.i .i64 (pickI n 12))), (6, v6), (9, v9), (10, v10), (11, v11)], H) := by
  have f0 := pick5_ok n 12 hn (by unfold I64; omega) (by omega) H
  simp [nthC, b9, put, eset, eget, D.cells, V.cells, allD, hget, hset, fz, List.zipIdx_cons, List.zipIdx_nil, setParts, chunk1, allCellsD, eqKs, eqCell, f0]
theorem nar_5 {H : Hp} {i10 : Nat} {a b c d : List UInt8} (g : hget H i10 = some (.box 29 [.d (.s a), .d (.s b), .d (.s c), .d (.s d)])) (v3 v6 v9 v11 : V) : evI cS (nthC 5 b9) none [(3, v3), (6, v6), (9, v9), (10, .p i10 0), (11, v11)] H = some (.nor, [(3, v3), (6, v6), (9, v9), (10, .p i10 0), (11, v11), (12, .p H.length 0)], .box 29 [.d (.s a), .d (.s b), .d (.s c), .d (.s d)] :: H) := by
  simp [nthC, b9, put, eset, eget, D.cells, V.cells, allD, hget, hset, fz, List.zipIdx_cons, List.zipIdx_nil, setParts, chunk1, allCellsD, eqKs, eqCell, g]
theorem nar_6 {H : Hp} {i11 : Nat} {a b c d : List UInt8} (g : hget H i11 = some (.box 29 [.d (.s a), .d (.s b), .d (.s c), .d (.s d)])) (v3 v6 v9 v10 v12 : V) : evI cS (nthC 6 b9) none [(3, v3), (6, v6), (9, v9), (10, v10), (11, .p i11 0), (12, v12)] H = some (.nor, [(3, v3), (6, v6), (9, v9), (10, v10), (11, .p i11 0), (12, v12), (13, .p H.length 0)], .box 29 [.d (.s a), .d (.s b), .d (.s c), .d (.s d)] :: H) := by
  simp [nthC, b9, put, eset, eget, D.cells, V.cells, allD, hget, hset, fz, List.zipIdx_cons, List.zipIdx_nil, setParts, chunk1, allCellsD, eqKs, eqCell, g]
theorem nar_7 {H : Hp} {i6 i10 : Nat} {w0 w1 w2 w3 k : Int} {b c d e x y s t a1 a2 a3 a4 a5 a6 a7 a8 : List UInt8} (g6 : hget H i6 = some (.box 22 [.d (.i .i64 w0), .d (.i .i64 w1), .d (.i .i64 w2), .d (.i .i64 w3)])) (g : hget H i10 = some (.box 29 [.d (.s b), .d (.s c), .d (.s d), .d (.s e)]))
    (h1 : callV cS false (fnV 11) [.d (.i .i64 w0), .d (.i .i64 200)] (.box 29 [.d (.s a5), .d (.s a6), .d (.s a7), .d (.s a8)] :: .box 29 [.d (.s a1), .d (.s a2), .d (.s a3), .d (.s a4)] :: H) = some (.val (.d (.i .i64 k)), (.box 29 [.d (.s a5), .d (.s a6), .d (.s a7), .d (.s a8)] :: .box 29 [.d (.s a1), .d (.s a2), .d (.s a3), .d (.s a4)] :: H)))
    (h2 : callV cS false (fnV 16) [.d (.i .i64 k), .d (.i .i64 60)] (.box 29 [.d (.s a5), .d (.s a6), .d (.s a7), .d (.s a8)] :: .box 29 [.d (.s a1), .d (.s a2), .d (.s a3), .d (.s a4)] :: H) = some (.val (.d (.agg [.s s, .s t])), (.box 29 [.d (.s a5), .d (.s a6), .d (.s a7), .d (.s a8)] :: .box 29 [.d (.s a1), .d (.s a2), .d (.s a3), .d (.s a4)] :: H)))
    (h3 : callV cS false (fnV 18) [.d (.agg [.s b, .s c]), .d (.agg [.s s, .s t])] (.box 29 [.d (.s a5), .d (.s a6), .d (.s a7), .d (.s a8)] :: .box 29 [.d (.s a1), .d (.s a2), .d (.s a3), .d (.s a4)] :: H) = some (.val (.d (.tup [(.agg [.s x, .s y]), .i .i64 0])), (.box 29 [.d (.s a5), .d (.s a6), .d (.s a7), .d (.s a8)] :: .box 29 [.d (.s a1), .d (.s a2), .d (.s a3), .d (.s a4)] :: H))) (v3 v9 v11 : V) :
    evI cS (nthC 7 b9) none [(3, v3), (6, .p i6 0), (9, v9), (10, .p i10 0), (11, v11), (12, .p H.length 0), (13, .p (H.length + 1) 0)] (.box 29 [.d (.s a5), .d (.s a6), .d (.s a7), .d (.s a8)] :: .box 29 [.d (.s a1), .d (.s a2), .d (.s a3), .d (.s a4)] :: H) = some (.nor, [(3, v3), (6, .p i6 0), (9, v9), (10, .p i10 0), (11, v11), (12, .p H.length 0), (13, .p (H.length + 1) 0)], .box 29 [.d (.s a5), .d (.s a6), .d (.s a7), .d (.s a8)] :: .box 29 [.d (.s x), .d (.s y), .d (.s a3), .d (.s a4)] :: H) := by
  have l6 := hget_lt' g6
  have l1 := hget_lt' g
  have m6 : ¬ i6 = H.length := by omega
  have m61 : ¬ i6 = H.length + 1 := by omega
  have m1 : ¬ i10 = H.length := by omega
  have m11 : ¬ i10 = H.length + 1 := by omega
  simp [nthC, b9, put, eset, eget, D.cells, V.cells, allD, hget, hset, fz, List.zipIdx_cons, List.zipIdx_nil, setParts, chunk1, allCellsD, eqKs, eqCell, g6, g, m6, m61, m1, m11, h1, h2, h3]
theorem nar_8 {H : Hp} {i6 i10 : Nat} {w0 w1 w2 w3 k : Int} {b c d e x y s t a1 a2 a3 a4 a5 a6 a7 a8 : List UInt8} (g6 : hget H i6 = some (.box 22 [.d (.i .i64 w0), .d (.i .i64 w1), .d (.i .i64 w2), .d (.i .i64 w3)])) (g : hget H i10 = some (.box 29 [.d (.s b), .d (.s c), .d (.s d), .d (.s e)]))
    (h1 : callV cS false (fnV 11) [.d (.i .i64 w1), .d (.i .i64 200)] (.box 29 [.d (.s a5), .d (.s a6), .d (.s a7), .d (.s a8)] :: .box 29 [.d (.s a1), .d (.s a2), .d (.s a3), .d (.s a4)] :: H) = some (.val (.d (.i .i64 k)), (.box 29 [.d (.s a5), .d (.s a6), .d (.s a7), .d (.s a8)] :: .box 29 [.d (.s a1), .d (.s a2), .d (.s a3), .d (.s a4)] :: H)))
    (h2 : callV cS false (fnV 16) [.d (.i .i64 k), .d (.i .i64 60)] (.box 29 [.d (.s a5), .d (.s a6), .d (.s a7), .d (.s a8)] :: .box 29 [.d (.s a1), .d (.s a2), .d (.s a3), .d (.s a4)] :: H) = some (.val (.d (.agg [.s s, .s t])), (.box 29 [.d (.s a5), .d (.s a6), .d (.s a7), .d (.s a8)] :: .box 29 [.d (.s a1), .d (.s a2), .d (.s a3), .d (.s a4)] :: H)))
    (h3 : callV cS false (fnV 24) [.d (.agg [.s d, .s e]), .d (.agg [.s s, .s t])] (.box 29 [.d (.s a5), .d (.s a6), .d (.s a7), .d (.s a8)] :: .box 29 [.d (.s a1), .d (.s a2), .d (.s a3), .d (.s a4)] :: H) = some (.val (.d (.tup [(.agg [.s x, .s y]), .i .i64 0])), (.box 29 [.d (.s a5), .d (.s a6), .d (.s a7), .d (.s a8)] :: .box 29 [.d (.s a1), .d (.s a2), .d (.s a3), .d (.s a4)] :: H))) (v3 v9 v11 : V) :
    evI cS (nthC 8 b9) none [(3, v3), (6, .p i6 0), (9, v9), (10, .p i10 0), (11, v11), (12, .p H.length 0), (13, .p (H.length + 1) 0)] (.box 29 [.d (.s a5), .d (.s a6), .d (.s a7), .d (.s a8)] :: .box 29 [.d (.s a1), .d (.s a2), .d (.s a3), .d (.s a4)] :: H) = some (.nor, [(3, v3), (6, .p i6 0), (9, v9), (10, .p i10 0), (11, v11), (12, .p H.length 0), (13, .p (H.length + 1) 0)], .box 29 [.d (.s a5), .d (.s a6), .d (.s a7), .d (.s a8)] :: .box 29 [.d (.s a1), .d (.s a2), .d (.s x), .d (.s y)] :: H) := by
  have l6 := hget_lt' g6
  have l1 := hget_lt' g
  have m6 : ¬ i6 = H.length := by omega
  have m61 : ¬ i6 = H.length + 1 := by omega
  have m1 : ¬ i10 = H.length := by omega
  have m11 : ¬ i10 = H.length + 1 := by omega
  simp [nthC, b9, put, eset, eget, D.cells, V.cells, allD, hget, hset, fz, List.zipIdx_cons, List.zipIdx_nil, setParts, chunk1, allCellsD, eqKs, eqCell, g6, g, m6, m61, m1, m11, h1, h2, h3]
theorem nar_9 {H : Hp} {i6 i11 : Nat} {w0 w1 w2 w3 k : Int} {b c d e x y s t a1 a2 a3 a4 a5 a6 a7 a8 : List UInt8} (g6 : hget H i6 = some (.box 22 [.d (.i .i64 w0), .d (.i .i64 w1), .d (.i .i64 w2), .d (.i .i64 w3)])) (g : hget H i11 = some (.box 29 [.d (.s b), .d (.s c), .d (.s d), .d (.s e)]))
    (h1 : callV cS false (fnV 11) [.d (.i .i64 w2), .d (.i .i64 200)] (.box 29 [.d (.s a5), .d (.s a6), .d (.s a7), .d (.s a8)] :: .box 29 [.d (.s a1), .d (.s a2), .d (.s a3), .d (.s a4)] :: H) = some (.val (.d (.i .i64 k)), (.box 29 [.d (.s a5), .d (.s a6), .d (.s a7), .d (.s a8)] :: .box 29 [.d (.s a1), .d (.s a2), .d (.s a3), .d (.s a4)] :: H)))
    (h2 : callV cS false (fnV 16) [.d (.i .i64 k), .d (.i .i64 60)] (.box 29 [.d (.s a5), .d (.s a6), .d (.s a7), .d (.s a8)] :: .box 29 [.d (.s a1), .d (.s a2), .d (.s a3), .d (.s a4)] :: H) = some (.val (.d (.agg [.s s, .s t])), (.box 29 [.d (.s a5), .d (.s a6), .d (.s a7), .d (.s a8)] :: .box 29 [.d (.s a1), .d (.s a2), .d (.s a3), .d (.s a4)] :: H)))
    (h3 : callV cS false (fnV 18) [.d (.agg [.s b, .s c]), .d (.agg [.s s, .s t])] (.box 29 [.d (.s a5), .d (.s a6), .d (.s a7), .d (.s a8)] :: .box 29 [.d (.s a1), .d (.s a2), .d (.s a3), .d (.s a4)] :: H) = some (.val (.d (.tup [(.agg [.s x, .s y]), .i .i64 0])), (.box 29 [.d (.s a5), .d (.s a6), .d (.s a7), .d (.s a8)] :: .box 29 [.d (.s a1), .d (.s a2), .d (.s a3), .d (.s a4)] :: H))) (v3 v9 v10 : V) :
    evI cS (nthC 9 b9) none [(3, v3), (6, .p i6 0), (9, v9), (10, v10), (11, .p i11 0), (12, .p H.length 0), (13, .p (H.length + 1) 0)] (.box 29 [.d (.s a5), .d (.s a6), .d (.s a7), .d (.s a8)] :: .box 29 [.d (.s a1), .d (.s a2), .d (.s a3), .d (.s a4)] :: H) = some (.nor, [(3, v3), (6, .p i6 0), (9, v9), (10, v10), (11, .p i11 0), (12, .p H.length 0), (13, .p (H.length + 1) 0)], .box 29 [.d (.s x), .d (.s y), .d (.s a7), .d (.s a8)] :: .box 29 [.d (.s a1), .d (.s a2), .d (.s a3), .d (.s a4)] :: H) := by
  have l6 := hget_lt' g6
  have l1 := hget_lt' g
  have m6 : ¬ i6 = H.length := by omega
  have m61 : ¬ i6 = H.length + 1 := by omega
  have m1 : ¬ i11 = H.length := by omega
  have m11 : ¬ i11 = H.length + 1 := by omega
  simp [nthC, b9, put, eset, eget, D.cells, V.cells, allD, hget, hset, fz, List.zipIdx_cons, List.zipIdx_nil, setParts, chunk1, allCellsD, eqKs, eqCell, g6, g, m6, m61, m1, m11, h1, h2, h3]
theorem nar_10 {H : Hp} {i6 i11 : Nat} {w0 w1 w2 w3 k : Int} {b c d e x y s t a1 a2 a3 a4 a5 a6 a7 a8 : List UInt8} (g6 : hget H i6 = some (.box 22 [.d (.i .i64 w0), .d (.i .i64 w1), .d (.i .i64 w2), .d (.i .i64 w3)])) (g : hget H i11 = some (.box 29 [.d (.s b), .d (.s c), .d (.s d), .d (.s e)]))
    (h1 : callV cS false (fnV 11) [.d (.i .i64 w3), .d (.i .i64 200)] (.box 29 [.d (.s a5), .d (.s a6), .d (.s a7), .d (.s a8)] :: .box 29 [.d (.s a1), .d (.s a2), .d (.s a3), .d (.s a4)] :: H) = some (.val (.d (.i .i64 k)), (.box 29 [.d (.s a5), .d (.s a6), .d (.s a7), .d (.s a8)] :: .box 29 [.d (.s a1), .d (.s a2), .d (.s a3), .d (.s a4)] :: H)))
    (h2 : callV cS false (fnV 16) [.d (.i .i64 k), .d (.i .i64 60)] (.box 29 [.d (.s a5), .d (.s a6), .d (.s a7), .d (.s a8)] :: .box 29 [.d (.s a1), .d (.s a2), .d (.s a3), .d (.s a4)] :: H) = some (.val (.d (.agg [.s s, .s t])), (.box 29 [.d (.s a5), .d (.s a6), .d (.s a7), .d (.s a8)] :: .box 29 [.d (.s a1), .d (.s a2), .d (.s a3), .d (.s a4)] :: H)))
    (h3 : callV cS false (fnV 24) [.d (.agg [.s d, .s e]), .d (.agg [.s s, .s t])] (.box 29 [.d (.s a5), .d (.s a6), .d (.s a7), .d (.s a8)] :: .box 29 [.d (.s a1), .d (.s a2), .d (.s a3), .d (.s a4)] :: H) = some (.val (.d (.tup [(.agg [.s x, .s y]), .i .i64 0])), (.box 29 [.d (.s a5), .d (.s a6), .d (.s a7), .d (.s a8)] :: .box 29 [.d (.s a1), .d (.s a2), .d (.s a3), .d (.s a4)] :: H))) (v3 v9 v10 : V) :
    evI cS (nthC 10 b9) none [(3, v3), (6, .p i6 0), (9, v9), (10, v10), (11, .p i11 0), (12, .p H.length 0), (13, .p (H.length + 1) 0)] (.box 29 [.d (.s a5), .d (.s a6), .d (.s a7), .d (.s a8)] :: .box 29 [.d (.s a1), .d (.s a2), .d (.s a3), .d (.s a4)] :: H) = some (.nor, [(3, v3), (9, v9), (10, v10), (11, .p i11 0), (12, .p H.length 0), (13, .p (H.length + 1) 0)], .box 29 [.d (.s a5), .d (.s a6), .d (.s x), .d (.s y)] :: .box 29 [.d (.s a1), .d (.s a2), .d (.s a3), .d (.s a4)] :: H) := by
  have l6 := hget_lt' g6
  have l1 := hget_lt' g
  have m6 : ¬ i6 = H.length := by omega
  have m61 : ¬ i6 = H.length + 1 := by omega
  have m1 : ¬ i11 = H.length := by omega
  have m11 : ¬ i11 = H.length + 1 := by omega
  simp [nthC, b9, put, eset, eget, D.cells, V.cells, allD, hget, hset, fz, List.zipIdx_cons, List.zipIdx_nil, setParts, chunk1, allCellsD, eqKs, eqCell, g6, g, m6, m61, m1, m11, h1, h2, h3]
theorem nar_11 {H : Hp} {i10 i11 : Nat} {a b c d a' b' c' d' : List UInt8} {n : Int} {xs es : List D} (g10 : hget H i10 = some (.box 29 [.d (.s a), .d (.s b), .d (.s c), .d (.s d)])) (g11 : hget H i11 = some (.box 29 [.d (.s a'), .d (.s b'), .d (.s c'), .d (.s d')])) (hc : callV cS false (fnV 31) [.d (.agg [.s a, .s b, .s c, .s d]), .d (.agg [.s a', .s b', .s c', .s d']), .d (.i .i64 n)] H = some (.val (.d (.tup [.ls xs, .ls es])), H)) (v9 v12 v13 : V) :
    evI cS (nthC 11 b9) none [(3, .d (.i .i64 n)), (9, v9), (10, .p i10 0), (11, .p i11 0), (12, v12), (13, v13)] H = some (.nor, [(3, .d (.i .i64 n)), (9, v9), (10, .p i10 0), (11, .p i11 0), (12, v12), (13, v13), (14, .d (.ls xs)), (15, .d (.ls es))], H) := by
  simp [nthC, b9, put, eset, eget, D.cells, V.cells, allD, hget, hset, fz, List.zipIdx_cons, List.zipIdx_nil, setParts, chunk1, allCellsD, eqKs, eqCell, g10, g11, hc]
theorem nar_12 {H : Hp} {i12 i13 : Nat} {a b c d a' b' c' d' : List UInt8} {n : Int} {xs es : List D} (g12 : hget H i12 = some (.box 29 [.d (.s a), .d (.s b), .d (.s c), .d (.s d)])) (g13 : hget H i13 = some (.box 29 [.d (.s a'), .d (.s b'), .d (.s c'), .d (.s d')])) (hc : callV cS false (fnV 31) [.d (.agg [.s a, .s b, .s c, .s d]), .d (.agg [.s a', .s b', .s c', .s d']), .d (.i .i64 n)] H = some (.val (.d (.tup [.ls xs, .ls es])), H)) (v9 v10 v11 v14 v15 : V) :
    evI cS (nthC 12 b9) none [(3, .d (.i .i64 n)), (9, v9), (10, v10), (11, v11), (12, .p i12 0), (13, .p i13 0), (14, v14), (15, v15)] H = some (.nor, [(9, v9), (10, v10), (11, v11), (12, .p i12 0), (13, .p i13 0), (14, v14), (15, v15), (16, .d (.ls xs)), (17, .d (.ls es))], H) := by
  simp [nthC, b9, put, eset, eget, D.cells, V.cells, allD, hget, hset, fz, List.zipIdx_cons, List.zipIdx_nil, setParts, chunk1, allCellsD, eqKs, eqCell, g12, g13, hc]
theorem nar_13 {H : Hp} (v9 v10 v11 v12 v13 v14 v15 v16 v17 : V) : evI cS (nthC 0 (nthC 13 b9)) none [(9, v9), (10, v10), (11, v11), (12, v12), (13, v13), (14, v14), (15, v15), (16, v16), (17, v17)] H = some (.nor, [(9, v9), (10, v10), (11, v11), (12, v12), (13, v13), (14, v14), (15, v15), (16, v16), (17, v17), (18, .d (.i .i64 0))], H) := by
  simp [nthC, b9, put, eset, eget, D.cells, V.cells, allD, hget, hset, fz, List.zipIdx_cons, List.zipIdx_nil, setParts, chunk1, allCellsD, eqKs, eqCell]
theorem nar_14 {H : Hp} {i10 i11 i12 i13 : Nat} {a b c d a' b' c' d' s t u v s' t' u' v' : List UInt8} (g10 : hget H i10 = some (.box 29 [.d (.s a), .d (.s b), .d (.s c), .d (.s d)])) (g11 : hget H i11 = some (.box 29 [.d (.s a'), .d (.s b'), .d (.s c'), .d (.s d')])) (g12 : hget H i12 = some (.box 29 [.d (.s s), .d (.s t), .d (.s u), .d (.s v)])) (g13 : hget H i13 = some (.box 29 [.d (.s s'), .d (.s t'), .d (.s u'), .d (.s v')]))
    (h1 : callV cS false (fnV 15) [.d (.agg [.s a, .s b, .s c, .s d]), .d (.agg [.s s, .s t, .s u, .s v])] H = some (.val (.d (.b true)), H)) (h2 : callV cS false (fnV 15) [.d (.agg [.s a', .s b', .s c', .s d']), .d (.agg [.s s', .s t', .s u', .s v'])] H = some (.val (.d (.b true)), H)) (v14 v15 v16 v17 v18 v87 : V) :
    evI cS (tlC 14 b9) none [(9, .d (.b true)), (10, .p i10 0), (11, .p i11 0), (12, .p i12 0), (13, .p i13 0), (14, v14), (15, v15), (16, v16), (17, v17), (18, v18), (87, v87)] H = some (.rt, [(8, .d (.b true))], H) := by
  simp [nthC, tlC, b9, put, eset, eget, D.cells, V.cells, allD, hget, hset, fz, List.zipIdx_cons, List.zipIdx_nil, setParts, chunk1, allCellsD, eqKs, eqCell, g10, g11, g12, g13, h1, h2]
theorem nar_t {H : Hp} {XA EA XC EC : List D} {i : Int} (hi : i < 8) (v9 v10 v11 v12 v13 : V) : evI cS (nthC 0 l9_0) none [(9, v9), (10, v10), (11, v11), (12, v12), (13, v13), (14, .d (.ls XA)), (15, .d (.ls EA)), (16, .d (.ls XC)), (17, .d (.ls EC)), (18, .d (.i .i64 i))] H = some (.nor, [(9, v9), (10, v10), (11, v11), (12, v12), (13, v13), (14, .d (.ls XA)), (15, .d (.ls EA)), (16, .d (.ls XC)), (17, .d (.ls EC)), (18, .d (.i .i64 i)), (87, .d (.b true))], H) := by
  simp [nthC, l9_0, put, eset, eget, D.cells, V.cells, allD, hget, hset, fz, List.zipIdx_cons, List.zipIdx_nil, setParts, chunk1, allCellsD, eqKs, eqCell, hi]
theorem nar_x {H : Hp} {XA EA XC EC : List D} (v9 v10 v11 v12 v13 : V) : evI cS l9_0 none [(9, v9), (10, v10), (11, v11), (12, v12), (13, v13), (14, .d (.ls XA)), (15, .d (.ls EA)), (16, .d (.ls XC)), (17, .d (.ls EC)), (18, .d (.i .i64 8))] H = some (.ex 0, [(9, v9), (10, v10), (11, v11), (12, v12), (13, v13), (14, .d (.ls XA)), (15, .d (.ls EA)), (16, .d (.ls XC)), (17, .d (.ls EC)), (18, .d (.i .i64 8)), (87, .d (.b false))], H) := by
  simp [nthC, l9_0, put, eset, eget, D.cells, V.cells, allD, hget, hset, fz, List.zipIdx_cons, List.zipIdx_nil, setParts, chunk1, allCellsD, eqKs, eqCell]
theorem nar_i {H : Hp} {XA EA XC EC : List D} {i : Int} (h0 : 0 ≤ i) (hi : i < 8) (v131 : V) (v9 v10 v11 v12 v13 : V) : evI cS (nthC 2 l9_0) none [(9, v9), (10, v10), (11, v11), (12, v12), (13, v13), (14, .d (.ls XA)), (15, .d (.ls EA)), (16, .d (.ls XC)), (17, .d (.ls EC)), (18, .d (.i .i64 i)), (131, v131)] H = some (.nor, [(9, v9), (10, v10), (11, v11), (12, v12), (13, v13), (14, .d (.ls XA)), (15, .d (.ls EA)), (16, .d (.ls XC)), (17, .d (.ls EC)), (18, .d (.i .i64 (i + 1)))], H) := by
  have w : IntKind.i64.wrap (i + 1) = i + 1 := wr64 (by omega) (by omega)
  simp [nthC, l9_0, put, eset, eget, D.cells, V.cells, allD, hget, hset, fz, List.zipIdx_cons, List.zipIdx_nil, setParts, chunk1, allCellsD, eqKs, eqCell, w]
set_option maxHeartbeats 4000000 in
theorem nar_b {H : Hp} {XA EA XC EC : List D} {i e g : Int} {a b c d s t u v : List UInt8} (h0 : 0 ≤ i) (hi : i < 8) (l1 : XA.length = 8) (l2 : EA.length = 8) (l3 : XC.length = 8) (l4 : EC.length = 8)
    (k1 : XA[i.toNat]? = some (.agg [.s a, .s b, .s c, .s d])) (k2 : EA[i.toNat]? = some (.i .i64 e)) (k3 : XC[i.toNat]? = some (.agg [.s s, .s t, .s u, .s v])) (k4 : EC[i.toNat]? = some (.i .i64 g))
    (z1 : allCellsD 4 XA = true) (z2 : allCellsD 1 EA = true) (z3 : allCellsD 4 XC = true) (z4 : allCellsD 1 EC = true)
    (hs : g = 0 → e = 0 ∨ i = 5) (hw : g = 0 → e = 0 → callV cS false (fnV 15) [.d (.agg [.s a, .s b, .s c, .s d]), .d (.agg [.s s, .s t, .s u, .s v])] H = some (.val (.d (.b true)), H)) (v9 v10 v11 v12 v13 : V) :
    evI cS (unB (nthC 1 l9_0)) none [(9, v9), (10, v10), (11, v11), (12, v12), (13, v13), (14, .d (.ls XA)), (15, .d (.ls EA)), (16, .d (.ls XC)), (17, .d (.ls EC)), (18, .d (.i .i64 i)), (87, .d (.b true))] H = some (.nor, [(9, v9), (10, v10), (11, v11), (12, v12), (13, v13), (14, .d (.ls XA)), (15, .d (.ls EA)), (16, .d (.ls XC)), (17, .d (.ls EC)), (18, .d (.i .i64 i)), (131, .d (.b false))], H) := by
  have n1 : i < (XA.length : Int) := by omega
  have n2 : i < (EA.length : Int) := by omega
  have n3 : i < (XC.length : Int) := by omega
  have n4 : i < (EC.length : Int) := by omega
  obtain ⟨_, k1⟩ := List.getElem?_eq_some_iff.1 k1
  obtain ⟨_, k2⟩ := List.getElem?_eq_some_iff.1 k2
  obtain ⟨_, k3⟩ := List.getElem?_eq_some_iff.1 k3
  obtain ⟨_, k4⟩ := List.getElem?_eq_some_iff.1 k4
  clear l1 l2 l3 l4
  have key : evI cS (nthC 0 (unB (nthC 1 l9_0))) none [(9, v9), (10, v10), (11, v11), (12, v12), (13, v13), (14, .d (.ls XA)), (15, .d (.ls EA)), (16, .d (.ls XC)), (17, .d (.ls EC)), (18, .d (.i .i64 i)), (87, .d (.b true))] H = some (.nor, [(9, v9), (10, v10), (11, v11), (12, v12), (13, v13), (14, .d (.ls XA)), (15, .d (.ls EA)), (16, .d (.ls XC)), (17, .d (.ls EC)), (18, .d (.i .i64 i)), (131, .d (.b false))], H) := by
    simp only [nthC, unB, l9_0]
    apply evI_drawP
    by_cases hg : g = 0
    · by_cases he : e = 0
      · have hw' := hw hg he
        subst hg he
        simp [evP, put, eset, eget, D.cells, V.cells, allD, hget, hset, fz, List.zipIdx_cons, List.zipIdx_nil, setParts, chunk1, allCellsD, h0, n1, n2, n3, n4, k1, k2, k3, k4, z1, z2, z3, z4, hw']
      · have h5 : i = 5 := (hs hg).resolve_left he
        have heb : (e == 0) = false := by rw [beq_eq_false_iff_ne]; exact he
        subst hg
        have hib : (i == 5) = true := by rw [h5]; rfl
        simp [evP, put, eset, eget, D.cells, V.cells, allD, hget, hset, fz, List.zipIdx_cons, List.zipIdx_nil, setParts, chunk1, allCellsD, h0, n1, n2, n3, n4, k1, k2, k3, k4, z1, z2, z3, z4, heb, bne, hib]
    · have hgb : (g == 0) = false := by rw [beq_eq_false_iff_ne]; exact hg
      simp [evP, put, eset, eget, D.cells, V.cells, allD, hget, hset, fz, List.zipIdx_cons, List.zipIdx_nil, setParts, chunk1, allCellsD, h0, n1, n2, n3, n4, k1, k2, k3, k4, z1, z2, z3, z4, hgb]
  have e : (unB (nthC 1 l9_0)) = .seq (nthC 0 (unB (nthC 1 l9_0))) (tlC 1 (unB (nthC 1 l9_0))) := rfl
  rw [e, evI_seq, key]
  simp [tlC, unB, nthC, l9_0, put, eset, eget, D.cells, V.cells, allD, hget, hset, fz, List.zipIdx_cons, List.zipIdx_nil, setParts, chunk1, allCellsD, eqKs, eqCell]
theorem nar_LA : l9_0 = .seq (nthC 0 l9_0) (.seq (.block 1 (unB (nthC 1 l9_0))) (nthC 2 l9_0)) := rfl
theorem nar_r {H : Hp} {XA EA XC EC : List D} {i e g : Int} {a b c d s t u v : List UInt8} (h0 : 0 ≤ i) (hi : i < 8) (l1 : XA.length = 8) (l2 : EA.length = 8) (l3 : XC.length = 8) (l4 : EC.length = 8)
    (k1 : XA[i.toNat]? = some (.agg [.s a, .s b, .s c, .s d])) (k2 : EA[i.toNat]? = some (.i .i64 e)) (k3 : XC[i.toNat]? = some (.agg [.s s, .s t, .s u, .s v])) (k4 : EC[i.toNat]? = some (.i .i64 g))
    (z1 : allCellsD 4 XA = true) (z2 : allCellsD 1 EA = true) (z3 : allCellsD 4 XC = true) (z4 : allCellsD 1 EC = true)
    (hs : g = 0 → e = 0 ∨ i = 5) (hw : g = 0 → e = 0 → callV cS false (fnV 15) [.d (.agg [.s a, .s b, .s c, .s d]), .d (.agg [.s s, .s t, .s u, .s v])] H = some (.val (.d (.b true)), H)) (v9 v10 v11 v12 v13 : V) :
    evI cS l9_0 none [(9, v9), (10, v10), (11, v11), (12, v12), (13, v13), (14, .d (.ls XA)), (15, .d (.ls EA)), (16, .d (.ls XC)), (17, .d (.ls EC)), (18, .d (.i .i64 i))] H = some (.nor, [(9, v9), (10, v10), (11, v11), (12, v12), (13, v13), (14, .d (.ls XA)), (15, .d (.ls EA)), (16, .d (.ls XC)), (17, .d (.ls EC)), (18, .d (.i .i64 (i + 1)))], H) := by
  rw [nar_LA, evI_seq, nar_t hi]
  simp only [thenR]
  rw [evI_seq, evI_block, nar_b h0 hi l1 l2 l3 l4 k1 k2 k3 k4 z1 z2 z3 z4 hs hw]
  simp only [blockR, thenR]
  exact nar_i h0 hi _ _ _ _ _ _
end Go.Proofs.YtmiioebapckcoaaGreatDoor
end
