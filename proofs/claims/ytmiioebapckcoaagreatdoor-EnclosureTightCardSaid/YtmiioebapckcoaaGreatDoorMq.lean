/- Part 17 of a proof: the small semantics, its soundness, the functions of the program in it, and the law. -/
import Derived.Test.YtmiioebapckcoaaGreatDoorMp
set_option linter.unusedVariables false
set_option linter.unusedSimpArgs false
section
/- rational: Add; sums as partial functions. -/
namespace Go.Proofs.YtmiioebapckcoaaGreatDoor
open Go Num
set_option maxRecDepth 4000

theorem RAdd_ok (a b c d : List UInt8) (H : Hp) (hG : Glb H) : callV cS false (fnV 24) [.d (.agg [.s a, .s b]), .d (.agg [.s c, .s d])] H = some (.val (.d (opQ (sumD fun x y => x + y) errR a b c d)), H) := by
  rw [callV_fn (sf := c24) rfl rfl rfl rfl]
  have hs := sum_ok 71 (fun x y => x + y) (fun x y h hG fx fy => by rw [Add_ok _ _ _ hG, opI_txt fx fy]) a b c d (ratBox [] [] :: ratBox c d :: ratBox a b :: H) (((hG.cons _).cons _).cons _)
  obtain ⟨s, t, e, he⟩ := sumD_form (fun x y => x + y) a b c d
  rw [he] at hs ⊢
  simp only [ratBox] at hs
  simp [c24, b24, put, eset, eget, D.cells, V.cells, allD, hget, hset, fz, List.zipIdx_cons, List.zipIdx_nil, hs]
open Classical in
noncomputable def sumO (op : Int → Int → Int) (p q : Rat) : Option Rat := if Fits (p.num * q.den) ∧ Fits (q.num * p.den) then twoQ (op (p.num * q.den) (q.num * p.den)) ((p.den : Int) * q.den) else none
theorem oneD_sum (op : Int → Int → Int) (p q : Rat) : oneD (sumD op p q) = (sumO op p q).map dR := by
  unfold sumD sumO
  split
  · exact oneD_two _ _
  · rfl
theorem sumO_fits {op : Int → Int → Int} {p q r : Rat} (h : sumO op p q = some r) : RFits r := by
  unfold sumO at h
  split at h
  · simp only [twoQ] at h
    split at h
    · rename_i h; cases h; exact divInt_fits h.1 h.2.1 h.2.2
    · cases h
  · cases h
theorem sumD_form1 (op : Int → Int → Int) (p q : Rat) : ∃ s t e, sumD op p q = D.tup [.agg [.s s, .s t], .i .i64 e] := by
  unfold sumD
  split
  · exact two_form _ _
  · exact ⟨_, _, _, rfl⟩
theorem sum_OpF {f : FuncId} {op : Int → Int → Int} (hf : ∀ a b c d H, Glb H → callV cS false (fnV f) [.d (.agg [.s a, .s b]), .d (.agg [.s c, .s d])] H = some (.val (.d (opQ (sumD op) errR a b c d)), H)) : OpF f (sumO op) := by
  intro p q fp fq
  refine ⟨sumD op p q, sumD_form1 op p q, fun G hG => ?_, oneD_sum op p q, fun r hr => sumO_fits hr⟩
  have := hf (txt p.num) (txt p.den) (txt q.num) (txt q.den) G hG
  have he : opQ (sumD op) errR (txt p.num) (txt p.den) (txt q.num) (txt q.den) = sumD op p q := by simp only [opQ, RQ_txt fp, RQ_txt fq]
  rw [he] at this
  exact this
theorem add_OpF : OpF 24 (sumO fun x y => x + y) := sum_OpF RAdd_ok
theorem sub_OpF : OpF 18 (sumO fun x y => x - y) := sum_OpF RSub_ok
/-- an operation at two pairs of ends -/
noncomputable def pairO (x y : Option Rat) : Option D := match x, y with
  | some a, some b => some (dI4 a b)
  | _, _ => none
theorem pairO_form (x y : Option Rat) : ∀ z, pairO x y = some z → ∃ s t u v, z = .agg [.s s, .s t, .s u, .s v] := by
  intro z hz
  unfold pairO dI4 at hz
  split at hz
  · cases hz; exact ⟨_, _, _, _, rfl⟩
  · cases hz
end Go.Proofs.YtmiioebapckcoaaGreatDoor
end
section
/- enclosure: Add and Sub. Printed by a program. -/
namespace Go.Proofs.YtmiioebapckcoaaGreatDoor
open Go Num
set_option maxRecDepth 4000

theorem add1_ok {h : Hp} {k i j : Nat} {o : EO} {p1 q1 p2 q2 : Rat} (f1 : RFits p1) (f2 : RFits q1) (f3 : RFits p2) (f4 : RFits q2) (hG : Glb h) (hE : ErrAt h o) (hk : hget h k = some (.box 99 [.d (.fn 24 [] [])])) (hi : hget h i = some (.box 29 [.d (.s (txt p1.num)), .d (.s (txt p1.den)), .d (.s (txt q1.num)), .d (.s (txt q1.den))])) (hj : hget h j = some (.box 29 [.d (.s (txt p2.num)), .d (.s (txt p2.den)), .d (.s (txt q2.num)), .d (.s (txt q2.den))])) :
    callV cS false (.fn 129 [] [.p k 0, .p i 0, .p j 0]) [] h = endW o h (pairO (sumO (fun x y => x + y) p1 p2) (sumO (fun x y => x + y) q1 q2)) := by
  rw [callV_fnV (sf := c129) rfl rfl rfl rfl]
  have hil := hget_lt' hi
  have hjl := hget_lt' hj
  have hkl := hget_lt' hk
  have ni : ¬ i = h.length := by omega
  have nj : ¬ j = h.length := by omega
  have nk : ¬ k = h.length := by omega
  have hG1 := hG.cons (.box 29 [.d (.s []), .d (.s []), .d (.s []), .d (.s [])])
  have hE1 := hE.cons (.box 29 [.d (.s []), .d (.s []), .d (.s []), .d (.s [])])
  have c1 := of_call add_OpF f1 f3 hG1 hE1
  have c2 := of_call add_OpF f2 f4 hG1 hE1
  have hf := fin_pan (h := h) (h' := .box 29 [.d (.s []), .d (.s []), .d (.s []), .d (.s [])] :: h) (v := eV o) (by simp [eV, vlt, hE.2]) (by simp) (by rw [HOk_cons' (Nat.le_refl _)]; exact HOk.refl h)
  rw [trunc_cons' (Nat.le_refl _), trunc_self] at hf
  cases h1 : sumO (fun x y => x + y) p1 p2 with
  | none =>
    rw [h1] at c1
    simp only [eV] at c1 hf
    simp [c129, b129, put, eset, eget, D.cells, V.cells, allD, hget, hset, fz, List.zipIdx_cons, List.zipIdx_nil, hk, hi, hj, ni, nj, nk, c1, hf, pairO, endW, eV]
  | some a =>
    rw [h1] at c1
    cases h2 : sumO (fun x y => x + y) q1 q2 with
    | none =>
      rw [h2] at c2
      simp only [eV] at c2 hf
      simp [c129, b129, put, eset, eget, D.cells, V.cells, allD, hget, hset, fz, List.zipIdx_cons, List.zipIdx_nil, hk, hi, hj, ni, nj, nk, c1, c2, hf, pairO, endW, eV]
    | some b =>
      rw [h2] at c2
      simp [c129, b129, put, eset, eget, D.cells, V.cells, allD, hget, hset, fz, List.zipIdx_cons, List.zipIdx_nil, hk, hi, hj, ni, nj, nk, c1, c2, pairO, endW, dI4, setParts, chunk1, allCellsD]
noncomputable def addX (x y : IV) : Option D := match VQ x.a x.b x.c x.d, VQ y.a y.b y.c y.d with
  | some (p1, q1), some (p2, q2) => pairO (sumO (fun x y => x + y) p1 p2) (sumO (fun x y => x + y) q1 q2)
  | _, _ => none
theorem addX_form (x y : IV) : ∀ z, addX x y = some z → ∃ s t u v, z = .agg [.s s, .s t, .s u, .s v] := by
  intro z hz
  unfold addX at hz
  split at hz
  · exact pairO_form _ _ z hz
  · cases hz
theorem EAdd_ok (x y : IV) {H : Hp} {o : EO} (hG : Glb H) (hE : ErrAt H o) : callV cS false (fnV 82) [.d x.D, .d y.D] H = some (.val (.d (workD [x, y] (addX x y))), H) := by
  rw [callV_fn (sf := c82) rfl rfl rfl rfl]
  obtain ⟨H1, hH1⟩ : ∃ H1 : Hp, H1 = .box 99 [.d (.fn 24 [] [])] :: .box 29 [.d (.s []), .d (.s []), .d (.s []), .d (.s [])] :: .box 29 [.d (.s y.a), .d (.s y.b), .d (.s y.c), .d (.s y.d)] :: .box 29 [.d (.s x.a), .d (.s x.b), .d (.s x.c), .d (.s x.d)] :: H := ⟨_, rfl⟩
  have hG1 : Glb H1 := by rw [hH1]; exact (((hG.cons _).cons _).cons _).cons _
  have hE1 : ErrAt H1 o := by rw [hH1]; exact (((hE.cons _).cons _).cons _).cons _
  have hcomp := compute_work (F := .fn 129 [] [.p (H.length + 1 + 1 + 1) 0, .p H.length 0, .p (H.length + 1) 0]) (l := [x, y]) (by simp) hG1 hE1 (by simp) (addX_form x y) (by
    intro ha
    simp only [List.all_cons, List.all_nil, Bool.and_true, Bool.and_eq_true] at ha
    obtain ⟨p1, q1, f1, f2, _, hv1, a1, a2, a3, a4⟩ := IV.ends ha.1
    obtain ⟨p2, q2, f3, f4, _, hv2, b1, b2, b3, b4⟩ := IV.ends ha.2
    have hm : addX x y = pairO (sumO (fun x y => x + y) p1 p2) (sumO (fun x y => x + y) q1 q2) := by simp only [addX, hv1, hv2]
    rw [hm]
    exact add1_ok (h := cbH H1 zI 0) (k := H.length + 1 + 1 + 1) (i := H.length) (j := H.length + 1) f1 f2 f3 f4 ((hG1.cons _).cons _) ((hE1.cons _).cons _) (by rw [hH1]; simp [cbH, hget, put, eset, eget, D.cells, V.cells, allD, hget, hset, fz, List.zipIdx_cons, List.zipIdx_nil]) (by rw [hH1, ← a1, ← a2, ← a3, ← a4]; simp [cbH, hget, put, eset, eget, D.cells, V.cells, allD, hget, hset, fz, List.zipIdx_cons, List.zipIdx_nil]) (by rw [hH1, ← b1, ← b2, ← b3, ← b4]; simp [cbH, hget, put, eset, eget, D.cells, V.cells, allD, hget, hset, fz, List.zipIdx_cons, List.zipIdx_nil]))
  obtain ⟨s, t, u, v, e, he⟩ := workD_form (l := [x, y]) (addX_form x y)
  rw [he] at hcomp ⊢
  rw [hH1] at hcomp
  simp only [List.map_cons, List.map_nil, IV.D] at hcomp
  simp [c82, b82, put, eset, eget, D.cells, V.cells, allD, hget, hset, fz, List.zipIdx_cons, List.zipIdx_nil, IV.D, hcomp, setParts, chunk1, allCellsD]
theorem sub1_ok {h : Hp} {k i j : Nat} {o : EO} {p1 q1 p2 q2 : Rat} (f1 : RFits p1) (f2 : RFits q1) (f3 : RFits p2) (f4 : RFits q2) (hG : Glb h) (hE : ErrAt h o) (hk : hget h k = some (.box 99 [.d (.fn 18 [] [])])) (hi : hget h i = some (.box 29 [.d (.s (txt p1.num)), .d (.s (txt p1.den)), .d (.s (txt q1.num)), .d (.s (txt q1.den))])) (hj : hget h j = some (.box 29 [.d (.s (txt p2.num)), .d (.s (txt p2.den)), .d (.s (txt q2.num)), .d (.s (txt q2.den))])) :
    callV cS false (.fn 131 [] [.p k 0, .p i 0, .p j 0]) [] h = endW o h (pairO (sumO (fun x y => x - y) p1 q2) (sumO (fun x y => x - y) q1 p2)) := by
  rw [callV_fnV (sf := c131) rfl rfl rfl rfl]
  have hil := hget_lt' hi
  have hjl := hget_lt' hj
  have hkl := hget_lt' hk
  have ni : ¬ i = h.length := by omega
  have nj : ¬ j = h.length := by omega
  have nk : ¬ k = h.length := by omega
  have hG1 := hG.cons (.box 29 [.d (.s []), .d (.s []), .d (.s []), .d (.s [])])
  have hE1 := hE.cons (.box 29 [.d (.s []), .d (.s []), .d (.s []), .d (.s [])])
  have c1 := of_call sub_OpF f1 f4 hG1 hE1
  have c2 := of_call sub_OpF f2 f3 hG1 hE1
  have hf := fin_pan (h := h) (h' := .box 29 [.d (.s []), .d (.s []), .d (.s []), .d (.s [])] :: h) (v := eV o) (by simp [eV, vlt, hE.2]) (by simp) (by rw [HOk_cons' (Nat.le_refl _)]; exact HOk.refl h)
  rw [trunc_cons' (Nat.le_refl _), trunc_self] at hf
  cases h1 : sumO (fun x y => x - y) p1 q2 with
  | none =>
    rw [h1] at c1
    simp only [eV] at c1 hf
    simp [c131, b131, put, eset, eget, D.cells, V.cells, allD, hget, hset, fz, List.zipIdx_cons, List.zipIdx_nil, hk, hi, hj, ni, nj, nk, c1, hf, pairO, endW, eV]
  | some a =>
    rw [h1] at c1
    cases h2 : sumO (fun x y => x - y) q1 p2 with
    | none =>
      rw [h2] at c2
      simp only [eV] at c2 hf
      simp [c131, b131, put, eset, eget, D.cells, V.cells, allD, hget, hset, fz, List.zipIdx_cons, List.zipIdx_nil, hk, hi, hj, ni, nj, nk, c1, c2, hf, pairO, endW, eV]
    | some b =>
      rw [h2] at c2
      simp [c131, b131, put, eset, eget, D.cells, V.cells, allD, hget, hset, fz, List.zipIdx_cons, List.zipIdx_nil, hk, hi, hj, ni, nj, nk, c1, c2, pairO, endW, dI4, setParts, chunk1, allCellsD]
noncomputable def subX (x y : IV) : Option D := match VQ x.a x.b x.c x.d, VQ y.a y.b y.c y.d with
  | some (p1, q1), some (p2, q2) => pairO (sumO (fun x y => x - y) p1 q2) (sumO (fun x y => x - y) q1 p2)
  | _, _ => none
theorem subX_form (x y : IV) : ∀ z, subX x y = some z → ∃ s t u v, z = .agg [.s s, .s t, .s u, .s v] := by
  intro z hz
  unfold subX at hz
  split at hz
  · exact pairO_form _ _ z hz
  · cases hz
theorem ESub_ok (x y : IV) {H : Hp} {o : EO} (hG : Glb H) (hE : ErrAt H o) : callV cS false (fnV 83) [.d x.D, .d y.D] H = some (.val (.d (workD [x, y] (subX x y))), H) := by
  rw [callV_fn (sf := c83) rfl rfl rfl rfl]
  obtain ⟨H1, hH1⟩ : ∃ H1 : Hp, H1 = .box 99 [.d (.fn 18 [] [])] :: .box 29 [.d (.s []), .d (.s []), .d (.s []), .d (.s [])] :: .box 29 [.d (.s y.a), .d (.s y.b), .d (.s y.c), .d (.s y.d)] :: .box 29 [.d (.s x.a), .d (.s x.b), .d (.s x.c), .d (.s x.d)] :: H := ⟨_, rfl⟩
  have hG1 : Glb H1 := by rw [hH1]; exact (((hG.cons _).cons _).cons _).cons _
  have hE1 : ErrAt H1 o := by rw [hH1]; exact (((hE.cons _).cons _).cons _).cons _
  have hcomp := compute_work (F := .fn 131 [] [.p (H.length + 1 + 1 + 1) 0, .p H.length 0, .p (H.length + 1) 0]) (l := [x, y]) (by simp) hG1 hE1 (by simp) (subX_form x y) (by
    intro ha
    simp only [List.all_cons, List.all_nil, Bool.and_true, Bool.and_eq_true] at ha
    obtain ⟨p1, q1, f1, f2, _, hv1, a1, a2, a3, a4⟩ := IV.ends ha.1
    obtain ⟨p2, q2, f3, f4, _, hv2, b1, b2, b3, b4⟩ := IV.ends ha.2
    have hm : subX x y = pairO (sumO (fun x y => x - y) p1 q2) (sumO (fun x y => x - y) q1 p2) := by simp only [subX, hv1, hv2]
    rw [hm]
    exact sub1_ok (h := cbH H1 zI 0) (k := H.length + 1 + 1 + 1) (i := H.length) (j := H.length + 1) f1 f2 f3 f4 ((hG1.cons _).cons _) ((hE1.cons _).cons _) (by rw [hH1]; simp [cbH, hget, put, eset, eget, D.cells, V.cells, allD, hget, hset, fz, List.zipIdx_cons, List.zipIdx_nil]) (by rw [hH1, ← a1, ← a2, ← a3, ← a4]; simp [cbH, hget, put, eset, eget, D.cells, V.cells, allD, hget, hset, fz, List.zipIdx_cons, List.zipIdx_nil]) (by rw [hH1, ← b1, ← b2, ← b3, ← b4]; simp [cbH, hget, put, eset, eget, D.cells, V.cells, allD, hget, hset, fz, List.zipIdx_cons, List.zipIdx_nil]))
  obtain ⟨s, t, u, v, e, he⟩ := workD_form (l := [x, y]) (subX_form x y)
  rw [he] at hcomp ⊢
  rw [hH1] at hcomp
  simp only [List.map_cons, List.map_nil, IV.D] at hcomp
  simp [c83, b83, put, eset, eget, D.cells, V.cells, allD, hget, hset, fz, List.zipIdx_cons, List.zipIdx_nil, IV.D, hcomp, setParts, chunk1, allCellsD]
end Go.Proofs.YtmiioebapckcoaaGreatDoor
end
section
/- The law's list of all operations. Printed by wip/tools/mkCalls.py. -/
namespace Go.Proofs.YtmiioebapckcoaaGreatDoor
open Go Num
set_option maxRecDepth 4000

theorem hget_up {h h' : Hp} {x : Ob} {i : Nat} {y : Ob} (hh : h' = x :: h) (hg : hget h i = some y) : hget h' i = some y := by
  have := hget_lt' hg
  rw [hh]; unfold hget; rw [if_neg (by omega)]; exact hg
theorem hget_top {h h' : Hp} {x : Ob} (hh : h' = x :: h) : hget h' h.length = some x := by rw [hh]; unfold hget; rw [if_pos rfl]
theorem hset_out : ∀ (H : Hp) (o : Nat) (x : Ob), H.length ≤ o → hset H o x = H
  | [], _, _, _ => rfl
  | y :: H, o, x, h => by
    have h1 : ¬ o = H.length := by simp at h; omega
    unfold hset
    rw [if_neg h1, hset_out H o x (by simp at h; omega)]
theorem hset_app : ∀ (L H : Hp) (o : Nat) (x : Ob), H.length ≤ o → ∃ L', hset (L ++ H) o x = L' ++ H
  | [], H, o, x, h => ⟨[], by rw [List.nil_append, hset_out H o x h]⟩
  | y :: L, H, o, x, h => by
    rw [List.cons_append]
    unfold hset
    split
    · exact ⟨x :: L, rfl⟩
    · obtain ⟨L', e⟩ := hset_app L H o x h
      exact ⟨y :: L', by rw [e]; rfl⟩
theorem over_app : ∀ (L H : Hp), Over H (L ++ H)
  | [], H => Over.refl H
  | x :: L, H => (over_app L H).cons
/-- the heap between two rounds -/
structure CS (A B : IV) (pA pB o8 o9 : Nat) (xs es : List V) (H G : Hp) : Prop where
  a : hget G pA = some (.box 29 [.d (.s A.a), .d (.s A.b), .d (.s A.c), .d (.s A.d)])
  b : hget G pB = some (.box 29 [.d (.s B.a), .d (.s B.b), .d (.s B.c), .d (.s B.d)])
  x : hget G o8 = some (.gr 29 4 xs)
  e : hget G o9 = some (.gr 31 1 es)
  app : ∃ L, G = L ++ H
  l8 : H.length ≤ o8
  l9 : H.length ≤ o9
  ne : o8 ≠ o9
  a8 : o8 ≠ pA
  a9 : o9 ≠ pA
  b8 : o8 ≠ pB
  b9 : o9 ≠ pB
theorem CS.over {A B : IV} {pA pB o8 o9 : Nat} {xs es : List V} {H G : Hp} (c : CS A B pA pB o8 o9 xs es H G) : Over H G := by
  obtain ⟨L, e⟩ := c.app
  rw [e]; exact over_app L H
theorem CS.next {A B : IV} {pA pB o8 o9 : Nat} {xs es : List V} {H G : Hp} (c : CS A B pA pB o8 o9 xs es H G) (z : Ob) (v w : V) :
    CS A B pA pB o8 o9 (xs ++ [v]) (es ++ [w]) H (hset (hset (z :: G) o8 (.gr 29 4 (xs ++ [v]))) o9 (.gr 31 1 (es ++ [w]))) := by
  have la := hget_lt' c.a
  have lb := hget_lt' c.b
  have lx := hget_lt' c.x
  have le := hget_lt' c.e
  have up : ∀ {o : Nat}, o < G.length → hget (z :: G) o = hget G o := fun {o} h => by unfold hget; rw [if_neg (by omega)]; cases G <;> rfl
  have l8 : o8 < (z :: G).length := by simp; omega
  have l9 : o9 < (hset (z :: G) o8 (.gr 29 4 (xs ++ [v]))).length := by rw [hset_len]; simp; omega
  refine ⟨?_, ?_, ?_, ?_, ?_, c.l8, c.l9, c.ne, c.a8, c.a9, c.b8, c.b9⟩
  · rw [hget_hset_ne c.a9, hget_hset_ne c.a8, up la]; exact c.a
  · rw [hget_hset_ne c.b9, hget_hset_ne c.b8, up lb]; exact c.b
  · rw [hget_hset_ne c.ne.symm, hget_hset l8]
  · rw [hget_hset l9]
  · obtain ⟨L, e⟩ := c.app
    obtain ⟨L1, e1⟩ := hset_app (z :: L) H o8 (.gr 29 4 (xs ++ [v])) c.l8
    rw [e, ← List.cons_append, e1]
    exact hset_app L1 H o9 _ c.l9
/-- what a round asks of the heap -/
theorem CS.f {A B : IV} {pA pB o8 o9 : Nat} {xs es : List V} {H G : Hp} (c : CS A B pA pB o8 o9 xs es H G) :
    hget G pA = some (.box 29 [.d (.s A.a), .d (.s A.b), .d (.s A.c), .d (.s A.d)]) ∧ hget G pB = some (.box 29 [.d (.s B.a), .d (.s B.b), .d (.s B.c), .d (.s B.d)]) ∧ hget G o8 = some (.gr 29 4 xs) ∧ hget G o9 = some (.gr 31 1 es) ∧ ¬ pA = G.length ∧ ¬ pB = G.length ∧ ¬ o8 = G.length ∧ ¬ o9 = G.length ∧ ∀ Y, hget (hset G o8 Y) o9 = some (.gr 31 1 es) := by
  have ka := hget_lt' c.a
  have kb := hget_lt' c.b
  have kx := hget_lt' c.x
  have ke := hget_lt' c.e
  exact ⟨c.a, c.b, c.x, c.e, by omega, by omega, by omega, by omega, fun Y => by rw [hget_hset_ne c.ne]; exact c.e⟩
def clE (n : Int) (pA pB o8 o9 k : Nat) : En := [(2, .d (.i .i64 n)), (3, .p pA 0), (4, .p pB 0), (8, .gr o8 k), (9, .gr o9 k), (10, .d (.i .i64 k))]

theorem calls_r0 {A B r : IV} {pA pB o8 o9 : Nat} {xs es : List V} {H G : Hp} {n e : Int} (c : CS A B pA pB o8 o9 xs es H G) (hx : xs.length = 0) (he : es.length = 0)
    (hf : callV cS false (fnV 82) [.d (.agg [.s A.a, .s A.b, .s A.c, .s A.d]), .d (.agg [.s B.a, .s B.b, .s B.c, .s B.d])] (.box 29 [.d (.s []), .d (.s []), .d (.s []), .d (.s [])] :: G) = some (.val (.d (.tup [(.agg [.s r.a, .s r.b, .s r.c, .s r.d]), .i .i64 e])), .box 29 [.d (.s []), .d (.s []), .d (.s []), .d (.s [])] :: G)) :
    evI cS l31_0 none (clE n pA pB o8 o9 0) G = some (.nor, clE n pA pB o8 o9 1, hset (hset (.box 29 [.d (.s r.a), .d (.s r.b), .d (.s r.c), .d (.s r.d)] :: G) o8 (.gr 29 4 (xs ++ [.d (.agg [.s r.a, .s r.b, .s r.c, .s r.d])]))) o9 (.gr 31 1 (es ++ [.d (.i .i64 e)]))) := by
  have w : IntKind.i64.wrap 1 = 1 := wr64 (by omega) (by omega)
  simp [l31_0, clE, put, eset, eget, D.cells, V.cells, allD, hget, hset, fz, List.zipIdx_cons, List.zipIdx_nil, c.f, hf, hx, he, w, hset_len, evApp, elemsOf, allCells, allCellsD, setParts, chunk1, notGr]
theorem calls_r1 {A B r : IV} {pA pB o8 o9 : Nat} {xs es : List V} {H G : Hp} {n e : Int} (c : CS A B pA pB o8 o9 xs es H G) (hx : xs.length = 1) (he : es.length = 1)
    (hf : callV cS false (fnV 83) [.d (.agg [.s A.a, .s A.b, .s A.c, .s A.d]), .d (.agg [.s B.a, .s B.b, .s B.c, .s B.d])] (.box 29 [.d (.s []), .d (.s []), .d (.s []), .d (.s [])] :: G) = some (.val (.d (.tup [(.agg [.s r.a, .s r.b, .s r.c, .s r.d]), .i .i64 e])), .box 29 [.d (.s []), .d (.s []), .d (.s []), .d (.s [])] :: G)) :
    evI cS l31_0 none (clE n pA pB o8 o9 1) G = some (.nor, clE n pA pB o8 o9 2, hset (hset (.box 29 [.d (.s r.a), .d (.s r.b), .d (.s r.c), .d (.s r.d)] :: G) o8 (.gr 29 4 (xs ++ [.d (.agg [.s r.a, .s r.b, .s r.c, .s r.d])]))) o9 (.gr 31 1 (es ++ [.d (.i .i64 e)]))) := by
  have w : IntKind.i64.wrap 2 = 2 := wr64 (by omega) (by omega)
  simp [l31_0, clE, put, eset, eget, D.cells, V.cells, allD, hget, hset, fz, List.zipIdx_cons, List.zipIdx_nil, c.f, hf, hx, he, w, hset_len, evApp, elemsOf, allCells, allCellsD, setParts, chunk1, notGr]
theorem calls_r2 {A B r : IV} {pA pB o8 o9 : Nat} {xs es : List V} {H G : Hp} {n e : Int} (c : CS A B pA pB o8 o9 xs es H G) (hx : xs.length = 2) (he : es.length = 2)
    (hf : callV cS false (fnV 41) [.d (.agg [.s A.a, .s A.b, .s A.c, .s A.d]), .d (.agg [.s B.a, .s B.b, .s B.c, .s B.d])] (.box 29 [.d (.s []), .d (.s []), .d (.s []), .d (.s [])] :: G) = some (.val (.d (.tup [(.agg [.s r.a, .s r.b, .s r.c, .s r.d]), .i .i64 e])), .box 29 [.d (.s []), .d (.s []), .d (.s []), .d (.s [])] :: G)) :
    evI cS l31_0 none (clE n pA pB o8 o9 2) G = some (.nor, clE n pA pB o8 o9 3, hset (hset (.box 29 [.d (.s r.a), .d (.s r.b), .d (.s r.c), .d (.s r.d)] :: G) o8 (.gr 29 4 (xs ++ [.d (.agg [.s r.a, .s r.b, .s r.c, .s r.d])]))) o9 (.gr 31 1 (es ++ [.d (.i .i64 e)]))) := by
  have w : IntKind.i64.wrap 3 = 3 := wr64 (by omega) (by omega)
  simp [l31_0, clE, put, eset, eget, D.cells, V.cells, allD, hget, hset, fz, List.zipIdx_cons, List.zipIdx_nil, c.f, hf, hx, he, w, hset_len, evApp, elemsOf, allCells, allCellsD, setParts, chunk1, notGr]
theorem calls_r3 {A B r : IV} {pA pB o8 o9 : Nat} {xs es : List V} {H G : Hp} {n e : Int} (c : CS A B pA pB o8 o9 xs es H G) (hx : xs.length = 3) (he : es.length = 3)
    (hf : callV cS false (fnV 43) [.d (.agg [.s A.a, .s A.b, .s A.c, .s A.d]), .d (.agg [.s B.a, .s B.b, .s B.c, .s B.d])] (.box 29 [.d (.s []), .d (.s []), .d (.s []), .d (.s [])] :: G) = some (.val (.d (.tup [(.agg [.s r.a, .s r.b, .s r.c, .s r.d]), .i .i64 e])), .box 29 [.d (.s []), .d (.s []), .d (.s []), .d (.s [])] :: G)) :
    evI cS l31_0 none (clE n pA pB o8 o9 3) G = some (.nor, clE n pA pB o8 o9 4, hset (hset (.box 29 [.d (.s r.a), .d (.s r.b), .d (.s r.c), .d (.s r.d)] :: G) o8 (.gr 29 4 (xs ++ [.d (.agg [.s r.a, .s r.b, .s r.c, .s r.d])]))) o9 (.gr 31 1 (es ++ [.d (.i .i64 e)]))) := by
  have w : IntKind.i64.wrap 4 = 4 := wr64 (by omega) (by omega)
  simp [l31_0, clE, put, eset, eget, D.cells, V.cells, allD, hget, hset, fz, List.zipIdx_cons, List.zipIdx_nil, c.f, hf, hx, he, w, hset_len, evApp, elemsOf, allCells, allCellsD, setParts, chunk1, notGr]
theorem calls_r4 {A B r : IV} {pA pB o8 o9 : Nat} {xs es : List V} {H G : Hp} {n e : Int} (c : CS A B pA pB o8 o9 xs es H G) (hx : xs.length = 4) (he : es.length = 4)
    (hf : callV cS false (fnV 27) [.d (.agg [.s A.a, .s A.b, .s A.c, .s A.d]), .d (.agg [.s B.a, .s B.b, .s B.c, .s B.d])] (.box 29 [.d (.s []), .d (.s []), .d (.s []), .d (.s [])] :: G) = some (.val (.d (.tup [(.agg [.s r.a, .s r.b, .s r.c, .s r.d]), .i .i64 e])), .box 29 [.d (.s []), .d (.s []), .d (.s []), .d (.s [])] :: G)) :
    evI cS l31_0 none (clE n pA pB o8 o9 4) G = some (.nor, clE n pA pB o8 o9 5, hset (hset (.box 29 [.d (.s r.a), .d (.s r.b), .d (.s r.c), .d (.s r.d)] :: G) o8 (.gr 29 4 (xs ++ [.d (.agg [.s r.a, .s r.b, .s r.c, .s r.d])]))) o9 (.gr 31 1 (es ++ [.d (.i .i64 e)]))) := by
  have w : IntKind.i64.wrap 5 = 5 := wr64 (by omega) (by omega)
  simp [l31_0, clE, put, eset, eget, D.cells, V.cells, allD, hget, hset, fz, List.zipIdx_cons, List.zipIdx_nil, c.f, hf, hx, he, w, hset_len, evApp, elemsOf, allCells, allCellsD, setParts, chunk1, notGr]
theorem calls_r5 {A B r : IV} {pA pB o8 o9 : Nat} {xs es : List V} {H G : Hp} {n e : Int} (c : CS A B pA pB o8 o9 xs es H G) (hx : xs.length = 5) (he : es.length = 5)
    (hf : callV cS false (fnV 26) [.d (.agg [.s A.a, .s A.b, .s A.c, .s A.d]), .d (.agg [.s B.a, .s B.b, .s B.c, .s B.d])] (.box 29 [.d (.s []), .d (.s []), .d (.s []), .d (.s [])] :: G) = some (.val (.d (.tup [(.agg [.s r.a, .s r.b, .s r.c, .s r.d]), .i .i64 e])), .box 29 [.d (.s []), .d (.s []), .d (.s []), .d (.s [])] :: G)) :
    evI cS l31_0 none (clE n pA pB o8 o9 5) G = some (.nor, clE n pA pB o8 o9 6, hset (hset (.box 29 [.d (.s r.a), .d (.s r.b), .d (.s r.c), .d (.s r.d)] :: G) o8 (.gr 29 4 (xs ++ [.d (.agg [.s r.a, .s r.b, .s r.c, .s r.d])]))) o9 (.gr 31 1 (es ++ [.d (.i .i64 e)]))) := by
  have w : IntKind.i64.wrap 6 = 6 := wr64 (by omega) (by omega)
  simp [l31_0, clE, put, eset, eget, D.cells, V.cells, allD, hget, hset, fz, List.zipIdx_cons, List.zipIdx_nil, c.f, hf, hx, he, w, hset_len, evApp, elemsOf, allCells, allCellsD, setParts, chunk1, notGr]
theorem calls_r6 {A B r : IV} {pA pB o8 o9 : Nat} {xs es : List V} {H G : Hp} {n e : Int} (c : CS A B pA pB o8 o9 xs es H G) (hx : xs.length = 6) (he : es.length = 6)
    (hf : callV cS false (fnV 22) [.d (.agg [.s A.a, .s A.b, .s A.c, .s A.d]), .d (.i .i64 n)] (.box 29 [.d (.s []), .d (.s []), .d (.s []), .d (.s [])] :: G) = some (.val (.d (.tup [(.agg [.s r.a, .s r.b, .s r.c, .s r.d]), .i .i64 e])), .box 29 [.d (.s []), .d (.s []), .d (.s []), .d (.s [])] :: G)) :
    evI cS l31_0 none (clE n pA pB o8 o9 6) G = some (.nor, clE n pA pB o8 o9 7, hset (hset (.box 29 [.d (.s r.a), .d (.s r.b), .d (.s r.c), .d (.s r.d)] :: G) o8 (.gr 29 4 (xs ++ [.d (.agg [.s r.a, .s r.b, .s r.c, .s r.d])]))) o9 (.gr 31 1 (es ++ [.d (.i .i64 e)]))) := by
  have w : IntKind.i64.wrap 7 = 7 := wr64 (by omega) (by omega)
  simp [l31_0, clE, put, eset, eget, D.cells, V.cells, allD, hget, hset, fz, List.zipIdx_cons, List.zipIdx_nil, c.f, hf, hx, he, w, hset_len, evApp, elemsOf, allCells, allCellsD, setParts, chunk1, notGr]
theorem calls_r7 {A B r : IV} {pA pB o8 o9 : Nat} {xs es : List V} {H G : Hp} {n e : Int} (c : CS A B pA pB o8 o9 xs es H G) (hx : xs.length = 7) (he : es.length = 7)
    (hf : callV cS false (fnV 14) [.d (.agg [.s A.a, .s A.b, .s A.c, .s A.d]), .d (.i .i64 n)] (.box 29 [.d (.s []), .d (.s []), .d (.s []), .d (.s [])] :: G) = some (.val (.d (.tup [(.agg [.s r.a, .s r.b, .s r.c, .s r.d]), .i .i64 e])), .box 29 [.d (.s []), .d (.s []), .d (.s []), .d (.s [])] :: G)) :
    evI cS l31_0 none (clE n pA pB o8 o9 7) G = some (.nor, clE n pA pB o8 o9 8, hset (hset (.box 29 [.d (.s r.a), .d (.s r.b), .d (.s r.c), .d (.s r.d)] :: G) o8 (.gr 29 4 (xs ++ [.d (.agg [.s r.a, .s r.b, .s r.c, .s r.d])]))) o9 (.gr 31 1 (es ++ [.d (.i .i64 e)]))) := by
  have w : IntKind.i64.wrap 8 = 8 := wr64 (by omega) (by omega)
  simp [l31_0, clE, put, eset, eget, D.cells, V.cells, allD, hget, hset, fz, List.zipIdx_cons, List.zipIdx_nil, c.f, hf, hx, he, w, hset_len, evApp, elemsOf, allCells, allCellsD, setParts, chunk1, notGr]
theorem calls_end {pA pB o8 o9 : Nat} {G : Hp} {n : Int} : evI cS l31_0 none (clE n pA pB o8 o9 8) G = some (.ex 0, clE n pA pB o8 o9 8 ++ [(14, .d (.b false))], G) := by
  simp [l31_0, clE, put, eset, eget, D.cells, V.cells, allD, hget, hset, fz, List.zipIdx_cons, List.zipIdx_nil]
/-- a list of data, frozen -/
theorem omap_d (h : Hp) (n k : Nat) : ∀ (ds : List D), omap (fz h n (k + 1)) (ds.map .d) = some ds
  | [] => rfl
  | d :: ds => by
    rw [List.map_cons]
    unfold omap
    rw [omap_d h n k ds]
    simp [fz]
theorem fin_two {H G : Hp} {o8 o9 : Nat} {t8 s8 t9 s9 : Nat} {ds es : List D} (g8 : hget G o8 = some (.gr t8 s8 (ds.map .d))) (g9 : hget G o9 = some (.gr t9 s9 (es.map .d))) (h8 : H.length ≤ o8) (h9 : H.length ≤ o9) (happ : ∃ L, G = L ++ H) :
    fin false H (.ret (.tup [.gr o8 ds.length, .gr o9 es.length]), G) = some (.val (.d (.tup [.ls ds, .ls es])), H) := by
  have k8 : ¬ o8 < H.length := by omega
  have k9 : ¬ o9 < H.length := by omega
  have hz : fz G H.length 8 (.tup [.gr o8 ds.length, .gr o9 es.length]) = some (.tup [.ls ds, .ls es]) := by
    have e8 : fz G H.length 7 (.gr o8 ds.length) = some (.ls ds) := by
      unfold fz
      rw [if_neg k8, g8]
      simp only [List.length_map, if_true]
      rw [omap_d]
    have e9 : fz G H.length 7 (.gr o9 es.length) = some (.ls es) := by
      unfold fz
      rw [if_neg k9, g9]
      simp only [List.length_map, if_true]
      rw [omap_d]
    unfold fz
    simp only [omap, e8, e9]
  obtain ⟨L, rfl⟩ := happ
  simp only [fin, Bool.false_eq_true, if_false, hz]
  rw [if_pos ⟨by simp, HOk_app L H⟩, trunc_app]
theorem calls_ok {A B r0 r1 r2 r3 r4 r5 r6 r7 : IV} {n e0 e1 e2 e3 e4 e5 e6 e7 : Int} {H : Hp} {o : EO} (hG : Glb H) (hE : ErrAt H o)
    (f0 : ∀ h, Glb h → ErrAt h o → callV cS false (fnV 82) [.d (.agg [.s A.a, .s A.b, .s A.c, .s A.d]), .d (.agg [.s B.a, .s B.b, .s B.c, .s B.d])] h = some (.val (.d (.tup [(.agg [.s r0.a, .s r0.b, .s r0.c, .s r0.d]), .i .i64 e0])), h))
    (f1 : ∀ h, Glb h → ErrAt h o → callV cS false (fnV 83) [.d (.agg [.s A.a, .s A.b, .s A.c, .s A.d]), .d (.agg [.s B.a, .s B.b, .s B.c, .s B.d])] h = some (.val (.d (.tup [(.agg [.s r1.a, .s r1.b, .s r1.c, .s r1.d]), .i .i64 e1])), h))
    (f2 : ∀ h, Glb h → ErrAt h o → callV cS false (fnV 41) [.d (.agg [.s A.a, .s A.b, .s A.c, .s A.d]), .d (.agg [.s B.a, .s B.b, .s B.c, .s B.d])] h = some (.val (.d (.tup [(.agg [.s r2.a, .s r2.b, .s r2.c, .s r2.d]), .i .i64 e2])), h))
    (f3 : ∀ h, Glb h → ErrAt h o → callV cS false (fnV 43) [.d (.agg [.s A.a, .s A.b, .s A.c, .s A.d]), .d (.agg [.s B.a, .s B.b, .s B.c, .s B.d])] h = some (.val (.d (.tup [(.agg [.s r3.a, .s r3.b, .s r3.c, .s r3.d]), .i .i64 e3])), h))
    (f4 : ∀ h, Glb h → ErrAt h o → callV cS false (fnV 27) [.d (.agg [.s A.a, .s A.b, .s A.c, .s A.d]), .d (.agg [.s B.a, .s B.b, .s B.c, .s B.d])] h = some (.val (.d (.tup [(.agg [.s r4.a, .s r4.b, .s r4.c, .s r4.d]), .i .i64 e4])), h))
    (f5 : ∀ h, Glb h → ErrAt h o → callV cS false (fnV 26) [.d (.agg [.s A.a, .s A.b, .s A.c, .s A.d]), .d (.agg [.s B.a, .s B.b, .s B.c, .s B.d])] h = some (.val (.d (.tup [(.agg [.s r5.a, .s r5.b, .s r5.c, .s r5.d]), .i .i64 e5])), h))
    (f6 : ∀ h, Glb h → ErrAt h o → callV cS false (fnV 22) [.d (.agg [.s A.a, .s A.b, .s A.c, .s A.d]), .d (.i .i64 n)] h = some (.val (.d (.tup [(.agg [.s r6.a, .s r6.b, .s r6.c, .s r6.d]), .i .i64 e6])), h))
    (f7 : ∀ h, Glb h → ErrAt h o → callV cS false (fnV 14) [.d (.agg [.s A.a, .s A.b, .s A.c, .s A.d]), .d (.i .i64 n)] h = some (.val (.d (.tup [(.agg [.s r7.a, .s r7.b, .s r7.c, .s r7.d]), .i .i64 e7])), h)) :
    callV cS false (fnV 31) [.d (.agg [.s A.a, .s A.b, .s A.c, .s A.d]), .d (.agg [.s B.a, .s B.b, .s B.c, .s B.d]), .d (.i .i64 n)] H = some (.val (.d (.tup [.ls [(.agg [.s r0.a, .s r0.b, .s r0.c, .s r0.d]), (.agg [.s r1.a, .s r1.b, .s r1.c, .s r1.d]), (.agg [.s r2.a, .s r2.b, .s r2.c, .s r2.d]), (.agg [.s r3.a, .s r3.b, .s r3.c, .s r3.d]), (.agg [.s r4.a, .s r4.b, .s r4.c, .s r4.d]), (.agg [.s r5.a, .s r5.b, .s r5.c, .s r5.d]), (.agg [.s r6.a, .s r6.b, .s r6.c, .s r6.d]), (.agg [.s r7.a, .s r7.b, .s r7.c, .s r7.d])], .ls [.i .i64 e0, .i .i64 e1, .i .i64 e2, .i .i64 e3, .i .i64 e4, .i .i64 e5, .i .i64 e6, .i .i64 e7]])), H) := by
  rw [callV_fn (sf := c31) rfl rfl rfl rfl]
  obtain ⟨G, eG⟩ : ∃ G : Hp, G = .gr 31 1 [] :: .gr 29 4 [] :: .gr 31 1 [] :: .gr 29 4 [] :: .box 29 [.d (.s B.a), .d (.s B.b), .d (.s B.c), .d (.s B.d)] :: .box 29 [.d (.s A.a), .d (.s A.b), .d (.s A.c), .d (.s A.d)] :: H := ⟨_, rfl⟩
  have c0 : CS A B H.length (H.length + 1) (H.length + 1 + 1 + 1 + 1) (H.length + 1 + 1 + 1 + 1 + 1) [] [] H G := by
    subst eG
    refine ⟨by simp [put, eset, eget, D.cells, V.cells, allD, hget, hset, fz, List.zipIdx_cons, List.zipIdx_nil], by simp [put, eset, eget, D.cells, V.cells, allD, hget, hset, fz, List.zipIdx_cons, List.zipIdx_nil], by simp [put, eset, eget, D.cells, V.cells, allD, hget, hset, fz, List.zipIdx_cons, List.zipIdx_nil], by simp [put, eset, eget, D.cells, V.cells, allD, hget, hset, fz, List.zipIdx_cons, List.zipIdx_nil], ⟨[_, _, _, _, _, _], rfl⟩, by omega, by omega, by omega, by omega, by omega, by omega, by omega⟩
  have q0 := calls_r0 (n := n) c0 (by simp) (by simp) (f0 _ ((c0.over.cons).glb hG) ((c0.over.cons).err hE))
  have c1 := c0.next (.box 29 [.d (.s r0.a), .d (.s r0.b), .d (.s r0.c), .d (.s r0.d)]) (.d (.agg [.s r0.a, .s r0.b, .s r0.c, .s r0.d])) (.d (.i .i64 e0))
  simp only [List.nil_append, List.cons_append] at q0 c1
  generalize hset (hset (.box 29 [.d (.s r0.a), .d (.s r0.b), .d (.s r0.c), .d (.s r0.d)] :: G) _ _) _ _ = G1 at q0 c1
  have q1 := calls_r1 (n := n) c1 (by simp) (by simp) (f1 _ ((c1.over.cons).glb hG) ((c1.over.cons).err hE))
  have c2 := c1.next (.box 29 [.d (.s r1.a), .d (.s r1.b), .d (.s r1.c), .d (.s r1.d)]) (.d (.agg [.s r1.a, .s r1.b, .s r1.c, .s r1.d])) (.d (.i .i64 e1))
  simp only [List.nil_append, List.cons_append] at q1 c2
  generalize hset (hset (.box 29 [.d (.s r1.a), .d (.s r1.b), .d (.s r1.c), .d (.s r1.d)] :: G1) _ _) _ _ = G2 at q1 c2
  have q2 := calls_r2 (n := n) c2 (by simp) (by simp) (f2 _ ((c2.over.cons).glb hG) ((c2.over.cons).err hE))
  have c3 := c2.next (.box 29 [.d (.s r2.a), .d (.s r2.b), .d (.s r2.c), .d (.s r2.d)]) (.d (.agg [.s r2.a, .s r2.b, .s r2.c, .s r2.d])) (.d (.i .i64 e2))
  simp only [List.nil_append, List.cons_append] at q2 c3
  generalize hset (hset (.box 29 [.d (.s r2.a), .d (.s r2.b), .d (.s r2.c), .d (.s r2.d)] :: G2) _ _) _ _ = G3 at q2 c3
  have q3 := calls_r3 (n := n) c3 (by simp) (by simp) (f3 _ ((c3.over.cons).glb hG) ((c3.over.cons).err hE))
  have c4 := c3.next (.box 29 [.d (.s r3.a), .d (.s r3.b), .d (.s r3.c), .d (.s r3.d)]) (.d (.agg [.s r3.a, .s r3.b, .s r3.c, .s r3.d])) (.d (.i .i64 e3))
  simp only [List.nil_append, List.cons_append] at q3 c4
  generalize hset (hset (.box 29 [.d (.s r3.a), .d (.s r3.b), .d (.s r3.c), .d (.s r3.d)] :: G3) _ _) _ _ = G4 at q3 c4
  have q4 := calls_r4 (n := n) c4 (by simp) (by simp) (f4 _ ((c4.over.cons).glb hG) ((c4.over.cons).err hE))
  have c5 := c4.next (.box 29 [.d (.s r4.a), .d (.s r4.b), .d (.s r4.c), .d (.s r4.d)]) (.d (.agg [.s r4.a, .s r4.b, .s r4.c, .s r4.d])) (.d (.i .i64 e4))
  simp only [List.nil_append, List.cons_append] at q4 c5
  generalize hset (hset (.box 29 [.d (.s r4.a), .d (.s r4.b), .d (.s r4.c), .d (.s r4.d)] :: G4) _ _) _ _ = G5 at q4 c5
  have q5 := calls_r5 (n := n) c5 (by simp) (by simp) (f5 _ ((c5.over.cons).glb hG) ((c5.over.cons).err hE))
  have c6 := c5.next (.box 29 [.d (.s r5.a), .d (.s r5.b), .d (.s r5.c), .d (.s r5.d)]) (.d (.agg [.s r5.a, .s r5.b, .s r5.c, .s r5.d])) (.d (.i .i64 e5))
  simp only [List.nil_append, List.cons_append] at q5 c6
  generalize hset (hset (.box 29 [.d (.s r5.a), .d (.s r5.b), .d (.s r5.c), .d (.s r5.d)] :: G5) _ _) _ _ = G6 at q5 c6
  have q6 := calls_r6 (n := n) c6 (by simp) (by simp) (f6 _ ((c6.over.cons).glb hG) ((c6.over.cons).err hE))
  have c7 := c6.next (.box 29 [.d (.s r6.a), .d (.s r6.b), .d (.s r6.c), .d (.s r6.d)]) (.d (.agg [.s r6.a, .s r6.b, .s r6.c, .s r6.d])) (.d (.i .i64 e6))
  simp only [List.nil_append, List.cons_append] at q6 c7
  generalize hset (hset (.box 29 [.d (.s r6.a), .d (.s r6.b), .d (.s r6.c), .d (.s r6.d)] :: G6) _ _) _ _ = G7 at q6 c7
  have q7 := calls_r7 (n := n) c7 (by simp) (by simp) (f7 _ ((c7.over.cons).glb hG) ((c7.over.cons).err hE))
  have c8 := c7.next (.box 29 [.d (.s r7.a), .d (.s r7.b), .d (.s r7.c), .d (.s r7.d)]) (.d (.agg [.s r7.a, .s r7.b, .s r7.c, .s r7.d])) (.d (.i .i64 e7))
  simp only [List.nil_append, List.cons_append] at q7 c8
  generalize hset (hset (.box 29 [.d (.s r7.a), .d (.s r7.b), .d (.s r7.c), .d (.s r7.d)] :: G7) _ _) _ _ = G8 at q7 c8
  have q8 := calls_end (G := G8) (n := n) (pA := H.length) (pB := H.length + 1) (o8 := H.length + 1 + 1 + 1 + 1) (o9 := H.length + 1 + 1 + 1 + 1 + 1)
  have lp : evI cS (.loop l31_0) none (clE n H.length (H.length + 1) (H.length + 1 + 1 + 1 + 1) (H.length + 1 + 1 + 1 + 1 + 1) 0) G = some (.ex 0, clE n H.length (H.length + 1) (H.length + 1 + 1 + 1 + 1) (H.length + 1 + 1 + 1 + 1 + 1) 8 ++ [(14, .d (.b false))], G8) := by
    rw [evI_loop, q0]
    simp only [thenR]
    rw [evI_loop, q1]
    simp only [thenR]
    rw [evI_loop, q2]
    simp only [thenR]
    rw [evI_loop, q3]
    simp only [thenR]
    rw [evI_loop, q4]
    simp only [thenR]
    rw [evI_loop, q5]
    simp only [thenR]
    rw [evI_loop, q6]
    simp only [thenR]
    rw [evI_loop, q7]
    simp only [thenR]
    rw [evI_loop, q8]
    rfl
  have hf := fin_two (H := H) (G := G8) (ds := [(.agg [.s r0.a, .s r0.b, .s r0.c, .s r0.d]), (.agg [.s r1.a, .s r1.b, .s r1.c, .s r1.d]), (.agg [.s r2.a, .s r2.b, .s r2.c, .s r2.d]), (.agg [.s r3.a, .s r3.b, .s r3.c, .s r3.d]), (.agg [.s r4.a, .s r4.b, .s r4.c, .s r4.d]), (.agg [.s r5.a, .s r5.b, .s r5.c, .s r5.d]), (.agg [.s r6.a, .s r6.b, .s r6.c, .s r6.d]), (.agg [.s r7.a, .s r7.b, .s r7.c, .s r7.d])]) (es := [.i .i64 e0, .i .i64 e1, .i .i64 e2, .i .i64 e3, .i .i64 e4, .i .i64 e5, .i .i64 e6, .i .i64 e7]) c8.x c8.e c8.l8 c8.l9 c8.app
  rw [eG] at lp
  simp only [clE, Int.natCast_zero, show ((0 : Nat) : Int) = 0 from rfl, show ((8 : Nat) : Int) = 8 from rfl, List.cons_append, List.nil_append] at lp
  simp only [List.length_cons, List.length_nil] at hf
  simp [c31, b31, put, eset, eget, D.cells, V.cells, allD, hget, hset, fz, List.zipIdx_cons, List.zipIdx_nil, lp]
  exact hf
end Go.Proofs.YtmiioebapckcoaaGreatDoor
end
section
/- Operations of small fractions: what they answer. -/
namespace Go.Proofs.YtmiioebapckcoaaGreatDoor
open Go Num
set_option maxRecDepth 4000

/-- as small as the fractions of the law -/
def S3 (q : Rat) : Prop := q.num.natAbs ≤ 99999 ∧ q.den ≤ 9999
theorem big_fits {z : Int} (h : z.natAbs < 10 ^ 30) : Fits z := by
  unfold Fits
  exact Nat.lt_of_lt_of_le h (Nat.pow_le_pow_right (by omega) (by omega))
theorem S3.fits {q : Rat} (h : S3 q) : RFits q := Sm.fits (by obtain ⟨h1, h2⟩ := h; simp only [Sm, Bool.and_eq_true, decide_eq_true_eq]; omega)
theorem s3_of {q : Rat} (h : q.num.natAbs ≤ 999 ∧ q.den ≤ 60) : S3 q := ⟨by omega, by omega⟩
theorem abs_mul {x y : Int} {a b : Nat} (hx : x.natAbs ≤ a) (hy : y.natAbs ≤ b) : (x * y).natAbs ≤ a * b := by
  rw [Int.natAbs_mul]; exact Nat.mul_le_mul hx hy
theorem s3_prods {p q : Rat} (hp : S3 p) (hq : S3 q) : (p.num * q.den).natAbs ≤ 999890001 ∧ (q.num * p.den).natAbs ≤ 999890001 ∧ ((p.den : Int) * q.den).natAbs ≤ 99980001 ∧ (p.num * q.num).natAbs ≤ 9999800001 ∧ ((p.den : Int) * q.num).natAbs ≤ 999890001 := by
  obtain ⟨h1, h2⟩ := hp
  obtain ⟨h3, h4⟩ := hq
  have e1 : ((p.den : Int)).natAbs ≤ 9999 := by simp; omega
  have e2 : ((q.den : Int)).natAbs ≤ 9999 := by simp; omega
  exact ⟨abs_mul h1 e2, abs_mul h3 e1, abs_mul e1 e2, abs_mul h1 h3, abs_mul e1 h3⟩
theorem den_mul_ne (p q : Rat) : (p.den : Int) * q.den ≠ 0 := by
  have := Int.mul_pos (den_pos p) (den_pos q); omega
theorem add_s3 {p q : Rat} (hp : S3 p) (hq : S3 q) : sumD (fun x y => x + y) p q = .tup [dR (p + q), .i .i64 0] ∧ sumO (fun x y => x + y) p q = some (p + q) ∧ RFits (p + q) := by
  obtain ⟨a1, a2, a3, _, _⟩ := s3_prods hp hq
  have f1 : Fits (p.num * q.den) := big_fits (by omega)
  have f2 : Fits (q.num * p.den) := big_fits (by omega)
  have f3 : Fits (p.num * q.den + q.num * p.den) := big_fits (by omega)
  have f4 : Fits ((p.den : Int) * q.den) := big_fits (by omega)
  have hn := den_mul_ne p q
  refine ⟨?_, ?_, ?_⟩
  · unfold sumD
    rw [if_pos ⟨f1, f2⟩, two, if_pos ⟨f3, f4⟩, makeD, if_neg hn, add_parts]
  · unfold sumO
    rw [if_pos ⟨f1, f2⟩, twoQ, if_pos ⟨f3, f4, hn⟩, add_parts]
  · rw [add_parts]; exact divInt_fits f3 f4 hn
theorem sub_s3 {p q : Rat} (hp : S3 p) (hq : S3 q) : sumD (fun x y => x - y) p q = .tup [dR (p - q), .i .i64 0] ∧ sumO (fun x y => x - y) p q = some (p - q) ∧ RFits (p - q) := by
  obtain ⟨a1, a2, a3, _, _⟩ := s3_prods hp hq
  have f1 : Fits (p.num * q.den) := big_fits (by omega)
  have f2 : Fits (q.num * p.den) := big_fits (by omega)
  have f3 : Fits (p.num * q.den - q.num * p.den) := big_fits (by omega)
  have f4 : Fits ((p.den : Int) * q.den) := big_fits (by omega)
  have hn := den_mul_ne p q
  refine ⟨?_, ?_, ?_⟩
  · unfold sumD
    rw [if_pos ⟨f1, f2⟩, two, if_pos ⟨f3, f4⟩, makeD, if_neg hn, sub_parts]
  · unfold sumO
    rw [if_pos ⟨f1, f2⟩, twoQ, if_pos ⟨f3, f4, hn⟩, sub_parts]
  · rw [sub_parts]; exact divInt_fits f3 f4 hn
theorem mul_s3 {p q : Rat} (hp : S3 p) (hq : S3 q) : two (p.num * q.num) ((p.den : Int) * q.den) = .tup [dR (p * q), .i .i64 0] ∧ twoQ (p.num * q.num) ((p.den : Int) * q.den) = some (p * q) ∧ RFits (p * q) := by
  obtain ⟨a1, a2, a3, a4, _⟩ := s3_prods hp hq
  have f3 : Fits (p.num * q.num) := big_fits (by omega)
  have f4 : Fits ((p.den : Int) * q.den) := big_fits (by omega)
  have hn := den_mul_ne p q
  refine ⟨?_, ?_, ?_⟩
  · rw [two, if_pos ⟨f3, f4⟩, makeD, if_neg hn, mul_parts]
  · rw [twoQ, if_pos ⟨f3, f4, hn⟩, mul_parts]
  · rw [mul_parts]; exact divInt_fits f3 f4 hn
theorem div_s3 {p q : Rat} (hp : S3 p) (hq : S3 q) (h0 : q ≠ 0) : two (p.num * q.den) ((p.den : Int) * q.num) = .tup [dR (p / q), .i .i64 0] ∧ twoQ (p.num * q.den) ((p.den : Int) * q.num) = some (p / q) ∧ RFits (p / q) := by
  obtain ⟨a1, a2, a3, a4, a5⟩ := s3_prods hp hq
  have f3 : Fits (p.num * q.den) := big_fits (by omega)
  have f4 : Fits ((p.den : Int) * q.num) := big_fits (by omega)
  have hn : (p.den : Int) * q.num ≠ 0 := by
    have h1 := den_pos p
    have h2 : q.num ≠ 0 := fun h => h0 (Rat.num_eq_zero.1 h)
    exact Int.mul_ne_zero (by omega) h2
  refine ⟨?_, ?_, ?_⟩
  · rw [two, if_pos ⟨f3, f4⟩, makeD, if_neg hn, div_parts']
  · rw [twoQ, if_pos ⟨f3, f4, hn⟩, div_parts']
  · rw [div_parts']; exact divInt_fits f3 f4 hn
theorem sum_call {p q : Rat} (hp : S3 p) (hq : S3 q) {h : Hp} (g : Glb h) : callV cS false (fnV 24) [.d (.agg [.s (txt p.num), .s (txt p.den)]), .d (.agg [.s (txt q.num), .s (txt q.den)])] h = some (.val (.d (.tup [.agg [.s (txt (p + q).num), .s (txt (p + q).den)], .i .i64 0])), h) := by
  rw [RAdd_ok _ _ _ _ _ g]
  simp only [opQ, RQ_txt hp.fits, RQ_txt hq.fits, (add_s3 hp hq).1]
  rfl
theorem dif_call {p q : Rat} (hp : S3 p) (hq : S3 q) {h : Hp} (g : Glb h) : callV cS false (fnV 18) [.d (.agg [.s (txt p.num), .s (txt p.den)]), .d (.agg [.s (txt q.num), .s (txt q.den)])] h = some (.val (.d (.tup [.agg [.s (txt (p - q).num), .s (txt (p - q).den)], .i .i64 0])), h) := by
  rw [RSub_ok _ _ _ _ _ g]
  simp only [opQ, RQ_txt hp.fits, RQ_txt hq.fits, (sub_s3 hp hq).1]
  rfl
theorem pro_call {p q : Rat} (hp : S3 p) (hq : S3 q) {h : Hp} (g : Glb h) : callV cS false (fnV 21) [.d (.agg [.s (txt p.num), .s (txt p.den)]), .d (.agg [.s (txt q.num), .s (txt q.den)])] h = some (.val (.d (.tup [.agg [.s (txt (p * q).num), .s (txt (p * q).den)], .i .i64 0])), h) := by
  rw [RMul_ok _ _ _ _ _ g]
  simp only [opQ, RQ_txt hp.fits, RQ_txt hq.fits, (mul_s3 hp hq).1]
  rfl
theorem quo_call {p q : Rat} (hp : S3 p) (hq : S3 q) (h0 : q ≠ 0) {h : Hp} (g : Glb h) : callV cS false (fnV 17) [.d (.agg [.s (txt p.num), .s (txt p.den)]), .d (.agg [.s (txt q.num), .s (txt q.den)])] h = some (.val (.d (.tup [.agg [.s (txt (p / q).num), .s (txt (p / q).den)], .i .i64 0])), h) := by
  rw [RDiv_ok _ _ _ _ _ g]
  simp only [opQ, RQ_txt hp.fits, RQ_txt hq.fits, (div_s3 hp hq h0).1]
  rfl
/-- the least and the greatest of four -/
def min4 (a b c d : Rat) : Rat := [b, c, d].foldl minQ a
def max4 (a b c d : Rat) : Rat := [b, c, d].foldl maxQ a
theorem min4_le (a b c d : Rat) : min4 a b c d ≤ a ∧ min4 a b c d ≤ b ∧ min4 a b c d ≤ c ∧ min4 a b c d ≤ d := by
  simp only [min4, List.foldl_cons, List.foldl_nil, minQ_eq]
  grind
theorem max4_ge (a b c d : Rat) : a ≤ max4 a b c d ∧ b ≤ max4 a b c d ∧ c ≤ max4 a b c d ∧ d ≤ max4 a b c d := by
  simp only [max4, List.foldl_cons, List.foldl_nil, maxQ_eq]
  grind
theorem min4_mem (a b c d : Rat) : min4 a b c d = a ∨ min4 a b c d = b ∨ min4 a b c d = c ∨ min4 a b c d = d := by
  simp only [min4, List.foldl_cons, List.foldl_nil, minQ_eq]
  grind
theorem max4_mem (a b c d : Rat) : max4 a b c d = a ∨ max4 a b c d = b ∨ max4 a b c d = c ∨ max4 a b c d = d := by
  simp only [max4, List.foldl_cons, List.foldl_nil, maxQ_eq]
  grind
theorem min4_max4 (a b c d : Rat) : min4 a b c d ≤ max4 a b c d := Rat.le_trans (min4_le a b c d).1 (max4_ge a b c d).1
section
variable {a1 a2 b1 b2 : Rat} (ha1 : S3 a1) (ha2 : S3 a2) (hb1 : S3 b1) (hb2 : S3 b2) (la : a1 ≤ a2) (lb : b1 ≤ b2)
include ha1 ha2 hb1 hb2 la lb
theorem EAdd_val {h : Hp} {o : EO} (g : Glb h) (e : ErrAt h o) : callV cS false (fnV 82) [.d (qV a1 a2).D, .d (qV b1 b2).D] h = some (.val (.d (.tup [(qV (a1 + b1) (a2 + b2)).D, .i .i64 0])), h) := by
  rw [EAdd_ok _ _ g e]
  have hx : addX (qV a1 a2) (qV b1 b2) = some (dI4 (a1 + b1) (a2 + b2)) := by
    unfold addX
    rw [VQ_qV ha1.fits ha2.fits la, VQ_qV hb1.fits hb2.fits lb]
    simp only [(add_s3 ha1 hb1).2.1, (add_s3 ha2 hb2).2.1, pairO]
  rw [hx, workD_two (qV_ok ha1.fits ha2.fits la) (qV_ok hb1.fits hb2.fits lb)]
  rfl
theorem ESub_val {h : Hp} {o : EO} (g : Glb h) (e : ErrAt h o) : callV cS false (fnV 83) [.d (qV a1 a2).D, .d (qV b1 b2).D] h = some (.val (.d (.tup [(qV (a1 - b2) (a2 - b1)).D, .i .i64 0])), h) := by
  rw [ESub_ok _ _ g e]
  have hx : subX (qV a1 a2) (qV b1 b2) = some (dI4 (a1 - b2) (a2 - b1)) := by
    unfold subX
    rw [VQ_qV ha1.fits ha2.fits la, VQ_qV hb1.fits hb2.fits lb]
    simp only [(sub_s3 ha1 hb2).2.1, (sub_s3 ha2 hb1).2.1, pairO]
  rw [hx, workD_two (qV_ok ha1.fits ha2.fits la) (qV_ok hb1.fits hb2.fits lb)]
  rfl
theorem EMul_val {h : Hp} {o : EO} (g : Glb h) (e : ErrAt h o) : callV cS false (fnV 41) [.d (qV a1 a2).D, .d (qV b1 b2).D] h = some (.val (.d (.tup [(qV (min4 (a1 * b1) (a1 * b2) (a2 * b1) (a2 * b2)) (max4 (a1 * b1) (a1 * b2) (a2 * b1) (a2 * b2))).D, .i .i64 0])), h) := by
  rw [EMul_ok _ _ g e]
  have hx : mulX (qV a1 a2) (qV b1 b2) = some (dI4 (min4 (a1 * b1) (a1 * b2) (a2 * b1) (a2 * b2)) (max4 (a1 * b1) (a1 * b2) (a2 * b1) (a2 * b2))) := by
    unfold mulX
    rw [VQ_qV ha1.fits ha2.fits la, VQ_qV hb1.fits hb2.fits lb]
    simp only [endsO, (mul_s3 ha1 hb1).2.1, (mul_s3 ha1 hb2).2.1, (mul_s3 ha2 hb1).2.1, (mul_s3 ha2 hb2).2.1]
    rfl
  rw [hx, workD_two (qV_ok ha1.fits ha2.fits la) (qV_ok hb1.fits hb2.fits lb)]
  rfl
theorem EDiv_val (h0 : ¬ (b1 ≤ 0 ∧ 0 ≤ b2)) {h : Hp} {o : EO} (g : Glb h) (e : ErrAt h o) : callV cS false (fnV 43) [.d (qV a1 a2).D, .d (qV b1 b2).D] h = some (.val (.d (.tup [(qV (min4 (a1 / b1) (a1 / b2) (a2 / b1) (a2 / b2)) (max4 (a1 / b1) (a1 / b2) (a2 / b1) (a2 / b2))).D, .i .i64 0])), h) := by
  rw [EDiv_ok _ _ g e]
  have n1 : b1 ≠ 0 := by grind
  have n2 : b2 ≠ 0 := by grind
  have hx : divX (qV a1 a2) (qV b1 b2) = some (dI4 (min4 (a1 / b1) (a1 / b2) (a2 / b1) (a2 / b2)) (max4 (a1 / b1) (a1 / b2) (a2 / b1) (a2 / b2))) := by
    unfold divX
    rw [VQ_qV ha1.fits ha2.fits la, VQ_qV hb1.fits hb2.fits lb]
    simp only [cmpQ_le]
    rw [if_neg h0]
    simp only [endsO, (div_s3 ha1 hb1 n1).2.1, (div_s3 ha1 hb2 n2).2.1, (div_s3 ha2 hb1 n1).2.1, (div_s3 ha2 hb2 n2).2.1]
    rfl
  rw [hx, workD_two (qV_ok ha1.fits ha2.fits la) (qV_ok hb1.fits hb2.fits lb)]
  rfl
theorem EDiv_zero (h0 : b1 ≤ 0 ∧ 0 ≤ b2) {h : Hp} {o : EO} (g : Glb h) (e : ErrAt h o) : callV cS false (fnV 43) [.d (qV a1 a2).D, .d (qV b1 b2).D] h = some (.val (.d errV), h) := by
  rw [EDiv_ok _ _ g e]
  have hx : divX (qV a1 a2) (qV b1 b2) = none := by
    unfold divX
    rw [VQ_qV ha1.fits ha2.fits la, VQ_qV hb1.fits hb2.fits lb]
    simp only [cmpQ_le]
    rw [if_pos h0]
  rw [hx, workD_none]
end
/-- an operation's answer, whatever it is -/
theorem work_any {l : List IV} {x : Option D} (hx : ∀ z, x = some z → ∃ s t u v, z = .agg [.s s, .s t, .s u, .s v]) : ∃ (r : IV) (e : Int), workD l x = .tup [r.D, .i .i64 e] := by
  obtain ⟨s, t, u, v, e, h⟩ := workD_form (l := l) hx
  exact ⟨⟨s, t, u, v⟩, e, h⟩
end Go.Proofs.YtmiioebapckcoaaGreatDoor
end
section
/- Pieces of code; a heap under another. -/
namespace Go.Proofs.YtmiioebapckcoaaGreatDoor
open Go Num
set_option maxRecDepth 4000

def tlC : Nat → C → C
  | 0, c => c
  | n + 1, .seq _ b => tlC n b
  | _, c => c
def unB : C → C
  | .block _ c => c
  | c => c
theorem hget_app : ∀ (L : Hp) {H : Hp} {i : Nat} {y : Ob}, hget H i = some y → hget (L ++ H) i = some y
  | [], _, _, _, h => h
  | x :: L, _, _, _, h => hget_up rfl (hget_app L h)
theorem glb_app : ∀ (L : Hp) {H : Hp}, Glb H → Glb (L ++ H)
  | [], _, h => h
  | x :: L, _, h => (glb_app L h).cons x
end Go.Proofs.YtmiioebapckcoaaGreatDoor
end
section
/- The walk of EnclosureTight. Printed by wip/tools/mkTight.py. -/
namespace Go.Proofs.YtmiioebapckcoaaGreatDoor
open Go Num
set_option maxRecDepth 4000

theorem tight_a {H : Hp} {i6 i7 : Nat} {i k : Int} {a b c d x y : List UInt8} (g6 : hget H i6 = some (.box 29 [.d (.s a), .d (.s b), .d (.s c), .d (.s d)])) (hs : ((k = 0 ∨ k = 1) ∧ x = a ∧ y = b) ∨ ((k = 2 ∨ k = 3) ∧ x = c ∧ y = d)) (lo hi : Bool) (v5 v8 v9 v47 : V) :
    evI cS (nthC 0 (unB (nthC 1 l8_0))) none [(5, v5), (6, .p i6 0), (7, .p i7 0), (8, v8), (9, v9), (10, .d (.i .i64 i)), (11, .d (.b lo)), (12, .d (.b hi)), (13, .d (.i .i64 k)), (47, v47)] H = some (.nor, [(5, v5), (6, .p i6 0), (7, .p i7 0), (8, v8), (9, v9), (10, .d (.i .i64 i)), (11, .d (.b lo)), (12, .d (.b hi)), (13, .d (.i .i64 k)), (14, .p H.length 0)], .box 26 [.d (.s x), .d (.s y)] :: H) := by
  rcases hs with ⟨rfl | rfl, rfl, rfl⟩ | ⟨rfl | rfl, rfl, rfl⟩ <;> simp [nthC, tlC, unB, l8_0, put, eset, eget, D.cells, V.cells, allD, hget, hset, fz, List.zipIdx_cons, List.zipIdx_nil, setParts, chunk1, allCellsD, eqKs, eqCell, g6, wrl]
theorem tight_b {H : Hp} {i6 i7 : Nat} {i k : Int} {a b c d x y : List UInt8} (g7 : hget H i7 = some (.box 29 [.d (.s a), .d (.s b), .d (.s c), .d (.s d)])) (hs : ((k = 0 ∨ k = 2) ∧ x = a ∧ y = b) ∨ ((k = 1 ∨ k = 3) ∧ x = c ∧ y = d)) (lo hi : Bool) (v5 v8 v9 v14 : V) :
    evI cS (nthC 1 (unB (nthC 1 l8_0))) none [(5, v5), (6, .p i6 0), (7, .p i7 0), (8, v8), (9, v9), (10, .d (.i .i64 i)), (11, .d (.b lo)), (12, .d (.b hi)), (13, .d (.i .i64 k)), (14, v14)] H = some (.nor, [(5, v5), (6, .p i6 0), (7, .p i7 0), (8, v8), (9, v9), (10, .d (.i .i64 i)), (11, .d (.b lo)), (12, .d (.b hi)), (13, .d (.i .i64 k)), (14, v14), (15, .p H.length 0)], .box 26 [.d (.s x), .d (.s y)] :: H) := by
  rcases hs with ⟨rfl | rfl, rfl, rfl⟩ | ⟨rfl | rfl, rfl, rfl⟩ <;> simp [nthC, tlC, unB, l8_0, put, eset, eget, D.cells, V.cells, allD, hget, hset, fz, List.zipIdx_cons, List.zipIdx_nil, setParts, chunk1, allCellsD, eqKs, eqCell, g7, wrl]
theorem tight_c {H : Hp} {i6 i7 i14 i15 : Nat} {i k : Int} {a b c d x y : List UInt8} (g14 : hget H i14 = some (.box 26 [.d (.s a), .d (.s b)])) (g15 : hget H i15 = some (.box 26 [.d (.s c), .d (.s d)]))
    (hc : callV cS false (fnV 24) [.d (.agg [.s a, .s b]), .d (.agg [.s c, .s d])] H = some (.val (.d (.tup [(.agg [.s x, .s y]), .i .i64 0])), H)) (lo hi : Bool) (v5 v8 v9 : V) :
    evI cS (nthC 2 (unB (nthC 1 l8_0))) none [(5, v5), (6, .p i6 0), (7, .p i7 0), (8, v8), (9, v9), (10, .d (.i .i64 i)), (11, .d (.b lo)), (12, .d (.b hi)), (13, .d (.i .i64 k)), (14, .p i14 0), (15, .p i15 0)] H = some (.nor, [(5, v5), (6, .p i6 0), (7, .p i7 0), (8, v8), (9, v9), (10, .d (.i .i64 i)), (11, .d (.b lo)), (12, .d (.b hi)), (13, .d (.i .i64 k)), (14, .p i14 0), (15, .p i15 0), (16, .p H.length 0)], .box 26 [.d (.s x), .d (.s y)] :: H) := by
  simp [nthC, tlC, unB, l8_0, put, eset, eget, D.cells, V.cells, allD, hget, hset, fz, List.zipIdx_cons, List.zipIdx_nil, setParts, chunk1, allCellsD, eqKs, eqCell, g14, g15, hc]
theorem tight_d0 {H : Hp} {i6 i7 : Nat} {k : Int} (lo hi : Bool) (v5 v8 v9 v14 v15 v16 : V) :
    evI cS (nthC 3 (unB (nthC 1 l8_0))) none [(5, v5), (6, .p i6 0), (7, .p i7 0), (8, v8), (9, v9), (10, .d (.i .i64 0)), (11, .d (.b lo)), (12, .d (.b hi)), (13, .d (.i .i64 k)), (14, v14), (15, v15), (16, v16)] H = some (.nor, [(5, v5), (6, .p i6 0), (7, .p i7 0), (8, v8), (9, v9), (10, .d (.i .i64 0)), (11, .d (.b lo)), (12, .d (.b hi)), (13, .d (.i .i64 k)), (14, v14), (15, v15), (16, v16), (91, .d (.b false))], H) := by
  simp [nthC, tlC, unB, l8_0, put, eset, eget, D.cells, V.cells, allD, hget, hset, fz, List.zipIdx_cons, List.zipIdx_nil, setParts, chunk1, allCellsD, eqKs, eqCell]
theorem tight_d1 {H : Hp} {i6 i7 i14 i15 : Nat} {k : Int} {a b c d x y s t : List UInt8} (g14 : hget H i14 = some (.box 26 [.d (.s a), .d (.s b)])) (g15 : hget H i15 = some (.box 26 [.d (.s c), .d (.s d)]))
    (hc : callV cS false (fnV 18) [.d (.agg [.s a, .s b]), .d (.agg [.s c, .s d])] (.box 26 [.d (.s s), .d (.s t)] :: H) = some (.val (.d (.tup [(.agg [.s x, .s y]), .i .i64 0])), .box 26 [.d (.s s), .d (.s t)] :: H)) (lo hi : Bool) (v5 v8 v9 : V) :
    evI cS (nthC 3 (unB (nthC 1 l8_0))) none [(5, v5), (6, .p i6 0), (7, .p i7 0), (8, v8), (9, v9), (10, .d (.i .i64 1)), (11, .d (.b lo)), (12, .d (.b hi)), (13, .d (.i .i64 k)), (14, .p i14 0), (15, .p i15 0), (16, .p H.length 0)] (.box 26 [.d (.s s), .d (.s t)] :: H) = some (.nor, [(5, v5), (6, .p i6 0), (7, .p i7 0), (8, v8), (9, v9), (10, .d (.i .i64 1)), (11, .d (.b lo)), (12, .d (.b hi)), (13, .d (.i .i64 k)), (16, .p H.length 0)], .box 26 [.d (.s x), .d (.s y)] :: H) := by
  have l14 := hget_lt' g14
  have l15 := hget_lt' g15
  have n14 : ¬ i14 = H.length := by omega
  have n15 : ¬ i15 = H.length := by omega
  simp [nthC, tlC, unB, l8_0, put, eset, eget, D.cells, V.cells, allD, hget, hset, fz, List.zipIdx_cons, List.zipIdx_nil, setParts, chunk1, allCellsD, eqKs, eqCell, g14, g15, n14, n15, hc]
theorem tight_d2 {H : Hp} {i6 i7 i14 i15 : Nat} {k : Int} {a b c d x y s t : List UInt8} (g14 : hget H i14 = some (.box 26 [.d (.s a), .d (.s b)])) (g15 : hget H i15 = some (.box 26 [.d (.s c), .d (.s d)]))
    (hc : callV cS false (fnV 21) [.d (.agg [.s a, .s b]), .d (.agg [.s c, .s d])] (.box 26 [.d (.s s), .d (.s t)] :: H) = some (.val (.d (.tup [(.agg [.s x, .s y]), .i .i64 0])), .box 26 [.d (.s s), .d (.s t)] :: H)) (lo hi : Bool) (v5 v8 v9 : V) :
    evI cS (nthC 3 (unB (nthC 1 l8_0))) none [(5, v5), (6, .p i6 0), (7, .p i7 0), (8, v8), (9, v9), (10, .d (.i .i64 2)), (11, .d (.b lo)), (12, .d (.b hi)), (13, .d (.i .i64 k)), (14, .p i14 0), (15, .p i15 0), (16, .p H.length 0)] (.box 26 [.d (.s s), .d (.s t)] :: H) = some (.nor, [(5, v5), (6, .p i6 0), (7, .p i7 0), (8, v8), (9, v9), (10, .d (.i .i64 2)), (11, .d (.b lo)), (12, .d (.b hi)), (13, .d (.i .i64 k)), (16, .p H.length 0)], .box 26 [.d (.s x), .d (.s y)] :: H) := by
  have l14 := hget_lt' g14
  have l15 := hget_lt' g15
  have n14 : ¬ i14 = H.length := by omega
  have n15 : ¬ i15 = H.length := by omega
  simp [nthC, tlC, unB, l8_0, put, eset, eget, D.cells, V.cells, allD, hget, hset, fz, List.zipIdx_cons, List.zipIdx_nil, setParts, chunk1, allCellsD, eqKs, eqCell, g14, g15, n14, n15, hc]
theorem tight_d3 {H : Hp} {i6 i7 i14 i15 : Nat} {k : Int} {a b c d x y s t : List UInt8} (g14 : hget H i14 = some (.box 26 [.d (.s a), .d (.s b)])) (g15 : hget H i15 = some (.box 26 [.d (.s c), .d (.s d)]))
    (hc : callV cS false (fnV 17) [.d (.agg [.s a, .s b]), .d (.agg [.s c, .s d])] (.box 26 [.d (.s s), .d (.s t)] :: H) = some (.val (.d (.tup [(.agg [.s x, .s y]), .i .i64 0])), .box 26 [.d (.s s), .d (.s t)] :: H)) (lo hi : Bool) (v5 v8 v9 : V) :
    evI cS (nthC 3 (unB (nthC 1 l8_0))) none [(5, v5), (6, .p i6 0), (7, .p i7 0), (8, v8), (9, v9), (10, .d (.i .i64 3)), (11, .d (.b lo)), (12, .d (.b hi)), (13, .d (.i .i64 k)), (14, .p i14 0), (15, .p i15 0), (16, .p H.length 0)] (.box 26 [.d (.s s), .d (.s t)] :: H) = some (.nor, [(5, v5), (6, .p i6 0), (7, .p i7 0), (8, v8), (9, v9), (10, .d (.i .i64 3)), (11, .d (.b lo)), (12, .d (.b hi)), (13, .d (.i .i64 k)), (16, .p H.length 0)], .box 26 [.d (.s x), .d (.s y)] :: H) := by
  have l14 := hget_lt' g14
  have l15 := hget_lt' g15
  have n14 : ¬ i14 = H.length := by omega
  have n15 : ¬ i15 = H.length := by omega
  simp [nthC, tlC, unB, l8_0, put, eset, eget, D.cells, V.cells, allD, hget, hset, fz, List.zipIdx_cons, List.zipIdx_nil, setParts, chunk1, allCellsD, eqKs, eqCell, g14, g15, n14, n15, hc]
theorem tight_e {H : Hp} {i6 i7 : Nat} {k : Int} {x y : List UInt8} {XS : List D} {i : Int} {r1 r2 r3 r4 : List UInt8} (h0 : 0 ≤ i) (hl : i < (XS.length : Int)) (hx : XS[i.toNat]? = some (.agg [.s r1, .s r2, .s r3, .s r4])) (hz : allCellsD 4 XS = true) (lo hi : Bool) (v5 v9 : V) :
    evI cS (nthC 4 (unB (nthC 1 l8_0))) none [(5, v5), (6, .p i6 0), (7, .p i7 0), (8, .d (.ls XS)), (9, v9), (10, .d (.i .i64 i)), (11, .d (.b lo)), (12, .d (.b hi)), (13, .d (.i .i64 k)), (16, .p H.length 0)] (.box 26 [.d (.s x), .d (.s y)] :: H) = some (.nor, [(5, v5), (6, .p i6 0), (7, .p i7 0), (8, .d (.ls XS)), (9, v9), (10, .d (.i .i64 i)), (11, .d (.b (lo || (x == r1 && y == r2)))), (12, .d (.b hi)), (13, .d (.i .i64 k)), (16, .p H.length 0)], .box 26 [.d (.s x), .d (.s y)] :: H) := by
  obtain ⟨_, hx'⟩ := List.getElem?_eq_some_iff.1 hx
  cases lo <;> simp [nthC, tlC, unB, l8_0, put, eset, eget, D.cells, V.cells, allD, hget, hset, fz, List.zipIdx_cons, List.zipIdx_nil, setParts, chunk1, allCellsD, eqKs, eqCell, h0, hl, hx', hz]
theorem tight_ee {H : Hp} {i6 i7 : Nat} {k : Int} {x y : List UInt8} {XS : List D} {i : Int} {r1 r2 r3 r4 : List UInt8} (h0 : 0 ≤ i) (hl : i < (XS.length : Int)) (hx : XS[i.toNat]? = some (.agg [.s r1, .s r2, .s r3, .s r4])) (hz : allCellsD 4 XS = true) (lo hi : Bool) (v5 v9 v14 v15 v91 : V) :
    evI cS (nthC 4 (unB (nthC 1 l8_0))) none [(5, v5), (6, .p i6 0), (7, .p i7 0), (8, .d (.ls XS)), (9, v9), (10, .d (.i .i64 i)), (11, .d (.b lo)), (12, .d (.b hi)), (13, .d (.i .i64 k)), (14, v14), (15, v15), (16, .p H.length 0), (91, v91)] (.box 26 [.d (.s x), .d (.s y)] :: H) = some (.nor, [(5, v5), (6, .p i6 0), (7, .p i7 0), (8, .d (.ls XS)), (9, v9), (10, .d (.i .i64 i)), (11, .d (.b (lo || (x == r1 && y == r2)))), (12, .d (.b hi)), (13, .d (.i .i64 k)), (16, .p H.length 0)], .box 26 [.d (.s x), .d (.s y)] :: H) := by
  obtain ⟨_, hx'⟩ := List.getElem?_eq_some_iff.1 hx
  cases lo <;> simp [nthC, tlC, unB, l8_0, put, eset, eget, D.cells, V.cells, allD, hget, hset, fz, List.zipIdx_cons, List.zipIdx_nil, setParts, chunk1, allCellsD, eqKs, eqCell, h0, hl, hx', hz]
theorem tight_f {H : Hp} {i6 i7 : Nat} {k : Int} {x y : List UInt8} {XS : List D} {i : Int} {r1 r2 r3 r4 : List UInt8} (h0 : 0 ≤ i) (hl : i < (XS.length : Int)) (hx : XS[i.toNat]? = some (.agg [.s r1, .s r2, .s r3, .s r4])) (hz : allCellsD 4 XS = true) (lo hi : Bool) (v5 v9 : V) :
    evI cS (nthC 5 (unB (nthC 1 l8_0))) none [(5, v5), (6, .p i6 0), (7, .p i7 0), (8, .d (.ls XS)), (9, v9), (10, .d (.i .i64 i)), (11, .d (.b lo)), (12, .d (.b hi)), (13, .d (.i .i64 k)), (16, .p H.length 0)] (.box 26 [.d (.s x), .d (.s y)] :: H) = some (.nor, [(5, v5), (6, .p i6 0), (7, .p i7 0), (8, .d (.ls XS)), (9, v9), (10, .d (.i .i64 i)), (11, .d (.b lo)), (12, .d (.b (hi || (x == r3 && y == r4)))), (13, .d (.i .i64 k)), (16, .p H.length 0)], .box 26 [.d (.s x), .d (.s y)] :: H) := by
  obtain ⟨_, hx'⟩ := List.getElem?_eq_some_iff.1 hx
  cases hi <;> simp [nthC, tlC, unB, l8_0, put, eset, eget, D.cells, V.cells, allD, hget, hset, fz, List.zipIdx_cons, List.zipIdx_nil, setParts, chunk1, allCellsD, eqKs, eqCell, h0, hl, hx', hz]
theorem tight_g {H : Hp} {i6 i7 : Nat} {k : Int} {x y : List UInt8} {XS : List D} {i : Int} {r1 r2 r3 r4 : List UInt8} (h0 : 0 ≤ i) (hl : i < (XS.length : Int)) (hx : XS[i.toNat]? = some (.agg [.s r1, .s r2, .s r3, .s r4])) (hz : allCellsD 4 XS = true) (hc : callV cS false (fnV 23) [.d (.agg [.s r1, .s r2, .s r3, .s r4]), .d (.agg [.s x, .s y])] (.box 26 [.d (.s x), .d (.s y)] :: H) = some (.val (.d (.b true)), .box 26 [.d (.s x), .d (.s y)] :: H)) (lo hi : Bool) (v5 v9 : V) :
    evI cS (tlC 6 (unB (nthC 1 l8_0))) none [(5, v5), (6, .p i6 0), (7, .p i7 0), (8, .d (.ls XS)), (9, v9), (10, .d (.i .i64 i)), (11, .d (.b lo)), (12, .d (.b hi)), (13, .d (.i .i64 k)), (16, .p H.length 0)] (.box 26 [.d (.s x), .d (.s y)] :: H) = some (.nor, [(5, v5), (6, .p i6 0), (7, .p i7 0), (8, .d (.ls XS)), (9, v9), (10, .d (.i .i64 i)), (11, .d (.b lo)), (12, .d (.b hi)), (13, .d (.i .i64 k)), (125, .d (.b false))], .box 26 [.d (.s x), .d (.s y)] :: H) := by
  obtain ⟨_, hx'⟩ := List.getElem?_eq_some_iff.1 hx
  simp [nthC, tlC, unB, l8_0, put, eset, eget, D.cells, V.cells, allD, hget, hset, fz, List.zipIdx_cons, List.zipIdx_nil, setParts, chunk1, allCellsD, eqKs, eqCell, h0, hl, hx', hz, hc]
theorem tight_t {H : Hp} {i6 i7 : Nat} {i k : Int} (hk : k < 4) (lo hi : Bool) (v5 v8 v9 : V) : evI cS (nthC 0 l8_0) none [(5, v5), (6, .p i6 0), (7, .p i7 0), (8, v8), (9, v9), (10, .d (.i .i64 i)), (11, .d (.b lo)), (12, .d (.b hi)), (13, .d (.i .i64 k))] H = some (.nor, [(5, v5), (6, .p i6 0), (7, .p i7 0), (8, v8), (9, v9), (10, .d (.i .i64 i)), (11, .d (.b lo)), (12, .d (.b hi)), (13, .d (.i .i64 k)), (47, .d (.b true))], H) := by
  simp [nthC, tlC, unB, l8_0, put, eset, eget, D.cells, V.cells, allD, hget, hset, fz, List.zipIdx_cons, List.zipIdx_nil, setParts, chunk1, allCellsD, eqKs, eqCell, hk]
theorem tight_x {H : Hp} {i6 i7 : Nat} {i : Int} (lo hi : Bool) (v5 v8 v9 : V) : evI cS l8_0 none [(5, v5), (6, .p i6 0), (7, .p i7 0), (8, v8), (9, v9), (10, .d (.i .i64 i)), (11, .d (.b lo)), (12, .d (.b hi)), (13, .d (.i .i64 4))] H = some (.ex 2, [(5, v5), (6, .p i6 0), (7, .p i7 0), (8, v8), (9, v9), (10, .d (.i .i64 i)), (11, .d (.b lo)), (12, .d (.b hi)), (13, .d (.i .i64 4)), (47, .d (.b false))], H) := by
  simp [nthC, tlC, unB, l8_0, put, eset, eget, D.cells, V.cells, allD, hget, hset, fz, List.zipIdx_cons, List.zipIdx_nil, setParts, chunk1, allCellsD, eqKs, eqCell]
theorem tight_i {H : Hp} {i6 i7 : Nat} {i k : Int} (h0 : 0 ≤ k) (hk : k < 4) (lo hi : Bool) (v5 v8 v9 v125 : V) : evI cS (nthC 2 l8_0) none [(5, v5), (6, .p i6 0), (7, .p i7 0), (8, v8), (9, v9), (10, .d (.i .i64 i)), (11, .d (.b lo)), (12, .d (.b hi)), (13, .d (.i .i64 k)), (125, v125)] H = some (.nor, [(5, v5), (6, .p i6 0), (7, .p i7 0), (8, v8), (9, v9), (10, .d (.i .i64 i)), (11, .d (.b lo)), (12, .d (.b hi)), (13, .d (.i .i64 (k + 1)))], H) := by
  have w : IntKind.i64.wrap (k + 1) = k + 1 := wr64 (by omega) (by omega)
  simp [nthC, tlC, unB, l8_0, put, eset, eget, D.cells, V.cells, allD, hget, hset, fz, List.zipIdx_cons, List.zipIdx_nil, setParts, chunk1, allCellsD, eqKs, eqCell, w]
end Go.Proofs.YtmiioebapckcoaaGreatDoor
end
section
/- EnclosureTight: the loops. Printed by wip/tools/mkTight.py. -/
namespace Go.Proofs.YtmiioebapckcoaaGreatDoor
open Go Num
set_option maxRecDepth 4000

theorem tight_LA : l8_0 = .seq (nthC 0 l8_0) (.seq (.block 3 (.seq (nthC 0 (unB (nthC 1 l8_0))) (.seq (nthC 1 (unB (nthC 1 l8_0))) (.seq (nthC 2 (unB (nthC 1 l8_0))) (.seq (nthC 3 (unB (nthC 1 l8_0))) (.seq (nthC 4 (unB (nthC 1 l8_0))) (.seq (nthC 5 (unB (nthC 1 l8_0))) (tlC 6 (unB (nthC 1 l8_0)))))))))) (nthC 2 l8_0)) := rfl
theorem tight_r0 {H : Hp} (hG : Glb H) {i6 i7 : Nat} {a b c d a' b' c' d' x1 x2 y1 y2 x y : List UInt8} {k : Int} {XS : List D} {r1 r2 r3 r4 : List UInt8} (hl : 0 < (XS.length : Int)) (hx : XS[0]? = some (.agg [.s r1, .s r2, .s r3, .s r4])) (hz : allCellsD 4 XS = true) (h0 : 0 ≤ k) (h4 : k < 4) (g6 : hget H i6 = some (.box 29 [.d (.s a), .d (.s b), .d (.s c), .d (.s d)])) (g7 : hget H i7 = some (.box 29 [.d (.s a'), .d (.s b'), .d (.s c'), .d (.s d')]))
    (hs1 : ((k = 0 ∨ k = 1) ∧ x1 = a ∧ x2 = b) ∨ ((k = 2 ∨ k = 3) ∧ x1 = c ∧ x2 = d)) (hs2 : ((k = 0 ∨ k = 2) ∧ y1 = a' ∧ y2 = b') ∨ ((k = 1 ∨ k = 3) ∧ y1 = c' ∧ y2 = d'))
    (ha : ∀ h, Glb h → callV cS false (fnV 24) [.d (.agg [.s x1, .s x2]), .d (.agg [.s y1, .s y2])] h = some (.val (.d (.tup [(.agg [.s x, .s y]), .i .i64 0])), h))
    (hc : ∀ h, Glb h → callV cS false (fnV 23) [.d (.agg [.s r1, .s r2, .s r3, .s r4]), .d (.agg [.s x, .s y])] h = some (.val (.d (.b true)), h)) (lo hi : Bool) (v5 v9 : V) :
    evI cS l8_0 none [(5, v5), (6, .p i6 0), (7, .p i7 0), (8, .d (.ls XS)), (9, v9), (10, .d (.i .i64 0)), (11, .d (.b lo)), (12, .d (.b hi)), (13, .d (.i .i64 k))] H = some (.nor, [(5, v5), (6, .p i6 0), (7, .p i7 0), (8, .d (.ls XS)), (9, v9), (10, .d (.i .i64 0)), (11, .d (.b (lo || (x == r1 && y == r2)))), (12, .d (.b (hi || (x == r3 && y == r4)))), (13, .d (.i .i64 (k + 1)))], [.box 26 [.d (.s x), .d (.s y)], .box 26 [.d (.s y1), .d (.s y2)], .box 26 [.d (.s x1), .d (.s x2)]] ++ H) := by
  obtain ⟨h14, e14⟩ : ∃ h14 : Hp, h14 = .box 26 [.d (.s x1), .d (.s x2)] :: H := ⟨_, rfl⟩
  obtain ⟨h15, e15⟩ : ∃ h15 : Hp, h15 = .box 26 [.d (.s y1), .d (.s y2)] :: h14 := ⟨_, rfl⟩
  have l14 : Glb h14 := by rw [e14]; exact hG.cons _
  have l15 : Glb h15 := by rw [e15]; exact l14.cons _
  have k14 := hget_up e15 (hget_top e14)
  have qa := tight_a (i7 := i7) (i := 0) g6 hs1 lo hi v5 (.d (.ls XS)) v9 (.d (.b true))
  rw [← e14] at qa
  have qb := tight_b (i6 := i6) (i := 0) (hget_up e14 g7) hs2 lo hi v5 (.d (.ls XS)) v9 (.p H.length 0)
  rw [← e15] at qb
  have qc := tight_c (i6 := i6) (i7 := i7) (i := 0) (k := k) k14 (hget_top e15) (ha h15 l15) lo hi v5 (.d (.ls XS)) v9
  have qd := tight_d0 (H := .box 26 [.d (.s x), .d (.s y)] :: h15) (i6 := i6) (i7 := i7) (k := k) lo hi v5 (.d (.ls XS)) v9 (.p H.length 0) (.p h14.length 0) (.p h15.length 0)
  have qe := tight_ee (H := h15) (i6 := i6) (i7 := i7) (k := k) (x := x) (y := y) (by omega) hl hx hz lo hi v5 v9 (.p H.length 0) (.p h14.length 0) (.d (.b false))
  have qf := tight_f (H := h15) (i6 := i6) (i7 := i7) (k := k) (x := x) (y := y) (by omega) hl hx hz (lo || (x == r1 && y == r2)) hi v5 v9
  have qg := tight_g (H := h15) (i6 := i6) (i7 := i7) (k := k) (by omega) hl hx hz (hc _ (l15.cons _)) (lo || (x == r1 && y == r2)) (hi || (x == r3 && y == r4)) v5 v9
  have qi := tight_i (H := .box 26 [.d (.s x), .d (.s y)] :: h15) (i6 := i6) (i7 := i7) (i := 0) (k := k) h0 h4 (lo || (x == r1 && y == r2)) (hi || (x == r3 && y == r4)) v5 (.d (.ls XS)) v9 (.d (.b false))
  rw [tight_LA, evI_seq, tight_t h4]
  simp only [thenR]
  rw [evI_seq, evI_block, evI_seq, qa]
  simp only [thenR]
  rw [evI_seq, qb]
  simp only [thenR]
  rw [evI_seq, qc]
  simp only [thenR]
  rw [evI_seq, qd]
  simp only [thenR]
  rw [evI_seq, qe]
  simp only [thenR]
  rw [evI_seq, qf]
  simp only [thenR]
  rw [qg]
  simp only [blockR, thenR]
  rw [qi, e15, e14]
  rfl
theorem tight_r1 {H : Hp} (hG : Glb H) {i6 i7 : Nat} {a b c d a' b' c' d' x1 x2 y1 y2 s t x y : List UInt8} {k : Int} {XS : List D} {r1 r2 r3 r4 : List UInt8} (hl : 1 < (XS.length : Int)) (hx : XS[1]? = some (.agg [.s r1, .s r2, .s r3, .s r4])) (hz : allCellsD 4 XS = true) (h0 : 0 ≤ k) (h4 : k < 4) (g6 : hget H i6 = some (.box 29 [.d (.s a), .d (.s b), .d (.s c), .d (.s d)])) (g7 : hget H i7 = some (.box 29 [.d (.s a'), .d (.s b'), .d (.s c'), .d (.s d')]))
    (hs1 : ((k = 0 ∨ k = 1) ∧ x1 = a ∧ x2 = b) ∨ ((k = 2 ∨ k = 3) ∧ x1 = c ∧ x2 = d)) (hs2 : ((k = 0 ∨ k = 2) ∧ y1 = a' ∧ y2 = b') ∨ ((k = 1 ∨ k = 3) ∧ y1 = c' ∧ y2 = d'))
    (ha : ∀ h, Glb h → callV cS false (fnV 24) [.d (.agg [.s x1, .s x2]), .d (.agg [.s y1, .s y2])] h = some (.val (.d (.tup [(.agg [.s s, .s t]), .i .i64 0])), h))
    (ho : ∀ h, Glb h → callV cS false (fnV 18) [.d (.agg [.s x1, .s x2]), .d (.agg [.s y1, .s y2])] h = some (.val (.d (.tup [(.agg [.s x, .s y]), .i .i64 0])), h))
    (hc : ∀ h, Glb h → callV cS false (fnV 23) [.d (.agg [.s r1, .s r2, .s r3, .s r4]), .d (.agg [.s x, .s y])] h = some (.val (.d (.b true)), h)) (lo hi : Bool) (v5 v9 : V) :
    evI cS l8_0 none [(5, v5), (6, .p i6 0), (7, .p i7 0), (8, .d (.ls XS)), (9, v9), (10, .d (.i .i64 1)), (11, .d (.b lo)), (12, .d (.b hi)), (13, .d (.i .i64 k))] H = some (.nor, [(5, v5), (6, .p i6 0), (7, .p i7 0), (8, .d (.ls XS)), (9, v9), (10, .d (.i .i64 1)), (11, .d (.b (lo || (x == r1 && y == r2)))), (12, .d (.b (hi || (x == r3 && y == r4)))), (13, .d (.i .i64 (k + 1)))], [.box 26 [.d (.s x), .d (.s y)], .box 26 [.d (.s y1), .d (.s y2)], .box 26 [.d (.s x1), .d (.s x2)]] ++ H) := by
  obtain ⟨h14, e14⟩ : ∃ h14 : Hp, h14 = .box 26 [.d (.s x1), .d (.s x2)] :: H := ⟨_, rfl⟩
  obtain ⟨h15, e15⟩ : ∃ h15 : Hp, h15 = .box 26 [.d (.s y1), .d (.s y2)] :: h14 := ⟨_, rfl⟩
  have l14 : Glb h14 := by rw [e14]; exact hG.cons _
  have l15 : Glb h15 := by rw [e15]; exact l14.cons _
  have k14 := hget_up e15 (hget_top e14)
  have qa := tight_a (i7 := i7) (i := 1) g6 hs1 lo hi v5 (.d (.ls XS)) v9 (.d (.b true))
  rw [← e14] at qa
  have qb := tight_b (i6 := i6) (i := 1) (hget_up e14 g7) hs2 lo hi v5 (.d (.ls XS)) v9 (.p H.length 0)
  rw [← e15] at qb
  have qc := tight_c (i6 := i6) (i7 := i7) (i := 1) (k := k) k14 (hget_top e15) (ha h15 l15) lo hi v5 (.d (.ls XS)) v9
  have qd := tight_d1 (i6 := i6) (i7 := i7) (k := k) (s := s) (t := t) k14 (hget_top e15) (ho _ (l15.cons _)) lo hi v5 (.d (.ls XS)) v9
  have qe := tight_e (H := h15) (i6 := i6) (i7 := i7) (k := k) (x := x) (y := y) (by omega) hl hx hz lo hi v5 v9
  have qf := tight_f (H := h15) (i6 := i6) (i7 := i7) (k := k) (x := x) (y := y) (by omega) hl hx hz (lo || (x == r1 && y == r2)) hi v5 v9
  have qg := tight_g (H := h15) (i6 := i6) (i7 := i7) (k := k) (by omega) hl hx hz (hc _ (l15.cons _)) (lo || (x == r1 && y == r2)) (hi || (x == r3 && y == r4)) v5 v9
  have qi := tight_i (H := .box 26 [.d (.s x), .d (.s y)] :: h15) (i6 := i6) (i7 := i7) (i := 1) (k := k) h0 h4 (lo || (x == r1 && y == r2)) (hi || (x == r3 && y == r4)) v5 (.d (.ls XS)) v9 (.d (.b false))
  rw [tight_LA, evI_seq, tight_t h4]
  simp only [thenR]
  rw [evI_seq, evI_block, evI_seq, qa]
  simp only [thenR]
  rw [evI_seq, qb]
  simp only [thenR]
  rw [evI_seq, qc]
  simp only [thenR]
  rw [evI_seq, qd]
  simp only [thenR]
  rw [evI_seq, qe]
  simp only [thenR]
  rw [evI_seq, qf]
  simp only [thenR]
  rw [qg]
  simp only [blockR, thenR]
  rw [qi, e15, e14]
  rfl
theorem tight_r2 {H : Hp} (hG : Glb H) {i6 i7 : Nat} {a b c d a' b' c' d' x1 x2 y1 y2 s t x y : List UInt8} {k : Int} {XS : List D} {r1 r2 r3 r4 : List UInt8} (hl : 2 < (XS.length : Int)) (hx : XS[2]? = some (.agg [.s r1, .s r2, .s r3, .s r4])) (hz : allCellsD 4 XS = true) (h0 : 0 ≤ k) (h4 : k < 4) (g6 : hget H i6 = some (.box 29 [.d (.s a), .d (.s b), .d (.s c), .d (.s d)])) (g7 : hget H i7 = some (.box 29 [.d (.s a'), .d (.s b'), .d (.s c'), .d (.s d')]))
    (hs1 : ((k = 0 ∨ k = 1) ∧ x1 = a ∧ x2 = b) ∨ ((k = 2 ∨ k = 3) ∧ x1 = c ∧ x2 = d)) (hs2 : ((k = 0 ∨ k = 2) ∧ y1 = a' ∧ y2 = b') ∨ ((k = 1 ∨ k = 3) ∧ y1 = c' ∧ y2 = d'))
    (ha : ∀ h, Glb h → callV cS false (fnV 24) [.d (.agg [.s x1, .s x2]), .d (.agg [.s y1, .s y2])] h = some (.val (.d (.tup [(.agg [.s s, .s t]), .i .i64 0])), h))
    (ho : ∀ h, Glb h → callV cS false (fnV 21) [.d (.agg [.s x1, .s x2]), .d (.agg [.s y1, .s y2])] h = some (.val (.d (.tup [(.agg [.s x, .s y]), .i .i64 0])), h))
    (hc : ∀ h, Glb h → callV cS false (fnV 23) [.d (.agg [.s r1, .s r2, .s r3, .s r4]), .d (.agg [.s x, .s y])] h = some (.val (.d (.b true)), h)) (lo hi : Bool) (v5 v9 : V) :
    evI cS l8_0 none [(5, v5), (6, .p i6 0), (7, .p i7 0), (8, .d (.ls XS)), (9, v9), (10, .d (.i .i64 2)), (11, .d (.b lo)), (12, .d (.b hi)), (13, .d (.i .i64 k))] H = some (.nor, [(5, v5), (6, .p i6 0), (7, .p i7 0), (8, .d (.ls XS)), (9, v9), (10, .d (.i .i64 2)), (11, .d (.b (lo || (x == r1 && y == r2)))), (12, .d (.b (hi || (x == r3 && y == r4)))), (13, .d (.i .i64 (k + 1)))], [.box 26 [.d (.s x), .d (.s y)], .box 26 [.d (.s y1), .d (.s y2)], .box 26 [.d (.s x1), .d (.s x2)]] ++ H) := by
  obtain ⟨h14, e14⟩ : ∃ h14 : Hp, h14 = .box 26 [.d (.s x1), .d (.s x2)] :: H := ⟨_, rfl⟩
  obtain ⟨h15, e15⟩ : ∃ h15 : Hp, h15 = .box 26 [.d (.s y1), .d (.s y2)] :: h14 := ⟨_, rfl⟩
  have l14 : Glb h14 := by rw [e14]; exact hG.cons _
  have l15 : Glb h15 := by rw [e15]; exact l14.cons _
  have k14 := hget_up e15 (hget_top e14)
  have qa := tight_a (i7 := i7) (i := 2) g6 hs1 lo hi v5 (.d (.ls XS)) v9 (.d (.b true))
  rw [← e14] at qa
  have qb := tight_b (i6 := i6) (i := 2) (hget_up e14 g7) hs2 lo hi v5 (.d (.ls XS)) v9 (.p H.length 0)
  rw [← e15] at qb
  have qc := tight_c (i6 := i6) (i7 := i7) (i := 2) (k := k) k14 (hget_top e15) (ha h15 l15) lo hi v5 (.d (.ls XS)) v9
  have qd := tight_d2 (i6 := i6) (i7 := i7) (k := k) (s := s) (t := t) k14 (hget_top e15) (ho _ (l15.cons _)) lo hi v5 (.d (.ls XS)) v9
  have qe := tight_e (H := h15) (i6 := i6) (i7 := i7) (k := k) (x := x) (y := y) (by omega) hl hx hz lo hi v5 v9
  have qf := tight_f (H := h15) (i6 := i6) (i7 := i7) (k := k) (x := x) (y := y) (by omega) hl hx hz (lo || (x == r1 && y == r2)) hi v5 v9
  have qg := tight_g (H := h15) (i6 := i6) (i7 := i7) (k := k) (by omega) hl hx hz (hc _ (l15.cons _)) (lo || (x == r1 && y == r2)) (hi || (x == r3 && y == r4)) v5 v9
  have qi := tight_i (H := .box 26 [.d (.s x), .d (.s y)] :: h15) (i6 := i6) (i7 := i7) (i := 2) (k := k) h0 h4 (lo || (x == r1 && y == r2)) (hi || (x == r3 && y == r4)) v5 (.d (.ls XS)) v9 (.d (.b false))
  rw [tight_LA, evI_seq, tight_t h4]
  simp only [thenR]
  rw [evI_seq, evI_block, evI_seq, qa]
  simp only [thenR]
  rw [evI_seq, qb]
  simp only [thenR]
  rw [evI_seq, qc]
  simp only [thenR]
  rw [evI_seq, qd]
  simp only [thenR]
  rw [evI_seq, qe]
  simp only [thenR]
  rw [evI_seq, qf]
  simp only [thenR]
  rw [qg]
  simp only [blockR, thenR]
  rw [qi, e15, e14]
  rfl
theorem tight_r3 {H : Hp} (hG : Glb H) {i6 i7 : Nat} {a b c d a' b' c' d' x1 x2 y1 y2 s t x y : List UInt8} {k : Int} {XS : List D} {r1 r2 r3 r4 : List UInt8} (hl : 3 < (XS.length : Int)) (hx : XS[3]? = some (.agg [.s r1, .s r2, .s r3, .s r4])) (hz : allCellsD 4 XS = true) (h0 : 0 ≤ k) (h4 : k < 4) (g6 : hget H i6 = some (.box 29 [.d (.s a), .d (.s b), .d (.s c), .d (.s d)])) (g7 : hget H i7 = some (.box 29 [.d (.s a'), .d (.s b'), .d (.s c'), .d (.s d')]))
    (hs1 : ((k = 0 ∨ k = 1) ∧ x1 = a ∧ x2 = b) ∨ ((k = 2 ∨ k = 3) ∧ x1 = c ∧ x2 = d)) (hs2 : ((k = 0 ∨ k = 2) ∧ y1 = a' ∧ y2 = b') ∨ ((k = 1 ∨ k = 3) ∧ y1 = c' ∧ y2 = d'))
    (ha : ∀ h, Glb h → callV cS false (fnV 24) [.d (.agg [.s x1, .s x2]), .d (.agg [.s y1, .s y2])] h = some (.val (.d (.tup [(.agg [.s s, .s t]), .i .i64 0])), h))
    (ho : ∀ h, Glb h → callV cS false (fnV 17) [.d (.agg [.s x1, .s x2]), .d (.agg [.s y1, .s y2])] h = some (.val (.d (.tup [(.agg [.s x, .s y]), .i .i64 0])), h))
    (hc : ∀ h, Glb h → callV cS false (fnV 23) [.d (.agg [.s r1, .s r2, .s r3, .s r4]), .d (.agg [.s x, .s y])] h = some (.val (.d (.b true)), h)) (lo hi : Bool) (v5 v9 : V) :
    evI cS l8_0 none [(5, v5), (6, .p i6 0), (7, .p i7 0), (8, .d (.ls XS)), (9, v9), (10, .d (.i .i64 3)), (11, .d (.b lo)), (12, .d (.b hi)), (13, .d (.i .i64 k))] H = some (.nor, [(5, v5), (6, .p i6 0), (7, .p i7 0), (8, .d (.ls XS)), (9, v9), (10, .d (.i .i64 3)), (11, .d (.b (lo || (x == r1 && y == r2)))), (12, .d (.b (hi || (x == r3 && y == r4)))), (13, .d (.i .i64 (k + 1)))], [.box 26 [.d (.s x), .d (.s y)], .box 26 [.d (.s y1), .d (.s y2)], .box 26 [.d (.s x1), .d (.s x2)]] ++ H) := by
  obtain ⟨h14, e14⟩ : ∃ h14 : Hp, h14 = .box 26 [.d (.s x1), .d (.s x2)] :: H := ⟨_, rfl⟩
  obtain ⟨h15, e15⟩ : ∃ h15 : Hp, h15 = .box 26 [.d (.s y1), .d (.s y2)] :: h14 := ⟨_, rfl⟩
  have l14 : Glb h14 := by rw [e14]; exact hG.cons _
  have l15 : Glb h15 := by rw [e15]; exact l14.cons _
  have k14 := hget_up e15 (hget_top e14)
  have qa := tight_a (i7 := i7) (i := 3) g6 hs1 lo hi v5 (.d (.ls XS)) v9 (.d (.b true))
  rw [← e14] at qa
  have qb := tight_b (i6 := i6) (i := 3) (hget_up e14 g7) hs2 lo hi v5 (.d (.ls XS)) v9 (.p H.length 0)
  rw [← e15] at qb
  have qc := tight_c (i6 := i6) (i7 := i7) (i := 3) (k := k) k14 (hget_top e15) (ha h15 l15) lo hi v5 (.d (.ls XS)) v9
  have qd := tight_d3 (i6 := i6) (i7 := i7) (k := k) (s := s) (t := t) k14 (hget_top e15) (ho _ (l15.cons _)) lo hi v5 (.d (.ls XS)) v9
  have qe := tight_e (H := h15) (i6 := i6) (i7 := i7) (k := k) (x := x) (y := y) (by omega) hl hx hz lo hi v5 v9
  have qf := tight_f (H := h15) (i6 := i6) (i7 := i7) (k := k) (x := x) (y := y) (by omega) hl hx hz (lo || (x == r1 && y == r2)) hi v5 v9
  have qg := tight_g (H := h15) (i6 := i6) (i7 := i7) (k := k) (by omega) hl hx hz (hc _ (l15.cons _)) (lo || (x == r1 && y == r2)) (hi || (x == r3 && y == r4)) v5 v9
  have qi := tight_i (H := .box 26 [.d (.s x), .d (.s y)] :: h15) (i6 := i6) (i7 := i7) (i := 3) (k := k) h0 h4 (lo || (x == r1 && y == r2)) (hi || (x == r3 && y == r4)) v5 (.d (.ls XS)) v9 (.d (.b false))
  rw [tight_LA, evI_seq, tight_t h4]
  simp only [thenR]
  rw [evI_seq, evI_block, evI_seq, qa]
  simp only [thenR]
  rw [evI_seq, qb]
  simp only [thenR]
  rw [evI_seq, qc]
  simp only [thenR]
  rw [evI_seq, qd]
  simp only [thenR]
  rw [evI_seq, qe]
  simp only [thenR]
  rw [evI_seq, qf]
  simp only [thenR]
  rw [qg]
  simp only [blockR, thenR]
  rw [qi, e15, e14]
  rfl
theorem tight_in {H : Hp} {i6 i7 : Nat} {i : Int} {v5 v8 v9 : V} {x0 y0 x1 y1 x2 y2 x3 y3 : Bool} (q0 : ∀ (L : Hp) (lo hi : Bool), ∃ L', evI cS l8_0 none [(5, v5), (6, .p i6 0), (7, .p i7 0), (8, v8), (9, v9), (10, .d (.i .i64 i)), (11, .d (.b lo)), (12, .d (.b hi)), (13, .d (.i .i64 0))] (L ++ H) = some (.nor, [(5, v5), (6, .p i6 0), (7, .p i7 0), (8, v8), (9, v9), (10, .d (.i .i64 i)), (11, .d (.b (lo || x0))), (12, .d (.b (hi || y0))), (13, .d (.i .i64 1))], L' ++ H))
    (q1 : ∀ (L : Hp) (lo hi : Bool), ∃ L', evI cS l8_0 none [(5, v5), (6, .p i6 0), (7, .p i7 0), (8, v8), (9, v9), (10, .d (.i .i64 i)), (11, .d (.b lo)), (12, .d (.b hi)), (13, .d (.i .i64 1))] (L ++ H) = some (.nor, [(5, v5), (6, .p i6 0), (7, .p i7 0), (8, v8), (9, v9), (10, .d (.i .i64 i)), (11, .d (.b (lo || x1))), (12, .d (.b (hi || y1))), (13, .d (.i .i64 2))], L' ++ H))
    (q2 : ∀ (L : Hp) (lo hi : Bool), ∃ L', evI cS l8_0 none [(5, v5), (6, .p i6 0), (7, .p i7 0), (8, v8), (9, v9), (10, .d (.i .i64 i)), (11, .d (.b lo)), (12, .d (.b hi)), (13, .d (.i .i64 2))] (L ++ H) = some (.nor, [(5, v5), (6, .p i6 0), (7, .p i7 0), (8, v8), (9, v9), (10, .d (.i .i64 i)), (11, .d (.b (lo || x2))), (12, .d (.b (hi || y2))), (13, .d (.i .i64 3))], L' ++ H))
    (q3 : ∀ (L : Hp) (lo hi : Bool), ∃ L', evI cS l8_0 none [(5, v5), (6, .p i6 0), (7, .p i7 0), (8, v8), (9, v9), (10, .d (.i .i64 i)), (11, .d (.b lo)), (12, .d (.b hi)), (13, .d (.i .i64 3))] (L ++ H) = some (.nor, [(5, v5), (6, .p i6 0), (7, .p i7 0), (8, v8), (9, v9), (10, .d (.i .i64 i)), (11, .d (.b (lo || x3))), (12, .d (.b (hi || y3))), (13, .d (.i .i64 4))], L' ++ H))
    (hlo : ((((false || x0) || x1) || x2) || x3) = true) (hhi : ((((false || y0) || y1) || y2) || y3) = true) :
    ∃ L, evI cS (.loop l8_0) none [(5, v5), (6, .p i6 0), (7, .p i7 0), (8, v8), (9, v9), (10, .d (.i .i64 i)), (11, .d (.b false)), (12, .d (.b false)), (13, .d (.i .i64 0))] H = some (.ex 2, [(5, v5), (6, .p i6 0), (7, .p i7 0), (8, v8), (9, v9), (10, .d (.i .i64 i)), (11, .d (.b true)), (12, .d (.b true)), (13, .d (.i .i64 4)), (47, .d (.b false))], L ++ H) := by
  obtain ⟨L0, u0⟩ := q0 [] false false
  obtain ⟨L1, u1⟩ := q1 L0 _ _
  obtain ⟨L2, u2⟩ := q2 L1 _ _
  obtain ⟨L3, u3⟩ := q3 L2 _ _
  rw [hlo, hhi] at u3
  rw [List.nil_append] at u0
  refine ⟨L3, ?_⟩
  rw [evI_loop, u0]
  simp only [thenR]
  rw [evI_loop, u1]
  simp only [thenR]
  rw [evI_loop, u2]
  simp only [thenR]
  rw [evI_loop, u3]
  simp only [thenR]
  rw [evI_loop, tight_x]
  rfl
theorem tight_LB : l8_1 = .seq (nthC 0 l8_1) (.seq (.block 1 (.seq (nthC 0 (unB (nthC 1 l8_1))) (.seq (nthC 1 (unB (nthC 1 l8_1))) (.seq (nthC 2 (unB (nthC 1 l8_1))) (.seq (.seq (nthC 0 (nthC 3 (unB (nthC 1 l8_1)))) (.block 2 (.loop l8_0))) (tlC 4 (unB (nthC 1 l8_1)))))))) (nthC 2 l8_1)) := rfl
theorem tight_p {H : Hp} {i6 i7 : Nat} {i : Int} (hi : i < 4) (v5 v8 v9 : V) : evI cS (nthC 0 l8_1) none [(5, v5), (6, .p i6 0), (7, .p i7 0), (8, v8), (9, v9), (10, .d (.i .i64 i))] H = some (.nor, [(5, v5), (6, .p i6 0), (7, .p i7 0), (8, v8), (9, v9), (10, .d (.i .i64 i)), (30, .d (.b true))], H) := by
  simp [nthC, tlC, unB, l8_1, put, eset, eget, D.cells, V.cells, allD, hget, hset, fz, List.zipIdx_cons, List.zipIdx_nil, setParts, chunk1, allCellsD, eqKs, eqCell, hi]
theorem tight_px {H : Hp} {i6 i7 : Nat} (v5 v8 v9 : V) : evI cS l8_1 none [(5, v5), (6, .p i6 0), (7, .p i7 0), (8, v8), (9, v9), (10, .d (.i .i64 4))] H = some (.ex 0, [(5, v5), (6, .p i6 0), (7, .p i7 0), (8, v8), (9, v9), (10, .d (.i .i64 4)), (30, .d (.b false))], H) := by
  simp [nthC, tlC, unB, l8_1, put, eset, eget, D.cells, V.cells, allD, hget, hset, fz, List.zipIdx_cons, List.zipIdx_nil, setParts, chunk1, allCellsD, eqKs, eqCell]
theorem tight_q3 {H : Hp} {i6 i7 : Nat} {i : Int} (v5 v8 v9 v37 : V) : evI cS (nthC 1 (unB (nthC 1 l8_1))) none [(5, v5), (6, .p i6 0), (7, .p i7 0), (8, v8), (9, v9), (10, .d (.i .i64 i)), (37, v37)] H = some (.nor, [(5, v5), (6, .p i6 0), (7, .p i7 0), (8, v8), (9, v9), (10, .d (.i .i64 i)), (11, .d (.b false))], H) := by
  simp [nthC, tlC, unB, l8_1, put, eset, eget, D.cells, V.cells, allD, hget, hset, fz, List.zipIdx_cons, List.zipIdx_nil, setParts, chunk1, allCellsD, eqKs, eqCell]
theorem tight_q4 {H : Hp} {i6 i7 : Nat} {i : Int} (v5 v8 v9 v11 : V) : evI cS (nthC 2 (unB (nthC 1 l8_1))) none [(5, v5), (6, .p i6 0), (7, .p i7 0), (8, v8), (9, v9), (10, .d (.i .i64 i)), (11, v11)] H = some (.nor, [(5, v5), (6, .p i6 0), (7, .p i7 0), (8, v8), (9, v9), (10, .d (.i .i64 i)), (11, v11), (12, .d (.b false))], H) := by
  simp [nthC, tlC, unB, l8_1, put, eset, eget, D.cells, V.cells, allD, hget, hset, fz, List.zipIdx_cons, List.zipIdx_nil, setParts, chunk1, allCellsD, eqKs, eqCell]
theorem tight_q5 {H : Hp} {i6 i7 : Nat} {i : Int} (v5 v8 v9 v11 v12 : V) : evI cS (nthC 0 (nthC 3 (unB (nthC 1 l8_1)))) none [(5, v5), (6, .p i6 0), (7, .p i7 0), (8, v8), (9, v9), (10, .d (.i .i64 i)), (11, v11), (12, v12)] H = some (.nor, [(5, v5), (6, .p i6 0), (7, .p i7 0), (8, v8), (9, v9), (10, .d (.i .i64 i)), (11, v11), (12, v12), (13, .d (.i .i64 0))], H) := by
  simp [nthC, tlC, unB, l8_1, put, eset, eget, D.cells, V.cells, allD, hget, hset, fz, List.zipIdx_cons, List.zipIdx_nil, setParts, chunk1, allCellsD, eqKs, eqCell]
theorem tight_q6 {H : Hp} {i6 i7 : Nat} {i : Int} (v5 v8 v9 v13 v47 : V) : evI cS (tlC 4 (unB (nthC 1 l8_1))) none [(5, v5), (6, .p i6 0), (7, .p i7 0), (8, v8), (9, v9), (10, .d (.i .i64 i)), (11, .d (.b true)), (12, .d (.b true)), (13, v13), (47, v47)] H = some (.nor, [(5, v5), (6, .p i6 0), (7, .p i7 0), (8, v8), (9, v9), (10, .d (.i .i64 i)), (131, .d (.b false))], H) := by
  simp [nthC, tlC, unB, l8_1, put, eset, eget, D.cells, V.cells, allD, hget, hset, fz, List.zipIdx_cons, List.zipIdx_nil, setParts, chunk1, allCellsD, eqKs, eqCell]
theorem tight_q7 {H : Hp} {i6 i7 : Nat} {i : Int} (h0 : 0 ≤ i) (hi : i < 4) (z : Nat) (hz : z = 131 ∨ z = 45) (v5 v8 v9 v131 : V) : evI cS (nthC 2 l8_1) none [(5, v5), (6, .p i6 0), (7, .p i7 0), (8, v8), (9, v9), (10, .d (.i .i64 i)), (z, v131)] H = some (.nor, [(5, v5), (6, .p i6 0), (7, .p i7 0), (8, v8), (9, v9), (10, .d (.i .i64 (i + 1)))], H) := by
  have w : IntKind.i64.wrap (i + 1) = i + 1 := wr64 (by omega) (by omega)
  rcases hz with rfl | rfl <;> simp [nthC, tlC, unB, l8_1, put, eset, eget, D.cells, V.cells, allD, hget, hset, fz, List.zipIdx_cons, List.zipIdx_nil, setParts, chunk1, allCellsD, eqKs, eqCell, w]
theorem tight_q2 {H : Hp} {i6 i7 : Nat} {ES : List D} {i e : Int} (h0 : 0 ≤ i) (hl : i < (ES.length : Int)) (hx : ES[i.toNat]? = some (.i .i64 e)) (hz : allCellsD 1 ES = true) (he : e = 0) (v5 v8 : V) : evI cS (nthC 0 (unB (nthC 1 l8_1))) none [(5, v5), (6, .p i6 0), (7, .p i7 0), (8, v8), (9, .d (.ls ES)), (10, .d (.i .i64 i)), (30, .d (.b true))] H = some (.nor, [(5, v5), (6, .p i6 0), (7, .p i7 0), (8, v8), (9, .d (.ls ES)), (10, .d (.i .i64 i)), (37, .d (.b false))], H) := by
  subst he
  obtain ⟨_, hx'⟩ := List.getElem?_eq_some_iff.1 hx
  simp [nthC, tlC, unB, l8_1, put, eset, eget, D.cells, V.cells, allD, hget, hset, fz, List.zipIdx_cons, List.zipIdx_nil, setParts, chunk1, allCellsD, eqKs, eqCell, h0, hl, hx', hz]
theorem tight_q2bad {H : Hp} {i6 i7 : Nat} {ES : List D} {e : Int} (hl : 3 < (ES.length : Int)) (hx : ES[3]? = some (.i .i64 e)) (hz : allCellsD 1 ES = true) {a b c d x y : List UInt8} (he : ¬ e = 0) (g7 : hget H i7 = some (.box 29 [.d (.s a), .d (.s b), .d (.s c), .d (.s d)])) (hr : callV cS false (fnV 16) [.d (.i .i64 0), .d (.i .i64 1)] H = some (.val (.d (.agg [.s x, .s y])), H))
    (hc : callV cS false (fnV 23) [.d (.agg [.s a, .s b, .s c, .s d]), .d (.agg [.s x, .s y])] H = some (.val (.d (.b true)), H)) (v5 v8 : V) : evI cS (nthC 0 (unB (nthC 1 l8_1))) none [(5, v5), (6, .p i6 0), (7, .p i7 0), (8, v8), (9, .d (.ls ES)), (10, .d (.i .i64 3)), (30, .d (.b true))] H = some (.ex 1, [(5, v5), (6, .p i6 0), (7, .p i7 0), (8, v8), (9, .d (.ls ES)), (10, .d (.i .i64 3)), (45, .d (.b false))], H) := by
  have heb : (e == 0) = false := by rw [beq_eq_false_iff_ne]; exact he
  have hl2 : 3 < ES.length := by omega
  obtain ⟨_, hx'⟩ := List.getElem?_eq_some_iff.1 hx
  simp [nthC, tlC, unB, l8_1, put, eset, eget, D.cells, V.cells, allD, hget, hset, fz, List.zipIdx_cons, List.zipIdx_nil, setParts, chunk1, allCellsD, eqKs, eqCell, hl, hl2, hx', hz, he, bne, heb, g7, hr, hc]
theorem tight_o {H : Hp} {i6 i7 : Nat} {ES : List D} {i e : Int} (h0 : 0 ≤ i) (hl : i < (ES.length : Int)) (hx : ES[i.toNat]? = some (.i .i64 e)) (hz : allCellsD 1 ES = true) (h4 : i < 4) (he : e = 0) (v5 v8 : V)
    (hin : ∃ L, evI cS (.loop l8_0) none [(5, v5), (6, .p i6 0), (7, .p i7 0), (8, v8), (9, .d (.ls ES)), (10, .d (.i .i64 i)), (11, .d (.b false)), (12, .d (.b false)), (13, .d (.i .i64 0))] H = some (.ex 2, [(5, v5), (6, .p i6 0), (7, .p i7 0), (8, v8), (9, .d (.ls ES)), (10, .d (.i .i64 i)), (11, .d (.b true)), (12, .d (.b true)), (13, .d (.i .i64 4)), (47, .d (.b false))], L ++ H)) :
    ∃ L, evI cS l8_1 none [(5, v5), (6, .p i6 0), (7, .p i7 0), (8, v8), (9, .d (.ls ES)), (10, .d (.i .i64 i))] H = some (.nor, [(5, v5), (6, .p i6 0), (7, .p i7 0), (8, v8), (9, .d (.ls ES)), (10, .d (.i .i64 (i + 1)))], L ++ H) := by
  obtain ⟨L, hin⟩ := hin
  refine ⟨L, ?_⟩
  rw [tight_LB, evI_seq, tight_p h4]
  simp only [thenR]
  rw [evI_seq, evI_block, evI_seq, tight_q2 h0 hl hx hz he]
  simp only [thenR]
  rw [evI_seq, tight_q3]
  simp only [thenR]
  rw [evI_seq, tight_q4]
  simp only [thenR]
  rw [evI_seq, evI_seq, tight_q5]
  simp only [thenR]
  rw [evI_block, hin]
  simp only [blockR, thenR, if_true]
  rw [tight_q6]
  simp only [blockR, thenR]
  exact tight_q7 h0 h4 131 (.inl rfl) _ _ _ _
theorem tight_obad {H : Hp} {i6 i7 : Nat} {ES : List D} {e : Int} (hl : 3 < (ES.length : Int)) (hx : ES[3]? = some (.i .i64 e)) (hz : allCellsD 1 ES = true) {a b c d x y : List UInt8} (he : ¬ e = 0) (g7 : hget H i7 = some (.box 29 [.d (.s a), .d (.s b), .d (.s c), .d (.s d)])) (hr : callV cS false (fnV 16) [.d (.i .i64 0), .d (.i .i64 1)] H = some (.val (.d (.agg [.s x, .s y])), H))
    (hc : callV cS false (fnV 23) [.d (.agg [.s a, .s b, .s c, .s d]), .d (.agg [.s x, .s y])] H = some (.val (.d (.b true)), H)) (v5 v8 : V) :
    evI cS l8_1 none [(5, v5), (6, .p i6 0), (7, .p i7 0), (8, v8), (9, .d (.ls ES)), (10, .d (.i .i64 3))] H = some (.nor, [(5, v5), (6, .p i6 0), (7, .p i7 0), (8, v8), (9, .d (.ls ES)), (10, .d (.i .i64 4))], H) := by
  rw [tight_LB, evI_seq, tight_p (by omega)]
  simp only [thenR]
  rw [evI_seq, evI_block, evI_seq, tight_q2bad hl hx hz he g7 hr hc]
  simp only [blockR, thenR, if_true]
  exact tight_q7 (by omega) (by omega) 45 (.inr rfl) _ _ _ _
end Go.Proofs.YtmiioebapckcoaaGreatDoor
end
