/- Part 18 of a proof: the small semantics, its soundness, the functions of the program in it, and the law. -/
import Derived.Test.YtmiioebapckcoaaGreatDoorMq
set_option linter.unusedVariables false
set_option linter.unusedSimpArgs false
section
/- EnclosureNarrower: the law. Printed by wip/tools/mkNarrow.py. -/
namespace Go.Proofs.YtmiioebapckcoaaGreatDoor
open Go Num
set_option maxRecDepth 4000

theorem s3_wide {p q : Rat} (hp : p.num.natAbs ≤ 999 ∧ p.den ≤ 60) (hq : q.num.natAbs ≤ 199 ∧ q.den ≤ 60) : S3 (p - q) ∧ S3 (p + q) := by
  obtain ⟨h1, h2⟩ := hp
  obtain ⟨h3, h4⟩ := hq
  have d1 := den_pos p
  have d2 := den_pos q
  have k1 := abs_mul h1 (show ((q.den : Int)).natAbs ≤ 60 by simp; omega)
  have k2 := abs_mul h3 (show ((p.den : Int)).natAbs ≤ 60 by simp; omega)
  have k3 := abs_mul (show ((p.den : Int)).natAbs ≤ 60 by simp; omega) (show ((q.den : Int)).natAbs ≤ 60 by simp; omega)
  have dp := Int.mul_pos d1 d2
  obtain ⟨u1, u2⟩ := divInt_abs (p.num * q.den - q.num * p.den) dp
  obtain ⟨u3, u4⟩ := divInt_abs (p.num * q.den + q.num * p.den) dp
  rw [sub_parts, add_parts]
  exact ⟨⟨by omega, by omega⟩, ⟨by omega, by omega⟩⟩
theorem sixtieth (k : Int) (h0 : 0 ≤ k) (h2 : k < 200) : ((Rat.divInt k 60).num.natAbs ≤ 199 ∧ (Rat.divInt k 60).den ≤ 60) ∧ 0 ≤ Rat.divInt k 60 := by
  obtain ⟨u1, u2⟩ := divInt_abs k (show (0 : Int) < 60 by omega)
  exact ⟨⟨by omega, by omega⟩, Rat.divInt_nonneg h0 (by omega)⟩
theorem cells4 : ∀ (l : List IV), allCellsD 4 (l.map fun r => D.agg [.s r.a, .s r.b, .s r.c, .s r.d]) = true
  | [] => rfl
  | r :: l => by rw [List.map_cons]; simp [allCellsD, D.cells, cells4 l]
set_option maxHeartbeats 2000000 in
theorem Narrower_ok (x0 x1 x2 x3 y0 y1 y2 y3 w0 w1 w2 w3 n : Int) (hx0 : I64 x0) (hx1 : I64 x1) (hx2 : I64 x2) (hx3 : I64 x3) (hy0 : I64 y0) (hy1 : I64 y1) (hy2 : I64 y2) (hy3 : I64 y3) (hw0 : I64 w0) (hw1 : I64 w1) (hw2 : I64 w2) (hw3 : I64 w3) (hn : I64 n) {H : Hp} {o : EO} (hG : Glb H) (hE : ErrAt H o) :
    callV cS false (fnV 9) [.d (.agg [.i .i64 x0, .i .i64 x1, .i .i64 x2, .i .i64 x3]), .d (.agg [.i .i64 y0, .i .i64 y1, .i .i64 y2, .i .i64 y3]), .d (.agg [.i .i64 w0, .i .i64 w1, .i .i64 w2, .i .i64 w3]), .d (.i .i64 n)] H = some (.val (.d (.b true)), H) := by
  rw [callV_fn (sf := c9) rfl rfl rfl rfl]
  have hb : b9 = .seq (nthC 0 b9) (.seq (nthC 1 b9) (.seq (nthC 2 b9) (.seq (nthC 3 b9) (.seq (nthC 4 b9) (.seq (nthC 5 b9) (.seq (nthC 6 b9) (.seq (nthC 7 b9) (.seq (nthC 8 b9) (.seq (nthC 9 b9) (.seq (nthC 10 b9) (.seq (nthC 11 b9) (.seq (nthC 12 b9) (.seq (.seq (nthC 0 (nthC 13 b9)) (.block 0 (.loop l9_0))) (tlC 14 b9)))))))))))))) := rfl
  have ma := Made_ok x0 x1 x2 x3 hx0 hx1 hx2 hx3
  have mb := Made_ok y0 y1 y2 y3 hy0 hy1 hy2 hy3
  have la := made_le x0 x1 x2 x3
  have lb := made_le y0 y1 y2 y3
  obtain ⟨sa1, sa2⟩ := made_sm x0 x1 x2 x3
  obtain ⟨sb1, sb2⟩ := made_sm y0 y1 y2 y3
  generalize madeLo x0 x1 x2 x3 = a1 at *
  generalize madeHi x0 x1 x2 x3 = a2 at *
  generalize madeLo y0 y1 y2 y3 = b1 at *
  generalize madeHi y0 y1 y2 y3 = b2 at *
  have ha1 := s3_of sa1
  have ha2 := s3_of sa2
  have hb1 := s3_of sb1
  have hb2 := s3_of sb2
  simp only [dI4] at ma mb
  -- the number of places
  obtain ⟨n0, n12⟩ := pickI_range n (show (0 : Int) < 12 by omega)
  obtain ⟨u0, v0⟩ := pickI_range w0 (show (0 : Int) < 200 by omega)
  obtain ⟨t0, z0⟩ := sixtieth (pickI w0 200) u0 v0
  have pk0 := pick5_ok w0 200 hw0 (by unfold I64; omega) (by omega)
  have rt0 := ratio_q (pickI w0 200) 60 _ (by unfold I64; omega) (by unfold I64; omega) (by omega) rfl
  have st0 : S3 (Rat.divInt (pickI w0 200) 60) := ⟨by omega, by omega⟩
  generalize Rat.divInt (pickI w0 200) 60 = q0 at *
  generalize pickI w0 200 = k0 at *
  obtain ⟨u1, v1⟩ := pickI_range w1 (show (0 : Int) < 200 by omega)
  obtain ⟨t1, z1⟩ := sixtieth (pickI w1 200) u1 v1
  have pk1 := pick5_ok w1 200 hw1 (by unfold I64; omega) (by omega)
  have rt1 := ratio_q (pickI w1 200) 60 _ (by unfold I64; omega) (by unfold I64; omega) (by omega) rfl
  have st1 : S3 (Rat.divInt (pickI w1 200) 60) := ⟨by omega, by omega⟩
  generalize Rat.divInt (pickI w1 200) 60 = q1 at *
  generalize pickI w1 200 = k1 at *
  obtain ⟨u2, v2⟩ := pickI_range w2 (show (0 : Int) < 200 by omega)
  obtain ⟨t2, z2⟩ := sixtieth (pickI w2 200) u2 v2
  have pk2 := pick5_ok w2 200 hw2 (by unfold I64; omega) (by omega)
  have rt2 := ratio_q (pickI w2 200) 60 _ (by unfold I64; omega) (by unfold I64; omega) (by omega) rfl
  have st2 : S3 (Rat.divInt (pickI w2 200) 60) := ⟨by omega, by omega⟩
  generalize Rat.divInt (pickI w2 200) 60 = q2 at *
  generalize pickI w2 200 = k2 at *
  obtain ⟨u3, v3⟩ := pickI_range w3 (show (0 : Int) < 200 by omega)
  obtain ⟨t3, z3⟩ := sixtieth (pickI w3 200) u3 v3
  have pk3 := pick5_ok w3 200 hw3 (by unfold I64; omega) (by omega)
  have rt3 := ratio_q (pickI w3 200) 60 _ (by unfold I64; omega) (by unfold I64; omega) (by omega) rfl
  have st3 : S3 (Rat.divInt (pickI w3 200) 60) := ⟨by omega, by omega⟩
  generalize Rat.divInt (pickI w3 200) 60 = q3 at *
  generalize pickI w3 200 = k3 at *
  have hc1 := (s3_wide sa1 t0).1
  have hc2 := (s3_wide sa2 t1).2
  have hd1 := (s3_wide sb1 t2).1
  have hd2 := (s3_wide sb2 t3).2
  have s0 := fun (h : Hp) (g : Glb h) => dif_call ha1 st0 g
  have s1 := fun (h : Hp) (g : Glb h) => sum_call ha2 st1 g
  have s2 := fun (h : Hp) (g : Glb h) => dif_call hb1 st2 g
  have s3 := fun (h : Hp) (g : Glb h) => sum_call hb2 st3 g
  obtain ⟨c1, ec1⟩ : ∃ c1, c1 = a1 - q0 := ⟨_, rfl⟩
  obtain ⟨c2, ec2⟩ : ∃ c2, c2 = a2 + q1 := ⟨_, rfl⟩
  obtain ⟨d1, ed1⟩ : ∃ d1, d1 = b1 - q2 := ⟨_, rfl⟩
  obtain ⟨d2, ed2⟩ : ∃ d2, d2 = b2 + q3 := ⟨_, rfl⟩
  rw [← ec1] at hc1 s0
  rw [← ec2] at hc2 s1
  rw [← ed1] at hd1 s2
  rw [← ed2] at hd2 s3
  have wa1 : c1 ≤ a1 := by grind
  have wa2 : a2 ≤ c2 := by grind
  have wb1 : d1 ≤ b1 := by grind
  have wb2 : b2 ≤ d2 := by grind
  have lc : c1 ≤ c2 := by grind
  have ld : d1 ≤ d2 := by grind
  obtain ⟨nn, hnn⟩ : ∃ nn, nn = pickI n 12 := ⟨_, rfl⟩
  rw [← hnn] at n0 n12
  obtain ⟨r0, e0, m0, g0, fa0, fc0, fs0, fw0⟩ := both_add ha1 ha2 hb1 hb2 hc1 hc2 hd1 hd2 la lb wa1 wa2 wb1 wb2 o
  obtain ⟨r1, e1, m1, g1, fa1, fc1, fs1, fw1⟩ := both_sub ha1 ha2 hb1 hb2 hc1 hc2 hd1 hd2 la lb wa1 wa2 wb1 wb2 o
  obtain ⟨r2, e2, m2, g2, fa2, fc2, fs2, fw2⟩ := both_mul ha1 ha2 hb1 hb2 hc1 hc2 hd1 hd2 la lb wa1 wa2 wb1 wb2 o
  obtain ⟨r3, e3, m3, g3, fa3, fc3, fs3, fw3⟩ := both_div ha1 ha2 hb1 hb2 hc1 hc2 hd1 hd2 la lb wa1 wa2 wb1 wb2 o
  obtain ⟨r4, e4, m4, g4, fa4, fc4, fs4, fw4⟩ := both_hull ha1 ha2 hb1 hb2 hc1 hc2 hd1 hd2 la lb wa1 wa2 wb1 wb2 o
  obtain ⟨r5, e5, m5, g5, fa5, fc5, fs5, fw5⟩ := both_meet ha1 ha2 hb1 hb2 hc1 hc2 hd1 hd2 la lb wa1 wa2 wb1 wb2 o
  obtain ⟨r6, e6, m6, g6, fa6, fc6, fs6, fw6⟩ := both_sqrt ha1 ha2 hc1 hc2 la wa1 wa2 o n0 (show nn ≤ 11 by omega)
  obtain ⟨r7, e7, m7, g7, fa7, fc7, fs7, fw7⟩ := both_round ha1 ha2 hc1 hc2 la wa1 wa2 o n0 (show nn ≤ 11 by omega)
  have callA := fun (h : Hp) (g : Glb h) (e : ErrAt h o) => calls_ok (A := qV a1 a2) (B := qV b1 b2) (n := nn) g e fa0 fa1 fa2 fa3 fa4 fa5 fa6 fa7
  have callC := fun (h : Hp) (g : Glb h) (e : ErrAt h o) => calls_ok (A := qV c1 c2) (B := qV d1 d2) (n := nn) g e fc0 fc1 fc2 fc3 fc4 fc5 fc6 fc7
  obtain ⟨XA, eXA⟩ : ∃ XA : List D, XA = [r0, r1, r2, r3, r4, r5, r6, r7].map fun r => D.agg [.s r.a, .s r.b, .s r.c, .s r.d] := ⟨_, rfl⟩
  obtain ⟨XC, eXC⟩ : ∃ XC : List D, XC = [m0, m1, m2, m3, m4, m5, m6, m7].map fun r => D.agg [.s r.a, .s r.b, .s r.c, .s r.d] := ⟨_, rfl⟩
  obtain ⟨EA, eEA⟩ : ∃ EA : List D, EA = [.i .i64 e0, .i .i64 e1, .i .i64 e2, .i .i64 e3, .i .i64 e4, .i .i64 e5, .i .i64 e6, .i .i64 e7] := ⟨_, rfl⟩
  obtain ⟨EC, eEC⟩ : ∃ EC : List D, EC = [.i .i64 g0, .i .i64 g1, .i .i64 g2, .i .i64 g3, .i .i64 g4, .i .i64 g5, .i .i64 g6, .i .i64 g7] := ⟨_, rfl⟩
  have z1 : allCellsD 4 XA = true := by rw [eXA]; exact cells4 _
  have z3 : allCellsD 4 XC = true := by rw [eXC]; exact cells4 _
  have z2 : allCellsD 1 EA = true := by rw [eEA]; rfl
  have z4 : allCellsD 1 EC = true := by rw [eEC]; rfl
  have l1 : XA.length = 8 := by rw [eXA]; rfl
  have l2 : EA.length = 8 := by rw [eEA]; rfl
  have l3 : XC.length = 8 := by rw [eXC]; rfl
  have l4 : EC.length = 8 := by rw [eEC]; rfl
  obtain ⟨h0, eh0⟩ : ∃ h0 : Hp, h0 = .box 22 [.d (.i .i64 w0), .d (.i .i64 w1), .d (.i .i64 w2), .d (.i .i64 w3)] :: .box 22 [.d (.i .i64 y0), .d (.i .i64 y1), .d (.i .i64 y2), .d (.i .i64 y3)] :: .box 22 [.d (.i .i64 x0), .d (.i .i64 x1), .d (.i .i64 x2), .d (.i .i64 x3)] :: H := ⟨_, rfl⟩
  obtain ⟨h1, eh1⟩ : ∃ h1 : Hp, h1 = .box 29 [.d (.s (txt a1.num)), .d (.s (txt a1.den)), .d (.s (txt a2.num)), .d (.s (txt a2.den))] :: h0 := ⟨_, rfl⟩
  obtain ⟨h2, eh2⟩ : ∃ h2 : Hp, h2 = .box 29 [.d (.s (txt b1.num)), .d (.s (txt b1.den)), .d (.s (txt b2.num)), .d (.s (txt b2.den))] :: h1 := ⟨_, rfl⟩
  have G0 : Glb h0 := by rw [eh0]; exact ((hG.cons _).cons _).cons _
  have E0 : ErrAt h0 o := by rw [eh0]; exact ((hE.cons _).cons _).cons _
  have G1 : Glb h1 := by rw [eh1]; exact G0.cons _
  have G2 : Glb h2 := by rw [eh2]; exact G1.cons _
  have E2 : ErrAt h2 o := by rw [eh2, eh1]; exact (E0.cons _).cons _
  have i4 : hget h0 H.length = some (.box 22 [.d (.i .i64 x0), .d (.i .i64 x1), .d (.i .i64 x2), .d (.i .i64 x3)]) := by rw [eh0]; simp [put, eset, eget, D.cells, V.cells, allD, hget, hset, fz, List.zipIdx_cons, List.zipIdx_nil]
  have i5 : hget h0 (H.length + 1) = some (.box 22 [.d (.i .i64 y0), .d (.i .i64 y1), .d (.i .i64 y2), .d (.i .i64 y3)]) := by rw [eh0]; simp [put, eset, eget, D.cells, V.cells, allD, hget, hset, fz, List.zipIdx_cons, List.zipIdx_nil]
  have i6 : hget h0 (H.length + 1 + 1) = some (.box 22 [.d (.i .i64 w0), .d (.i .i64 w1), .d (.i .i64 w2), .d (.i .i64 w3)]) := by rw [eh0]; simp [put, eset, eget, D.cells, V.cells, allD, hget, hset, fz, List.zipIdx_cons, List.zipIdx_nil]
  have i5' := hget_up eh1 i5
  have i6' := hget_up eh2 (hget_up eh1 i6)
  have i10 := hget_up eh2 (hget_top eh1)
  have i11 := hget_top eh2
  have j0 := nar_0 H x0 x1 x2 x3 y0 y1 y2 y3 w0 w1 w2 w3 n
  rw [← eh0] at j0
  have j1 := nar_1 G0 E0 (.d (.i .i64 n)) (.p H.length 0) (.p (H.length + 1) 0) (.p (H.length + 1 + 1) 0)
  have j2 := nar_2 i4 (ma h0) (.d (.i .i64 n)) (.p (H.length + 1) 0) (.p (H.length + 1 + 1) 0) (.d (.b true))
  rw [← eh1] at j2
  have j3 := nar_3 i5' (mb h1) (.d (.i .i64 n)) (.p (H.length + 1 + 1) 0) (.d (.b true)) (.p h0.length 0)
  rw [← eh2] at j3
  have j4 := nar_4 (H := h2) n hn (.p (H.length + 1 + 1) 0) (.d (.b true)) (.p h0.length 0) (.p h1.length 0)
  rw [← hnn] at j4
  have j5 := nar_5 i10 (.d (.i .i64 nn)) (.p (H.length + 1 + 1) 0) (.d (.b true)) (.p h1.length 0)
  have i11a : hget (.box 29 [.d (.s (txt a1.num)), .d (.s (txt a1.den)), .d (.s (txt a2.num)), .d (.s (txt a2.den))] :: h2) h1.length = some (.box 29 [.d (.s (txt b1.num)), .d (.s (txt b1.den)), .d (.s (txt b2.num)), .d (.s (txt b2.den))]) := hget_up rfl i11
  have j6 := nar_6 i11a (.d (.i .i64 nn)) (.p (H.length + 1 + 1) 0) (.d (.b true)) (.p h0.length 0) (.p h2.length 0)
  simp only [List.length_cons] at j6
  have gg : ∀ x y, Glb (x :: y :: h2) := fun x y => (G2.cons y).cons x
  have j7 := nar_7 i6' i10 (pk0 _) (rt0 _) (s0 (.box 29 [.d (.s (txt b1.num)), .d (.s (txt b1.den)), .d (.s (txt b2.num)), .d (.s (txt b2.den))] :: .box 29 [.d (.s (txt a1.num)), .d (.s (txt a1.den)), .d (.s (txt a2.num)), .d (.s (txt a2.den))] :: h2) (gg _ _)) (.d (.i .i64 nn)) (.d (.b true)) (.p h1.length 0)
  have j8 := nar_8 i6' i10 (pk1 _) (rt1 _) (s1 (.box 29 [.d (.s (txt b1.num)), .d (.s (txt b1.den)), .d (.s (txt b2.num)), .d (.s (txt b2.den))] :: .box 29 [.d (.s (txt c1.num)), .d (.s (txt c1.den)), .d (.s (txt a2.num)), .d (.s (txt a2.den))] :: h2) (gg _ _)) (.d (.i .i64 nn)) (.d (.b true)) (.p h1.length 0)
  have j9 := nar_9 i6' i11 (pk2 _) (rt2 _) (s2 (.box 29 [.d (.s (txt b1.num)), .d (.s (txt b1.den)), .d (.s (txt b2.num)), .d (.s (txt b2.den))] :: .box 29 [.d (.s (txt c1.num)), .d (.s (txt c1.den)), .d (.s (txt c2.num)), .d (.s (txt c2.den))] :: h2) (gg _ _)) (.d (.i .i64 nn)) (.d (.b true)) (.p h0.length 0)
  have j10 := nar_10 i6' i11 (pk3 _) (rt3 _) (s3 (.box 29 [.d (.s (txt d1.num)), .d (.s (txt d1.den)), .d (.s (txt b2.num)), .d (.s (txt b2.den))] :: .box 29 [.d (.s (txt c1.num)), .d (.s (txt c1.den)), .d (.s (txt c2.num)), .d (.s (txt c2.den))] :: h2) (gg _ _)) (.d (.i .i64 nn)) (.d (.b true)) (.p h0.length 0)
  obtain ⟨h3, eh3⟩ : ∃ h3 : Hp, h3 = .box 29 [.d (.s (txt c1.num)), .d (.s (txt c1.den)), .d (.s (txt c2.num)), .d (.s (txt c2.den))] :: h2 := ⟨_, rfl⟩
  obtain ⟨h4, eh4⟩ : ∃ h4 : Hp, h4 = .box 29 [.d (.s (txt d1.num)), .d (.s (txt d1.den)), .d (.s (txt d2.num)), .d (.s (txt d2.den))] :: h3 := ⟨_, rfl⟩
  have G4 : Glb h4 := by rw [eh4, eh3]; exact gg _ _
  have E4 : ErrAt h4 o := by rw [eh4, eh3]; exact (E2.cons _).cons _
  have i10' := hget_up eh4 (hget_up eh3 i10)
  have i11' := hget_up eh4 (hget_up eh3 i11)
  have i12 := hget_up eh4 (hget_top eh3)
  have i13 := hget_top eh4
  have n3 : h3.length = h2.length + 1 := by rw [eh3]; rfl
  rw [n3] at i13
  have ca := callA h4 G4 E4
  have cc := callC h4 G4 E4
  have hXA : [D.agg [.s r0.a, .s r0.b, .s r0.c, .s r0.d], D.agg [.s r1.a, .s r1.b, .s r1.c, .s r1.d], D.agg [.s r2.a, .s r2.b, .s r2.c, .s r2.d], D.agg [.s r3.a, .s r3.b, .s r3.c, .s r3.d], D.agg [.s r4.a, .s r4.b, .s r4.c, .s r4.d], D.agg [.s r5.a, .s r5.b, .s r5.c, .s r5.d], D.agg [.s r6.a, .s r6.b, .s r6.c, .s r6.d], D.agg [.s r7.a, .s r7.b, .s r7.c, .s r7.d]] = XA := by rw [eXA]; rfl
  have hXC : [D.agg [.s m0.a, .s m0.b, .s m0.c, .s m0.d], D.agg [.s m1.a, .s m1.b, .s m1.c, .s m1.d], D.agg [.s m2.a, .s m2.b, .s m2.c, .s m2.d], D.agg [.s m3.a, .s m3.b, .s m3.c, .s m3.d], D.agg [.s m4.a, .s m4.b, .s m4.c, .s m4.d], D.agg [.s m5.a, .s m5.b, .s m5.c, .s m5.d], D.agg [.s m6.a, .s m6.b, .s m6.c, .s m6.d], D.agg [.s m7.a, .s m7.b, .s m7.c, .s m7.d]] = XC := by rw [eXC]; rfl
  rw [hXA, ← eEA] at ca
  rw [hXC, ← eEC] at cc
  have j11 := nar_11 i10' i11' ca (.d (.b true)) (.p h2.length 0) (.p (h2.length + 1) 0)
  have j12 := nar_12 i12 i13 cc (.d (.b true)) (.p h0.length 0) (.p h1.length 0) (.d (.ls XA)) (.d (.ls EA))
  have j14 := nar_14 i10' i11' i12 i13 (within_val ha1.fits ha2.fits hc1.fits hc2.fits wa1 la wa2 G4) (within_val hb1.fits hb2.fits hd1.fits hd2.fits wb1 lb wb2 G4) (.d (.ls XA)) (.d (.ls EA)) (.d (.ls XC)) (.d (.ls EC)) (.d (.i .i64 8)) (.d (.b false))
  have k0' := nar_r (H := h4) (XA := XA) (EA := EA) (XC := XC) (EC := EC) (i := 0) (by omega) (by omega) l1 l2 l3 l4 (by rw [eXA]; rfl) (by rw [eEA]; rfl) (by rw [eXC]; rfl) (by rw [eEC]; rfl) z1 z2 z3 z4 (fun h => .inl (fs0 h rfl)) (fun h h' => fw0 h h' h4 G4) (.d (.b true)) (.p h0.length 0) (.p h1.length 0) (.p h2.length 0) (.p (h2.length + 1) 0)
  have k1' := nar_r (H := h4) (XA := XA) (EA := EA) (XC := XC) (EC := EC) (i := 1) (by omega) (by omega) l1 l2 l3 l4 (by rw [eXA]; rfl) (by rw [eEA]; rfl) (by rw [eXC]; rfl) (by rw [eEC]; rfl) z1 z2 z3 z4 (fun h => .inl (fs1 h rfl)) (fun h h' => fw1 h h' h4 G4) (.d (.b true)) (.p h0.length 0) (.p h1.length 0) (.p h2.length 0) (.p (h2.length + 1) 0)
  have k2' := nar_r (H := h4) (XA := XA) (EA := EA) (XC := XC) (EC := EC) (i := 2) (by omega) (by omega) l1 l2 l3 l4 (by rw [eXA]; rfl) (by rw [eEA]; rfl) (by rw [eXC]; rfl) (by rw [eEC]; rfl) z1 z2 z3 z4 (fun h => .inl (fs2 h rfl)) (fun h h' => fw2 h h' h4 G4) (.d (.b true)) (.p h0.length 0) (.p h1.length 0) (.p h2.length 0) (.p (h2.length + 1) 0)
  have k3' := nar_r (H := h4) (XA := XA) (EA := EA) (XC := XC) (EC := EC) (i := 3) (by omega) (by omega) l1 l2 l3 l4 (by rw [eXA]; rfl) (by rw [eEA]; rfl) (by rw [eXC]; rfl) (by rw [eEC]; rfl) z1 z2 z3 z4 (fun h => .inl (fs3 h rfl)) (fun h h' => fw3 h h' h4 G4) (.d (.b true)) (.p h0.length 0) (.p h1.length 0) (.p h2.length 0) (.p (h2.length + 1) 0)
  have k4' := nar_r (H := h4) (XA := XA) (EA := EA) (XC := XC) (EC := EC) (i := 4) (by omega) (by omega) l1 l2 l3 l4 (by rw [eXA]; rfl) (by rw [eEA]; rfl) (by rw [eXC]; rfl) (by rw [eEC]; rfl) z1 z2 z3 z4 (fun h => .inl (fs4 h rfl)) (fun h h' => fw4 h h' h4 G4) (.d (.b true)) (.p h0.length 0) (.p h1.length 0) (.p h2.length 0) (.p (h2.length + 1) 0)
  have k5' := nar_r (H := h4) (XA := XA) (EA := EA) (XC := XC) (EC := EC) (i := 5) (by omega) (by omega) l1 l2 l3 l4 (by rw [eXA]; rfl) (by rw [eEA]; rfl) (by rw [eXC]; rfl) (by rw [eEC]; rfl) z1 z2 z3 z4 (fun _ => .inr rfl) (fun h h' => fw5 h h' h4 G4) (.d (.b true)) (.p h0.length 0) (.p h1.length 0) (.p h2.length 0) (.p (h2.length + 1) 0)
  have k6' := nar_r (H := h4) (XA := XA) (EA := EA) (XC := XC) (EC := EC) (i := 6) (by omega) (by omega) l1 l2 l3 l4 (by rw [eXA]; rfl) (by rw [eEA]; rfl) (by rw [eXC]; rfl) (by rw [eEC]; rfl) z1 z2 z3 z4 (fun h => .inl (fs6 h rfl)) (fun h h' => fw6 h h' h4 G4) (.d (.b true)) (.p h0.length 0) (.p h1.length 0) (.p h2.length 0) (.p (h2.length + 1) 0)
  have k7' := nar_r (H := h4) (XA := XA) (EA := EA) (XC := XC) (EC := EC) (i := 7) (by omega) (by omega) l1 l2 l3 l4 (by rw [eXA]; rfl) (by rw [eEA]; rfl) (by rw [eXC]; rfl) (by rw [eEC]; rfl) z1 z2 z3 z4 (fun h => .inl (fs7 h rfl)) (fun h h' => fw7 h h' h4 G4) (.d (.b true)) (.p h0.length 0) (.p h1.length 0) (.p h2.length 0) (.p (h2.length + 1) 0)
  simp only [show (0 : Int) + 1 = 1 from rfl, show (1 : Int) + 1 = 2 from rfl, show (2 : Int) + 1 = 3 from rfl, show (3 : Int) + 1 = 4 from rfl, show (4 : Int) + 1 = 5 from rfl, show (5 : Int) + 1 = 6 from rfl, show (6 : Int) + 1 = 7 from rfl, show (7 : Int) + 1 = 8 from rfl] at k0' k1' k2' k3' k4' k5' k6' k7'
  have hev : evI cS b9 none (enter [.d (.agg [.i .i64 x0, .i .i64 x1, .i .i64 x2, .i .i64 x3]), .d (.agg [.i .i64 y0, .i .i64 y1, .i .i64 y2, .i .i64 y3]), .d (.agg [.i .i64 w0, .i .i64 w1, .i .i64 w2, .i .i64 w3]), .d (.i .i64 n)]) H = some (.rt, [(8, .d (.b true))], h4) := by
    have hen : enter [.d (.agg [.i .i64 x0, .i .i64 x1, .i .i64 x2, .i .i64 x3]), .d (.agg [.i .i64 y0, .i .i64 y1, .i .i64 y2, .i .i64 y3]), .d (.agg [.i .i64 w0, .i .i64 w1, .i .i64 w2, .i .i64 w3]), .d (.i .i64 n)] = [(0, .d (.agg [.i .i64 x0, .i .i64 x1, .i .i64 x2, .i .i64 x3])), (1, .d (.agg [.i .i64 y0, .i .i64 y1, .i .i64 y2, .i .i64 y3])), (2, .d (.agg [.i .i64 w0, .i .i64 w1, .i .i64 w2, .i .i64 w3])), (3, .d (.i .i64 n))] := rfl
    rw [hen, hb]
    rw [evI_seq, j0]
    simp only [thenR]
    rw [evI_seq, j1]
    simp only [thenR]
    rw [evI_seq, j2]
    simp only [thenR]
    rw [evI_seq, j3]
    simp only [thenR]
    rw [evI_seq, j4]
    simp only [thenR]
    rw [evI_seq, j5]
    simp only [thenR]
    rw [evI_seq, j6]
    simp only [thenR]
    rw [evI_seq, j7]
    simp only [thenR]
    rw [evI_seq, j8]
    simp only [thenR]
    rw [evI_seq, j9]
    simp only [thenR]
    rw [evI_seq, j10]
    simp only [thenR]
    rw [← eh3, ← eh4]
    rw [evI_seq, j11]
    simp only [thenR]
    rw [evI_seq, j12]
    simp only [thenR]
    rw [evI_seq, evI_seq, nar_13]
    simp only [thenR]
    rw [evI_block]
    rw [evI_loop, k0']
    simp only [thenR]
    rw [evI_loop, k1']
    simp only [thenR]
    rw [evI_loop, k2']
    simp only [thenR]
    rw [evI_loop, k3']
    simp only [thenR]
    rw [evI_loop, k4']
    simp only [thenR]
    rw [evI_loop, k5']
    simp only [thenR]
    rw [evI_loop, k6']
    simp only [thenR]
    rw [evI_loop, k7']
    simp only [thenR]
    rw [evI_loop, nar_x]
    simp only [thenR, blockR, if_true]
    exact j14
  obtain ⟨L, e0⟩ : ∃ L, h4 = L ++ H := ⟨[_, _, _, _, _, _, _], by rw [eh4, eh3, eh2, eh1, eh0]; rfl⟩
  rw [e0] at hev
  have hbd : c9.body = b9 := rfl
  simp only [List.map_nil, List.nil_append, List.append_nil, hbd, hev]
  have := fin_app L H (.b true)
  simp only [c9, outOf, resAll, resOf, resV, eget, mkTup]
  simpa using this
end Go.Proofs.YtmiioebapckcoaaGreatDoor
end
