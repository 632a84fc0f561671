/- Part 18 of a proof: the small semantics, its soundness, the functions of the program in it, and the law. -/
import Derived.Test.YtmiioebapckcoaaGreatDoorMq
set_option linter.unusedVariables false
set_option linter.unusedSimpArgs false
section
/- EnclosureTight: the law. Printed by wip/tools/mkTight.py. -/
namespace Go.Proofs.YtmiioebapckcoaaGreatDoor
open Go Num
set_option maxRecDepth 4000

theorem tight_m0 (H : Hp) (x0 x1 x2 x3 y0 y1 y2 y3 : Int) : evI cS (nthC 0 b8) none [(0, .d (.agg [.i .i64 x0, .i .i64 x1, .i .i64 x2, .i .i64 x3])), (1, .d (.agg [.i .i64 y0, .i .i64 y1, .i .i64 y2, .i .i64 y3]))] H = some (.nor, [(2, .p H.length 0), (3, .p (H.length + 1) 0)], .box 22 [.d (.i .i64 y0), .d (.i .i64 y1), .d (.i .i64 y2), .d (.i .i64 y3)] :: .box 22 [.d (.i .i64 x0), .d (.i .i64 x1), .d (.i .i64 x2), .d (.i .i64 x3)] :: H) := by
  simp [nthC, b8, put, eset, eget, D.cells, V.cells, allD, hget, hset, fz, List.zipIdx_cons, List.zipIdx_nil, setParts, chunk1, allCellsD, eqKs, eqCell]
theorem tight_m1 {H : Hp} {o : EO} (g : Glb H) (e : ErrAt H o) (v2 v3 : V) : evI cS (nthC 1 b8) none [(2, v2), (3, v3)] H = some (.nor, [(2, v2), (3, v3), (5, .d (.b true))], H) := by
  have f0 := sane_ok g e
  simp [nthC, b8, put, eset, eget, D.cells, V.cells, allD, hget, hset, fz, List.zipIdx_cons, List.zipIdx_nil, setParts, chunk1, allCellsD, eqKs, eqCell, f0]
theorem tight_m2 {H : Hp} {i : Nat} {c0 c1 c2 c3 : Int} (gi : hget H i = some (.box 22 [.d (.i .i64 c0), .d (.i .i64 c1), .d (.i .i64 c2), .d (.i .i64 c3)])) {a b c d : List UInt8} (hl : callV cS false (fnV 19) [.d (.agg [.i .i64 c0, .i .i64 c1, .i .i64 c2, .i .i64 c3])] H = some (.val (.d (.agg [.s a, .s b, .s c, .s d])), H)) (v3 v5 : V) :
    evI cS (nthC 2 b8) none [(2, .p i 0), (3, v3), (5, v5)] H = some (.nor, [(3, v3), (5, v5), (6, .p H.length 0)], .box 29 [.d (.s a), .d (.s b), .d (.s c), .d (.s d)] :: H) := by
  simp [nthC, b8, put, eset, eget, D.cells, V.cells, allD, hget, hset, fz, List.zipIdx_cons, List.zipIdx_nil, setParts, chunk1, allCellsD, eqKs, eqCell, gi, hl]
theorem tight_m3 {H : Hp} {i : Nat} {c0 c1 c2 c3 : Int} (gi : hget H i = some (.box 22 [.d (.i .i64 c0), .d (.i .i64 c1), .d (.i .i64 c2), .d (.i .i64 c3)])) {a b c d : List UInt8} (hl : callV cS false (fnV 19) [.d (.agg [.i .i64 c0, .i .i64 c1, .i .i64 c2, .i .i64 c3])] H = some (.val (.d (.agg [.s a, .s b, .s c, .s d])), H)) (v5 v6 : V) :
    evI cS (nthC 3 b8) none [(3, .p i 0), (5, v5), (6, v6)] H = some (.nor, [(5, v5), (6, v6), (7, .p H.length 0)], .box 29 [.d (.s a), .d (.s b), .d (.s c), .d (.s d)] :: H) := by
  simp [nthC, b8, put, eset, eget, D.cells, V.cells, allD, hget, hset, fz, List.zipIdx_cons, List.zipIdx_nil, setParts, chunk1, allCellsD, eqKs, eqCell, gi, hl]
theorem tight_m4 {H : Hp} {i6 i7 : Nat} {a b c d a' b' c' d' : List UInt8} {xs es : List D} (g6 : hget H i6 = some (.box 29 [.d (.s a), .d (.s b), .d (.s c), .d (.s d)])) (g7 : hget H i7 = some (.box 29 [.d (.s a'), .d (.s b'), .d (.s c'), .d (.s d')])) (hc : callV cS false (fnV 31) [.d (.agg [.s a, .s b, .s c, .s d]), .d (.agg [.s a', .s b', .s c', .s d']), .d (.i .i64 3)] H = some (.val (.d (.tup [.ls xs, .ls es])), H)) (v5 : V) :
    evI cS (nthC 4 b8) none [(5, v5), (6, .p i6 0), (7, .p i7 0)] H = some (.nor, [(5, v5), (6, .p i6 0), (7, .p i7 0), (8, .d (.ls xs)), (9, .d (.ls es))], H) := by
  simp [nthC, b8, put, eset, eget, D.cells, V.cells, allD, hget, hset, fz, List.zipIdx_cons, List.zipIdx_nil, setParts, chunk1, allCellsD, eqKs, eqCell, g6, g7, hc]
theorem tight_m5 {H : Hp} (v5 v6 v7 v8 v9 : V) : evI cS (nthC 0 (nthC 5 b8)) none [(5, v5), (6, v6), (7, v7), (8, v8), (9, v9)] H = some (.nor, [(5, v5), (6, v6), (7, v7), (8, v8), (9, v9), (10, .d (.i .i64 0))], H) := by
  simp [nthC, b8, put, eset, eget, D.cells, V.cells, allD, hget, hset, fz, List.zipIdx_cons, List.zipIdx_nil, setParts, chunk1, allCellsD, eqKs, eqCell]
theorem tight_m6 {H : Hp} (v6 v7 v8 v9 v10 v30 : V) : evI cS (tlC 6 b8) none [(5, .d (.b true)), (6, v6), (7, v7), (8, v8), (9, v9), (10, v10), (30, v30)] H = some (.rt, [(4, .d (.b true))], H) := by
  simp [nthC, tlC, b8, put, eset, eget, D.cells, V.cells, allD, hget, hset, fz, List.zipIdx_cons, List.zipIdx_nil, setParts, chunk1, allCellsD, eqKs, eqCell]
theorem flag4 {m v0 v1 v2 v3 : Rat} (h : m = v0 ∨ m = v1 ∨ m = v2 ∨ m = v3) : ((((false || (txt v0.num == txt m.num && txt v0.den == txt m.den)) || (txt v1.num == txt m.num && txt v1.den == txt m.den)) || (txt v2.num == txt m.num && txt v2.den == txt m.den)) || (txt v3.num == txt m.num && txt v3.den == txt m.den)) = true := by
  rcases h with rfl | rfl | rfl | rfl <;> simp
theorem con_val {lo hi v : Rat} (f1 : RFits lo) (f2 : RFits hi) (f3 : RFits v) (h1 : lo ≤ v) (h2 : v ≤ hi) (h : Hp) (g : Glb h) : callV cS false (fnV 23) [.d (.agg [.s (txt lo.num), .s (txt lo.den), .s (txt hi.num), .s (txt hi.den)]), .d (.agg [.s (txt v.num), .s (txt v.den)])] h = some (.val (.d (.b true)), h) := by
  have := contains_val f1 f2 f3 (Rat.le_trans h1 h2) g
  rw [decide_eq_true h1, decide_eq_true h2] at this
  exact this

section
variable {a1 a2 b1 b2 : Rat} (ha1 : S3 a1) (ha2 : S3 a2) (hb1 : S3 b1) (hb2 : S3 b2) (la : a1 ≤ a2) (lb : b1 ≤ b2) {H : Hp} (hG : Glb H) {i6 i7 : Nat} (g6 : hget H i6 = some (.box 29 [.d (.s (txt a1.num)), .d (.s (txt a1.den)), .d (.s (txt a2.num)), .d (.s (txt a2.den))])) (g7 : hget H i7 = some (.box 29 [.d (.s (txt b1.num)), .d (.s (txt b1.den)), .d (.s (txt b2.num)), .d (.s (txt b2.den))])) {XS : List D} (hz : allCellsD 4 XS = true) (v5 v9 : V)
include ha1 ha2 hb1 hb2 la lb hG g6 g7 hz
theorem tight_v0 (hl : 0 < (XS.length : Int)) (hx : XS[0]? = some (.agg [.s (txt (a1 + b1).num), .s (txt (a1 + b1).den), .s (txt (a2 + b2).num), .s (txt (a2 + b2).den)])) : ∃ L, evI cS (.loop l8_0) none [(5, v5), (6, .p i6 0), (7, .p i7 0), (8, .d (.ls XS)), (9, v9), (10, .d (.i .i64 0)), (11, .d (.b false)), (12, .d (.b false)), (13, .d (.i .i64 0))] H = some (.ex 2, [(5, v5), (6, .p i6 0), (7, .p i7 0), (8, .d (.ls XS)), (9, v9), (10, .d (.i .i64 0)), (11, .d (.b true)), (12, .d (.b true)), (13, .d (.i .i64 4)), (47, .d (.b false))], L ++ H) := by
  have f0 := (add_s3 ha1 hb1).2.2
  have f1 := (add_s3 ha1 hb2).2.2
  have f2 := (add_s3 ha2 hb1).2.2
  have f3 := (add_s3 ha2 hb2).2.2
  have flo : RFits (a1 + b1) := f0
  have fhi : RFits (a2 + b2) := f3
  have c0 := con_val flo fhi f0 (by grind) (by grind)
  have c1 := con_val flo fhi f1 (by grind) (by grind)
  have c2 := con_val flo fhi f2 (by grind) (by grind)
  have c3 := con_val flo fhi f3 (by grind) (by grind)
  have m1 : (a1 + b1) = (a1 + b1) ∨ (a1 + b1) = (a1 + b2) ∨ (a1 + b1) = (a2 + b1) ∨ (a1 + b1) = (a2 + b2) := by simp
  have m2 : (a2 + b2) = (a1 + b1) ∨ (a2 + b2) = (a1 + b2) ∨ (a2 + b2) = (a2 + b1) ∨ (a2 + b2) = (a2 + b2) := by simp
  have q0 := fun (L : Hp) (lo hi : Bool) => tight_r0 (glb_app L hG) (k := 0) hl hx hz (by omega) (by omega) (hget_app L g6) (hget_app L g7) (.inl ⟨.inl rfl, rfl, rfl⟩) (.inl ⟨.inl rfl, rfl, rfl⟩) (fun h g => sum_call ha1 hb1 g) c0 lo hi v5 v9
  have q1 := fun (L : Hp) (lo hi : Bool) => tight_r0 (glb_app L hG) (k := 1) hl hx hz (by omega) (by omega) (hget_app L g6) (hget_app L g7) (.inl ⟨.inr rfl, rfl, rfl⟩) (.inr ⟨.inl rfl, rfl, rfl⟩) (fun h g => sum_call ha1 hb2 g) c1 lo hi v5 v9
  have q2 := fun (L : Hp) (lo hi : Bool) => tight_r0 (glb_app L hG) (k := 2) hl hx hz (by omega) (by omega) (hget_app L g6) (hget_app L g7) (.inr ⟨.inl rfl, rfl, rfl⟩) (.inl ⟨.inr rfl, rfl, rfl⟩) (fun h g => sum_call ha2 hb1 g) c2 lo hi v5 v9
  have q3 := fun (L : Hp) (lo hi : Bool) => tight_r0 (glb_app L hG) (k := 3) hl hx hz (by omega) (by omega) (hget_app L g6) (hget_app L g7) (.inr ⟨.inr rfl, rfl, rfl⟩) (.inr ⟨.inr rfl, rfl, rfl⟩) (fun h g => sum_call ha2 hb2 g) c3 lo hi v5 v9
  exact tight_in (fun L lo hi => ⟨[_, _, _] ++ L, by rw [List.append_assoc]; exact q0 L lo hi⟩) (fun L lo hi => ⟨[_, _, _] ++ L, by rw [List.append_assoc]; exact q1 L lo hi⟩) (fun L lo hi => ⟨[_, _, _] ++ L, by rw [List.append_assoc]; exact q2 L lo hi⟩) (fun L lo hi => ⟨[_, _, _] ++ L, by rw [List.append_assoc]; exact q3 L lo hi⟩) (flag4 m1) (flag4 m2)
theorem tight_v1 (hl : 1 < (XS.length : Int)) (hx : XS[1]? = some (.agg [.s (txt (a1 - b2).num), .s (txt (a1 - b2).den), .s (txt (a2 - b1).num), .s (txt (a2 - b1).den)])) : ∃ L, evI cS (.loop l8_0) none [(5, v5), (6, .p i6 0), (7, .p i7 0), (8, .d (.ls XS)), (9, v9), (10, .d (.i .i64 1)), (11, .d (.b false)), (12, .d (.b false)), (13, .d (.i .i64 0))] H = some (.ex 2, [(5, v5), (6, .p i6 0), (7, .p i7 0), (8, .d (.ls XS)), (9, v9), (10, .d (.i .i64 1)), (11, .d (.b true)), (12, .d (.b true)), (13, .d (.i .i64 4)), (47, .d (.b false))], L ++ H) := by
  have f0 := (sub_s3 ha1 hb1).2.2
  have f1 := (sub_s3 ha1 hb2).2.2
  have f2 := (sub_s3 ha2 hb1).2.2
  have f3 := (sub_s3 ha2 hb2).2.2
  have flo : RFits (a1 - b2) := f1
  have fhi : RFits (a2 - b1) := f2
  have c0 := con_val flo fhi f0 (by grind) (by grind)
  have c1 := con_val flo fhi f1 (by grind) (by grind)
  have c2 := con_val flo fhi f2 (by grind) (by grind)
  have c3 := con_val flo fhi f3 (by grind) (by grind)
  have m1 : (a1 - b2) = (a1 - b1) ∨ (a1 - b2) = (a1 - b2) ∨ (a1 - b2) = (a2 - b1) ∨ (a1 - b2) = (a2 - b2) := by simp
  have m2 : (a2 - b1) = (a1 - b1) ∨ (a2 - b1) = (a1 - b2) ∨ (a2 - b1) = (a2 - b1) ∨ (a2 - b1) = (a2 - b2) := by simp
  have q0 := fun (L : Hp) (lo hi : Bool) => tight_r1 (glb_app L hG) (k := 0) hl hx hz (by omega) (by omega) (hget_app L g6) (hget_app L g7) (.inl ⟨.inl rfl, rfl, rfl⟩) (.inl ⟨.inl rfl, rfl, rfl⟩) (fun h g => sum_call ha1 hb1 g) (fun h g => dif_call ha1 hb1 g) c0 lo hi v5 v9
  have q1 := fun (L : Hp) (lo hi : Bool) => tight_r1 (glb_app L hG) (k := 1) hl hx hz (by omega) (by omega) (hget_app L g6) (hget_app L g7) (.inl ⟨.inr rfl, rfl, rfl⟩) (.inr ⟨.inl rfl, rfl, rfl⟩) (fun h g => sum_call ha1 hb2 g) (fun h g => dif_call ha1 hb2 g) c1 lo hi v5 v9
  have q2 := fun (L : Hp) (lo hi : Bool) => tight_r1 (glb_app L hG) (k := 2) hl hx hz (by omega) (by omega) (hget_app L g6) (hget_app L g7) (.inr ⟨.inl rfl, rfl, rfl⟩) (.inl ⟨.inr rfl, rfl, rfl⟩) (fun h g => sum_call ha2 hb1 g) (fun h g => dif_call ha2 hb1 g) c2 lo hi v5 v9
  have q3 := fun (L : Hp) (lo hi : Bool) => tight_r1 (glb_app L hG) (k := 3) hl hx hz (by omega) (by omega) (hget_app L g6) (hget_app L g7) (.inr ⟨.inr rfl, rfl, rfl⟩) (.inr ⟨.inr rfl, rfl, rfl⟩) (fun h g => sum_call ha2 hb2 g) (fun h g => dif_call ha2 hb2 g) c3 lo hi v5 v9
  exact tight_in (fun L lo hi => ⟨[_, _, _] ++ L, by rw [List.append_assoc]; exact q0 L lo hi⟩) (fun L lo hi => ⟨[_, _, _] ++ L, by rw [List.append_assoc]; exact q1 L lo hi⟩) (fun L lo hi => ⟨[_, _, _] ++ L, by rw [List.append_assoc]; exact q2 L lo hi⟩) (fun L lo hi => ⟨[_, _, _] ++ L, by rw [List.append_assoc]; exact q3 L lo hi⟩) (flag4 m1) (flag4 m2)
omit la lb in
theorem tight_v2 (hl : 2 < (XS.length : Int)) (hx : XS[2]? = some (.agg [.s (txt (min4 (a1 * b1) (a1 * b2) (a2 * b1) (a2 * b2)).num), .s (txt (min4 (a1 * b1) (a1 * b2) (a2 * b1) (a2 * b2)).den), .s (txt (max4 (a1 * b1) (a1 * b2) (a2 * b1) (a2 * b2)).num), .s (txt (max4 (a1 * b1) (a1 * b2) (a2 * b1) (a2 * b2)).den)])) : ∃ L, evI cS (.loop l8_0) none [(5, v5), (6, .p i6 0), (7, .p i7 0), (8, .d (.ls XS)), (9, v9), (10, .d (.i .i64 2)), (11, .d (.b false)), (12, .d (.b false)), (13, .d (.i .i64 0))] H = some (.ex 2, [(5, v5), (6, .p i6 0), (7, .p i7 0), (8, .d (.ls XS)), (9, v9), (10, .d (.i .i64 2)), (11, .d (.b true)), (12, .d (.b true)), (13, .d (.i .i64 4)), (47, .d (.b false))], L ++ H) := by
  have f0 := (mul_s3 ha1 hb1).2.2
  have f1 := (mul_s3 ha1 hb2).2.2
  have f2 := (mul_s3 ha2 hb1).2.2
  have f3 := (mul_s3 ha2 hb2).2.2
  obtain ⟨l0, l1, l2, l3⟩ := min4_le (a1 * b1) (a1 * b2) (a2 * b1) (a2 * b2)
  obtain ⟨u0, u1, u2, u3⟩ := max4_ge (a1 * b1) (a1 * b2) (a2 * b1) (a2 * b2)
  have m1 := min4_mem (a1 * b1) (a1 * b2) (a2 * b1) (a2 * b2)
  have m2 := max4_mem (a1 * b1) (a1 * b2) (a2 * b1) (a2 * b2)
  have flo : RFits (min4 (a1 * b1) (a1 * b2) (a2 * b1) (a2 * b2)) := by rcases m1 with h | h | h | h <;> rw [h] <;> assumption
  have fhi : RFits (max4 (a1 * b1) (a1 * b2) (a2 * b1) (a2 * b2)) := by rcases m2 with h | h | h | h <;> rw [h] <;> assumption
  have c0 := con_val flo fhi f0 l0 u0
  have c1 := con_val flo fhi f1 l1 u1
  have c2 := con_val flo fhi f2 l2 u2
  have c3 := con_val flo fhi f3 l3 u3
  have q0 := fun (L : Hp) (lo hi : Bool) => tight_r2 (glb_app L hG) (k := 0) hl hx hz (by omega) (by omega) (hget_app L g6) (hget_app L g7) (.inl ⟨.inl rfl, rfl, rfl⟩) (.inl ⟨.inl rfl, rfl, rfl⟩) (fun h g => sum_call ha1 hb1 g) (fun h g => pro_call ha1 hb1 g) c0 lo hi v5 v9
  have q1 := fun (L : Hp) (lo hi : Bool) => tight_r2 (glb_app L hG) (k := 1) hl hx hz (by omega) (by omega) (hget_app L g6) (hget_app L g7) (.inl ⟨.inr rfl, rfl, rfl⟩) (.inr ⟨.inl rfl, rfl, rfl⟩) (fun h g => sum_call ha1 hb2 g) (fun h g => pro_call ha1 hb2 g) c1 lo hi v5 v9
  have q2 := fun (L : Hp) (lo hi : Bool) => tight_r2 (glb_app L hG) (k := 2) hl hx hz (by omega) (by omega) (hget_app L g6) (hget_app L g7) (.inr ⟨.inl rfl, rfl, rfl⟩) (.inl ⟨.inr rfl, rfl, rfl⟩) (fun h g => sum_call ha2 hb1 g) (fun h g => pro_call ha2 hb1 g) c2 lo hi v5 v9
  have q3 := fun (L : Hp) (lo hi : Bool) => tight_r2 (glb_app L hG) (k := 3) hl hx hz (by omega) (by omega) (hget_app L g6) (hget_app L g7) (.inr ⟨.inr rfl, rfl, rfl⟩) (.inr ⟨.inr rfl, rfl, rfl⟩) (fun h g => sum_call ha2 hb2 g) (fun h g => pro_call ha2 hb2 g) c3 lo hi v5 v9
  exact tight_in (fun L lo hi => ⟨[_, _, _] ++ L, by rw [List.append_assoc]; exact q0 L lo hi⟩) (fun L lo hi => ⟨[_, _, _] ++ L, by rw [List.append_assoc]; exact q1 L lo hi⟩) (fun L lo hi => ⟨[_, _, _] ++ L, by rw [List.append_assoc]; exact q2 L lo hi⟩) (fun L lo hi => ⟨[_, _, _] ++ L, by rw [List.append_assoc]; exact q3 L lo hi⟩) (flag4 m1) (flag4 m2)
omit la in
theorem tight_v3 (h0 : ¬ (b1 ≤ 0 ∧ 0 ≤ b2)) (hl : 3 < (XS.length : Int)) (hx : XS[3]? = some (.agg [.s (txt (min4 (a1 / b1) (a1 / b2) (a2 / b1) (a2 / b2)).num), .s (txt (min4 (a1 / b1) (a1 / b2) (a2 / b1) (a2 / b2)).den), .s (txt (max4 (a1 / b1) (a1 / b2) (a2 / b1) (a2 / b2)).num), .s (txt (max4 (a1 / b1) (a1 / b2) (a2 / b1) (a2 / b2)).den)])) : ∃ L, evI cS (.loop l8_0) none [(5, v5), (6, .p i6 0), (7, .p i7 0), (8, .d (.ls XS)), (9, v9), (10, .d (.i .i64 3)), (11, .d (.b false)), (12, .d (.b false)), (13, .d (.i .i64 0))] H = some (.ex 2, [(5, v5), (6, .p i6 0), (7, .p i7 0), (8, .d (.ls XS)), (9, v9), (10, .d (.i .i64 3)), (11, .d (.b true)), (12, .d (.b true)), (13, .d (.i .i64 4)), (47, .d (.b false))], L ++ H) := by
  have n1 : b1 ≠ 0 := by grind
  have n2 : b2 ≠ 0 := by grind
  have f0 := (div_s3 ha1 hb1 n1).2.2
  have f1 := (div_s3 ha1 hb2 n2).2.2
  have f2 := (div_s3 ha2 hb1 n1).2.2
  have f3 := (div_s3 ha2 hb2 n2).2.2
  obtain ⟨l0, l1, l2, l3⟩ := min4_le (a1 / b1) (a1 / b2) (a2 / b1) (a2 / b2)
  obtain ⟨u0, u1, u2, u3⟩ := max4_ge (a1 / b1) (a1 / b2) (a2 / b1) (a2 / b2)
  have m1 := min4_mem (a1 / b1) (a1 / b2) (a2 / b1) (a2 / b2)
  have m2 := max4_mem (a1 / b1) (a1 / b2) (a2 / b1) (a2 / b2)
  have flo : RFits (min4 (a1 / b1) (a1 / b2) (a2 / b1) (a2 / b2)) := by rcases m1 with h | h | h | h <;> rw [h] <;> assumption
  have fhi : RFits (max4 (a1 / b1) (a1 / b2) (a2 / b1) (a2 / b2)) := by rcases m2 with h | h | h | h <;> rw [h] <;> assumption
  have c0 := con_val flo fhi f0 l0 u0
  have c1 := con_val flo fhi f1 l1 u1
  have c2 := con_val flo fhi f2 l2 u2
  have c3 := con_val flo fhi f3 l3 u3
  have q0 := fun (L : Hp) (lo hi : Bool) => tight_r3 (glb_app L hG) (k := 0) hl hx hz (by omega) (by omega) (hget_app L g6) (hget_app L g7) (.inl ⟨.inl rfl, rfl, rfl⟩) (.inl ⟨.inl rfl, rfl, rfl⟩) (fun h g => sum_call ha1 hb1 g) (fun h g => quo_call ha1 hb1 n1 g) c0 lo hi v5 v9
  have q1 := fun (L : Hp) (lo hi : Bool) => tight_r3 (glb_app L hG) (k := 1) hl hx hz (by omega) (by omega) (hget_app L g6) (hget_app L g7) (.inl ⟨.inr rfl, rfl, rfl⟩) (.inr ⟨.inl rfl, rfl, rfl⟩) (fun h g => sum_call ha1 hb2 g) (fun h g => quo_call ha1 hb2 n2 g) c1 lo hi v5 v9
  have q2 := fun (L : Hp) (lo hi : Bool) => tight_r3 (glb_app L hG) (k := 2) hl hx hz (by omega) (by omega) (hget_app L g6) (hget_app L g7) (.inr ⟨.inl rfl, rfl, rfl⟩) (.inl ⟨.inr rfl, rfl, rfl⟩) (fun h g => sum_call ha2 hb1 g) (fun h g => quo_call ha2 hb1 n1 g) c2 lo hi v5 v9
  have q3 := fun (L : Hp) (lo hi : Bool) => tight_r3 (glb_app L hG) (k := 3) hl hx hz (by omega) (by omega) (hget_app L g6) (hget_app L g7) (.inr ⟨.inr rfl, rfl, rfl⟩) (.inr ⟨.inr rfl, rfl, rfl⟩) (fun h g => sum_call ha2 hb2 g) (fun h g => quo_call ha2 hb2 n2 g) c3 lo hi v5 v9
  exact tight_in (fun L lo hi => ⟨[_, _, _] ++ L, by rw [List.append_assoc]; exact q0 L lo hi⟩) (fun L lo hi => ⟨[_, _, _] ++ L, by rw [List.append_assoc]; exact q1 L lo hi⟩) (fun L lo hi => ⟨[_, _, _] ++ L, by rw [List.append_assoc]; exact q2 L lo hi⟩) (fun L lo hi => ⟨[_, _, _] ++ L, by rw [List.append_assoc]; exact q3 L lo hi⟩) (flag4 m1) (flag4 m2)
end
set_option maxHeartbeats 1000000 in
theorem Tight_ok (x0 x1 x2 x3 y0 y1 y2 y3 : Int) (hx0 : I64 x0) (hx1 : I64 x1) (hx2 : I64 x2) (hx3 : I64 x3) (hy0 : I64 y0) (hy1 : I64 y1) (hy2 : I64 y2) (hy3 : I64 y3) {H : Hp} {o : EO} (hG : Glb H) (hE : ErrAt H o) :
    callV cS false (fnV 8) [.d (.agg [.i .i64 x0, .i .i64 x1, .i .i64 x2, .i .i64 x3]), .d (.agg [.i .i64 y0, .i .i64 y1, .i .i64 y2, .i .i64 y3])] H = some (.val (.d (.b true)), H) := by
  rw [callV_fn (sf := c8) rfl rfl rfl rfl]
  have hb : b8 = .seq (nthC 0 b8) (.seq (nthC 1 b8) (.seq (nthC 2 b8) (.seq (nthC 3 b8) (.seq (nthC 4 b8) (.seq (.seq (nthC 0 (nthC 5 b8)) (.block 0 (.loop l8_1))) (tlC 6 b8)))))) := rfl
  have ma := Made_ok x0 x1 x2 x3 hx0 hx1 hx2 hx3
  have mb := Made_ok y0 y1 y2 y3 hy0 hy1 hy2 hy3
  have la := made_le x0 x1 x2 x3
  have lb := made_le y0 y1 y2 y3
  obtain ⟨sa1, sa2⟩ := made_sm x0 x1 x2 x3
  obtain ⟨sb1, sb2⟩ := made_sm y0 y1 y2 y3
  generalize madeLo x0 x1 x2 x3 = a1 at *
  generalize madeHi x0 x1 x2 x3 = a2 at *
  generalize madeLo y0 y1 y2 y3 = b1 at *
  generalize madeHi y0 y1 y2 y3 = b2 at *
  have ha1 := s3_of sa1
  have ha2 := s3_of sa2
  have hb1 := s3_of sb1
  have hb2 := s3_of sb2
  simp only [dI4] at ma mb
  obtain ⟨hA, ehA⟩ : ∃ hA : Hp, hA = .box 22 [.d (.i .i64 y0), .d (.i .i64 y1), .d (.i .i64 y2), .d (.i .i64 y3)] :: .box 22 [.d (.i .i64 x0), .d (.i .i64 x1), .d (.i .i64 x2), .d (.i .i64 x3)] :: H := ⟨_, rfl⟩
  obtain ⟨h6, eh6⟩ : ∃ h6 : Hp, h6 = .box 29 [.d (.s (txt a1.num)), .d (.s (txt a1.den)), .d (.s (txt a2.num)), .d (.s (txt a2.den))] :: hA := ⟨_, rfl⟩
  obtain ⟨h7, eh7⟩ : ∃ h7 : Hp, h7 = .box 29 [.d (.s (txt b1.num)), .d (.s (txt b1.den)), .d (.s (txt b2.num)), .d (.s (txt b2.den))] :: h6 := ⟨_, rfl⟩
  have glA : Glb hA := by rw [ehA]; exact (hG.cons _).cons _
  have erA : ErrAt hA o := by rw [ehA]; exact (hE.cons _).cons _
  have gl7 : Glb h7 := by rw [eh7, eh6]; exact (glA.cons _).cons _
  have er7 : ErrAt h7 o := by rw [eh7, eh6]; exact (erA.cons _).cons _
  have k2 : hget hA H.length = some (.box 22 [.d (.i .i64 x0), .d (.i .i64 x1), .d (.i .i64 x2), .d (.i .i64 x3)]) := by rw [ehA]; simp [put, eset, eget, D.cells, V.cells, allD, hget, hset, fz, List.zipIdx_cons, List.zipIdx_nil]
  have k3 : hget hA (H.length + 1) = some (.box 22 [.d (.i .i64 y0), .d (.i .i64 y1), .d (.i .i64 y2), .d (.i .i64 y3)]) := by rw [ehA]; simp [put, eset, eget, D.cells, V.cells, allD, hget, hset, fz, List.zipIdx_cons, List.zipIdx_nil]
  have g6 := hget_up eh7 (hget_top eh6)
  have g7 := hget_top eh7
  have q0 := tight_m0 H x0 x1 x2 x3 y0 y1 y2 y3
  rw [← ehA] at q0
  have q1 := tight_m1 glA erA (.p H.length 0) (.p (H.length + 1) 0)
  have q2 := tight_m2 k2 (ma hA) (.p (H.length + 1) 0) (.d (.b true))
  rw [← eh6] at q2
  have q3 := tight_m3 (hget_up eh6 k3) (mb h6) (.d (.b true)) (.p hA.length 0)
  rw [← eh7] at q3
  -- the operations that this law does not look at
  obtain ⟨r4, e4, w4⟩ := work_any (l := [qV a1 a2, qV b1 b2]) (hullX_form (qV a1 a2) (qV b1 b2))
  obtain ⟨r5, e5, w5⟩ := work_any (l := [qV a1 a2, qV b1 b2]) (meetX_form (qV a1 a2) (qV b1 b2))
  obtain ⟨r6, e6, w6⟩ := work_any (l := [qV a1 a2]) (sqrtX_form 3 (qV a1 a2))
  obtain ⟨r7, e7, w7⟩ := work_any (l := [qV a1 a2]) (x := pairD (opQ1 (rdD false 3) errR (qV a1 a2).a (qV a1 a2).b) (opQ1 (rdD true 3) errR (qV a1 a2).c (qV a1 a2).d)) (fun z hz => pairD_form hz)
  have f0 := fun (h : Hp) (g : Glb h) (e : ErrAt h o) => EAdd_val ha1 ha2 hb1 hb2 la lb g e
  have f1 := fun (h : Hp) (g : Glb h) (e : ErrAt h o) => ESub_val ha1 ha2 hb1 hb2 la lb g e
  have f2 := fun (h : Hp) (g : Glb h) (e : ErrAt h o) => EMul_val ha1 ha2 hb1 hb2 la lb g e
  have f4 := fun (h : Hp) (g : Glb h) (e : ErrAt h o) => (EHull_ok (qV a1 a2) (qV b1 b2) g e).trans (by rw [w4])
  have f5 := fun (h : Hp) (g : Glb h) (e : ErrAt h o) => (EMeet_ok (qV a1 a2) (qV b1 b2) g e).trans (by rw [w5])
  have f6 := fun (h : Hp) (g : Glb h) (e : ErrAt h o) => (ESqrt_ok (qV a1 a2) 3 (by unfold I64; omega) g e).trans (by rw [w6])
  have f7 := fun (h : Hp) (g : Glb h) (e : ErrAt h o) => (ERound_ok (qV a1 a2) 3 (by unfold I64; omega) g e).trans (by rw [w7])
  -- the division
  have hdiv : ∃ r3 e3, (∀ h, Glb h → ErrAt h o → callV cS false (fnV 43) [.d (qV a1 a2).D, .d (qV b1 b2).D] h = some (.val (.d (.tup [IV.D r3, .i .i64 e3])), h)) ∧
      ∀ (XS ES : List D) (G : Hp), Glb G → hget G hA.length = some (.box 29 [.d (.s (txt a1.num)), .d (.s (txt a1.den)), .d (.s (txt a2.num)), .d (.s (txt a2.den))]) → hget G h6.length = some (.box 29 [.d (.s (txt b1.num)), .d (.s (txt b1.den)), .d (.s (txt b2.num)), .d (.s (txt b2.den))]) → XS.length = 8 → allCellsD 4 XS = true → XS[3]? = some r3.D → ES.length = 8 → allCellsD 1 ES = true → ES[3]? = some (.i .i64 e3) →
        ∃ L, evI cS l8_1 none [(5, .d (.b true)), (6, .p hA.length 0), (7, .p h6.length 0), (8, .d (.ls XS)), (9, .d (.ls ES)), (10, .d (.i .i64 3))] G = some (.nor, [(5, .d (.b true)), (6, .p hA.length 0), (7, .p h6.length 0), (8, .d (.ls XS)), (9, .d (.ls ES)), (10, .d (.i .i64 4))], L ++ G) := by
    by_cases h0 : b1 ≤ 0 ∧ 0 ≤ b2
    · refine ⟨⟨[], [], [], []⟩, 50, fun h g e => EDiv_zero ha1 ha2 hb1 hb2 la lb h0 g e, fun XS ES G gG m6 m7 n1 n2 n3 n4 n5 n6 => ⟨[], ?_⟩⟩
      have hr := ratio_q 0 1 0 (by unfold I64; omega) (by unfold I64; omega) (by omega) (by decide +kernel) G
      have hc := contains_val hb1.fits hb2.fits (show RFits 0 from Sm.fits (by decide)) lb gG
      rw [decide_eq_true h0.1, decide_eq_true h0.2] at hc
      exact tight_obad (by omega) n6 n5 (by omega) m7 hr hc (.d (.b true)) _
    · refine ⟨qV _ _, 0, fun h g e => EDiv_val ha1 ha2 hb1 hb2 la lb h0 g e, fun XS ES G gG m6 m7 n1 n2 n3 n4 n5 n6 => ?_⟩
      exact tight_o (i := 3) (by omega) (by omega) n6 n5 (by omega) rfl (.d (.b true)) _ (tight_v3 ha1 ha2 hb1 hb2 lb gG m6 m7 n2 (.d (.b true)) _ h0 (by omega) n3)
  obtain ⟨r3, e3, f3, hrun3⟩ := hdiv
  have hcalls := calls_ok (A := qV a1 a2) (B := qV b1 b2) (n := 3) gl7 er7 f0 f1 f2 f3 f4 f5 f6 f7
  obtain ⟨XS, eXS⟩ : ∃ XS : List D, XS = [(qV (a1 + b1) (a2 + b2)).D, (qV (a1 - b2) (a2 - b1)).D, (qV (min4 (a1 * b1) (a1 * b2) (a2 * b1) (a2 * b2)) (max4 (a1 * b1) (a1 * b2) (a2 * b1) (a2 * b2))).D, r3.D, r4.D, r5.D, r6.D, r7.D] := ⟨_, rfl⟩
  obtain ⟨ES, eES⟩ : ∃ ES : List D, ES = [.i .i64 0, .i .i64 0, .i .i64 0, .i .i64 e3, .i .i64 e4, .i .i64 e5, .i .i64 e6, .i .i64 e7] := ⟨_, rfl⟩
  have hcalls' : callV cS false (fnV 31) [.d (qV a1 a2).D, .d (qV b1 b2).D, .d (.i .i64 3)] h7 = some (.val (.d (.tup [.ls XS, .ls ES])), h7) := by rw [eXS, eES]; exact hcalls
  have z1 : allCellsD 4 XS = true := by rw [eXS]; simp [allCellsD, IV.D, D.cells, scDs, scD]
  have z2 : allCellsD 1 ES = true := by rw [eES]; rfl
  have n1 : XS.length = 8 := by rw [eXS]; rfl
  have n2 : ES.length = 8 := by rw [eES]; rfl
  have q4 := tight_m4 g6 g7 hcalls' (.d (.b true))
  obtain ⟨L0, s0⟩ := tight_o (i := 0) (by omega) (by omega) (show ES[(0 : Int).toNat]? = some (.i .i64 0) by rw [eES]; rfl) z2 (by omega) rfl (.d (.b true)) _ (tight_v0 ha1 ha2 hb1 hb2 la lb gl7 g6 g7 z1 (.d (.b true)) _ (by omega) (by rw [eXS]; rfl))
  obtain ⟨L1, s1⟩ := tight_o (i := 1) (by omega) (by omega) (show ES[(1 : Int).toNat]? = some (.i .i64 0) by rw [eES]; rfl) z2 (by omega) rfl (.d (.b true)) _ (tight_v1 ha1 ha2 hb1 hb2 la lb (glb_app L0 gl7) (hget_app L0 g6) (hget_app L0 g7) z1 (.d (.b true)) _ (by omega) (by rw [eXS]; rfl))
  obtain ⟨L2, s2⟩ := tight_o (i := 2) (by omega) (by omega) (show ES[(2 : Int).toNat]? = some (.i .i64 0) by rw [eES]; rfl) z2 (by omega) rfl (.d (.b true)) _ (tight_v2 ha1 ha2 hb1 hb2 (glb_app L1 (glb_app L0 gl7)) (hget_app L1 (hget_app L0 g6)) (hget_app L1 (hget_app L0 g7)) z1 (.d (.b true)) _ (by omega) (by rw [eXS]; rfl))
  obtain ⟨L3, s3⟩ := hrun3 XS ES (L2 ++ (L1 ++ (L0 ++ h7))) (glb_app L2 (glb_app L1 (glb_app L0 gl7))) (hget_app L2 (hget_app L1 (hget_app L0 g6))) (hget_app L2 (hget_app L1 (hget_app L0 g7))) n1 z1 (by rw [eXS]; rfl) n2 z2 (by rw [eES]; rfl)
  obtain ⟨K, hK⟩ : ∃ K : Hp, h7 = K ++ H := ⟨_ :: _ :: _ :: _ :: [], by rw [eh7, eh6, ehA]; rfl⟩
  have happ : ∃ L, (L3 ++ (L2 ++ (L1 ++ (L0 ++ h7))) : Hp) = L ++ H := ⟨L3 ++ (L2 ++ (L1 ++ (L0 ++ K))), by rw [hK]; simp only [List.append_assoc]⟩
  simp only [show (0 : Int) + 1 = 1 from rfl, show (1 : Int) + 1 = 2 from rfl, show (2 : Int) + 1 = 3 from rfl] at s0 s1 s2
  have hev : evI cS b8 none (enter [.d (.agg [.i .i64 x0, .i .i64 x1, .i .i64 x2, .i .i64 x3]), .d (.agg [.i .i64 y0, .i .i64 y1, .i .i64 y2, .i .i64 y3])]) H = some (.rt, [(4, .d (.b true))], L3 ++ (L2 ++ (L1 ++ (L0 ++ h7)))) := by
    have hen : enter [.d (.agg [.i .i64 x0, .i .i64 x1, .i .i64 x2, .i .i64 x3]), .d (.agg [.i .i64 y0, .i .i64 y1, .i .i64 y2, .i .i64 y3])] = [(0, .d (.agg [.i .i64 x0, .i .i64 x1, .i .i64 x2, .i .i64 x3])), (1, .d (.agg [.i .i64 y0, .i .i64 y1, .i .i64 y2, .i .i64 y3]))] := rfl
    rw [hen, hb, evI_seq, q0]
    simp only [thenR]
    rw [evI_seq, q1]
    simp only [thenR]
    rw [evI_seq, q2]
    simp only [thenR]
    rw [evI_seq, q3]
    simp only [thenR]
    rw [evI_seq, q4]
    simp only [thenR]
    rw [evI_seq, evI_seq, tight_m5]
    simp only [thenR]
    rw [evI_block, evI_loop, s0]
    simp only [thenR]
    rw [evI_loop, s1]
    simp only [thenR]
    rw [evI_loop, s2]
    simp only [thenR]
    rw [evI_loop, s3]
    simp only [thenR]
    rw [evI_loop, tight_px]
    simp only [thenR, blockR, if_true]
    exact tight_m6 _ _ _ _ _ _
  obtain ⟨L, e0⟩ := happ
  rw [e0] at hev
  have hbd : c8.body = b8 := rfl
  simp only [List.map_nil, List.nil_append, List.append_nil, hbd, hev]
  have := fin_app L H (.b true)
  simp only [c8, outOf, resAll, resOf, resV, eget, mkTup]
  simpa using this
end Go.Proofs.YtmiioebapckcoaaGreatDoor
end
