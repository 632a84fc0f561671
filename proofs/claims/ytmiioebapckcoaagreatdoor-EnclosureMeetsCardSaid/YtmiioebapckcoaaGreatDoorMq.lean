/- Part 17 of a proof: the small semantics, its soundness, the functions of the program in it, and the law. -/
import Derived.Test.YtmiioebapckcoaaGreatDoorMp
set_option linter.unusedVariables false
set_option linter.unusedSimpArgs false
section
/- The walk of EnclosureMeets. Printed by wip/tools/mkMeets.py. -/
namespace Go.Proofs.YtmiioebapckcoaaGreatDoor
open Go Num
set_option maxRecDepth 4000

theorem meets_r0 (H : Hp) (x0 x1 x2 x3 y0 y1 y2 y3 z0 z1 : Int) : evI cS (nthC 0 b5) none [(0, .d (.agg [.i .i64 x0, .i .i64 x1, .i .i64 x2, .i .i64 x3])), (1, .d (.agg [.i .i64 y0, .i .i64 y1, .i .i64 y2, .i .i64 y3])), (2, .d (.agg [.i .i64 z0, .i .i64 z1]))] H = some (.nor, [(3, .p H.length 0), (4, .p (H.length + 1) 0), (5, .p (H.length + 1 + 1) 0)], .box 43 [.d (.i .i64 z0), .d (.i .i64 z1)] :: .box 22 [.d (.i .i64 y0), .d (.i .i64 y1), .d (.i .i64 y2), .d (.i .i64 y3)] :: .box 22 [.d (.i .i64 x0), .d (.i .i64 x1), .d (.i .i64 x2), .d (.i .i64 x3)] :: H) := by
  simp [nthC, b5, put, eset, eget, D.cells, V.cells, allD, hget, hset, fz, List.zipIdx_cons, List.zipIdx_nil, setParts, chunk1, allCellsD, eqKs, eqCell]
theorem meets_r1 {H : Hp} {o : EO} (g : Glb H) (e : ErrAt H o) (v3 v4 v5 : V) : evI cS (nthC 1 b5) none [(3, v3), (4, v4), (5, v5)] H = some (.nor, [(3, v3), (4, v4), (5, v5), (7, .d (.b true))], H) := by
  have f0 := sane_ok g e
  simp [nthC, b5, put, eset, eget, D.cells, V.cells, allD, hget, hset, fz, List.zipIdx_cons, List.zipIdx_nil, setParts, chunk1, allCellsD, eqKs, eqCell, f0]
theorem meets_r2 {H : Hp} {i : Nat} {c0 c1 c2 c3 : Int} (gi : hget H i = some (.box 22 [.d (.i .i64 c0), .d (.i .i64 c1), .d (.i .i64 c2), .d (.i .i64 c3)])) {a b c d : List UInt8} (hl : callV cS false (fnV 19) [.d (.agg [.i .i64 c0, .i .i64 c1, .i .i64 c2, .i .i64 c3])] H = some (.val (.d (.agg [.s a, .s b, .s c, .s d])), H)) (v4 v5 v7 : V) :
    evI cS (nthC 2 b5) none [(3, .p i 0), (4, v4), (5, v5), (7, v7)] H = some (.nor, [(4, v4), (5, v5), (7, v7), (8, .p H.length 0)], .box 29 [.d (.s a), .d (.s b), .d (.s c), .d (.s d)] :: H) := by
  simp [nthC, b5, put, eset, eget, D.cells, V.cells, allD, hget, hset, fz, List.zipIdx_cons, List.zipIdx_nil, setParts, chunk1, allCellsD, eqKs, eqCell, gi, hl]
theorem meets_r3 {H : Hp} {i : Nat} {c0 c1 c2 c3 : Int} (gi : hget H i = some (.box 22 [.d (.i .i64 c0), .d (.i .i64 c1), .d (.i .i64 c2), .d (.i .i64 c3)])) {a b c d : List UInt8} (hl : callV cS false (fnV 19) [.d (.agg [.i .i64 c0, .i .i64 c1, .i .i64 c2, .i .i64 c3])] H = some (.val (.d (.agg [.s a, .s b, .s c, .s d])), H)) (v5 v7 v8 : V) :
    evI cS (nthC 3 b5) none [(4, .p i 0), (5, v5), (7, v7), (8, v8)] H = some (.nor, [(5, v5), (7, v7), (8, v8), (9, .p H.length 0)], .box 29 [.d (.s a), .d (.s b), .d (.s c), .d (.s d)] :: H) := by
  simp [nthC, b5, put, eset, eget, D.cells, V.cells, allD, hget, hset, fz, List.zipIdx_cons, List.zipIdx_nil, setParts, chunk1, allCellsD, eqKs, eqCell, gi, hl]
theorem meets_r4 {H : Hp} {i : Nat} {c0 c1 : Int} (gi : hget H i = some (.box 43 [.d (.i .i64 c0), .d (.i .i64 c1)])) {a b : List UInt8} (hl : callV cS false (fnV 25) [.d (.agg [.i .i64 c0, .i .i64 c1])] H = some (.val (.d (.agg [.s a, .s b])), H)) (v7 v8 v9 : V) :
    evI cS (nthC 4 b5) none [(5, .p i 0), (7, v7), (8, v8), (9, v9)] H = some (.nor, [(7, v7), (8, v8), (9, v9), (10, .p H.length 0)], .box 26 [.d (.s a), .d (.s b)] :: H) := by
  simp [nthC, b5, put, eset, eget, D.cells, V.cells, allD, hget, hset, fz, List.zipIdx_cons, List.zipIdx_nil, setParts, chunk1, allCellsD, eqKs, eqCell, gi, hl]
theorem meets_r5 {H : Hp} {i8 i9 : Nat} {a b c d a' b' c' d' s t u v : List UInt8} {e : Int} (g8 : hget H i8 = some (.box 29 [.d (.s a), .d (.s b), .d (.s c), .d (.s d)])) (g9 : hget H i9 = some (.box 29 [.d (.s a'), .d (.s b'), .d (.s c'), .d (.s d')])) (hc : callV cS false (fnV 26) [.d (.agg [.s a, .s b, .s c, .s d]), .d (.agg [.s a', .s b', .s c', .s d'])] H = some (.val (.d (.tup [(.agg [.s s, .s t, .s u, .s v]), .i .i64 e])), H)) (v7 v10 : V) :
    evI cS (nthC 5 b5) none [(7, v7), (8, .p i8 0), (9, .p i9 0), (10, v10)] H = some (.nor, [(7, v7), (8, .p i8 0), (9, .p i9 0), (10, v10), (11, .p H.length 0), (12, .d (.i .i64 e))], .box 29 [.d (.s s), .d (.s t), .d (.s u), .d (.s v)] :: H) := by
  simp [nthC, b5, put, eset, eget, D.cells, V.cells, allD, hget, hset, fz, List.zipIdx_cons, List.zipIdx_nil, setParts, chunk1, allCellsD, eqKs, eqCell, g8, g9, hc]
theorem meets_r6 {H : Hp} {i8 i9 : Nat} {a b c d a' b' c' d' s t u v : List UInt8} {e : Int} (g8 : hget H i8 = some (.box 29 [.d (.s a), .d (.s b), .d (.s c), .d (.s d)])) (g9 : hget H i9 = some (.box 29 [.d (.s a'), .d (.s b'), .d (.s c'), .d (.s d')])) (hc : callV cS false (fnV 27) [.d (.agg [.s a, .s b, .s c, .s d]), .d (.agg [.s a', .s b', .s c', .s d'])] H = some (.val (.d (.tup [(.agg [.s s, .s t, .s u, .s v]), .i .i64 e])), H)) (v7 v10 v11 v12 : V) :
    evI cS (nthC 6 b5) none [(7, v7), (8, .p i8 0), (9, .p i9 0), (10, v10), (11, v11), (12, v12)] H = some (.nor, [(7, v7), (8, .p i8 0), (9, .p i9 0), (10, v10), (11, v11), (12, v12), (13, .p H.length 0), (14, .d (.i .i64 e))], .box 29 [.d (.s s), .d (.s t), .d (.s u), .d (.s v)] :: H) := by
  simp [nthC, b5, put, eset, eget, D.cells, V.cells, allD, hget, hset, fz, List.zipIdx_cons, List.zipIdx_nil, setParts, chunk1, allCellsD, eqKs, eqCell, g8, g9, hc]
theorem meets_r7 {H : Hp} {i8 i9 i10 : Nat} {a b c d a' b' c' d' s t : List UInt8} {k1 k2 : Bool} (g8 : hget H i8 = some (.box 29 [.d (.s a), .d (.s b), .d (.s c), .d (.s d)])) (g9 : hget H i9 = some (.box 29 [.d (.s a'), .d (.s b'), .d (.s c'), .d (.s d')])) (g10 : hget H i10 = some (.box 26 [.d (.s s), .d (.s t)]))
    (h1 : callV cS false (fnV 23) [.d (.agg [.s a, .s b, .s c, .s d]), .d (.agg [.s s, .s t])] H = some (.val (.d (.b k1)), H)) (h2 : callV cS false (fnV 23) [.d (.agg [.s a', .s b', .s c', .s d']), .d (.agg [.s s, .s t])] H = some (.val (.d (.b k2)), H)) (v7 v11 v12 v13 v14 : V) :
    evI cS (nthC 7 b5) none [(7, v7), (8, .p i8 0), (9, .p i9 0), (10, .p i10 0), (11, v11), (12, v12), (13, v13), (14, v14)] H = some (.nor, [(7, v7), (8, .p i8 0), (9, .p i9 0), (10, .p i10 0), (11, v11), (12, v12), (13, v13), (14, v14), (15, .d (.b (k1 && k2)))], H) := by
  cases k1 <;> simp [nthC, b5, put, eset, eget, D.cells, V.cells, allD, hget, hset, fz, List.zipIdx_cons, List.zipIdx_nil, setParts, chunk1, allCellsD, eqKs, eqCell, g8, g9, g10, h1, h2]
theorem meets_r8 {H : Hp} {i8 i9 : Nat} {a b c d a' b' c' d' : List UInt8} {k1 k2 : Int} (g8 : hget H i8 = some (.box 29 [.d (.s a), .d (.s b), .d (.s c), .d (.s d)])) (g9 : hget H i9 = some (.box 29 [.d (.s a'), .d (.s b'), .d (.s c'), .d (.s d')]))
    (h1 : callV cS false (fnV 13) [.d (.agg [.s a, .s b]), .d (.agg [.s c', .s d'])] H = some (.val (.d (.i .i64 k1)), H)) (h2 : callV cS false (fnV 13) [.d (.agg [.s a', .s b']), .d (.agg [.s c, .s d])] H = some (.val (.d (.i .i64 k2)), H)) (v7 v10 v11 v12 v13 v14 v15 : V) :
    evI cS (nthC 8 b5) none [(7, v7), (8, .p i8 0), (9, .p i9 0), (10, v10), (11, v11), (12, v12), (13, v13), (14, v14), (15, v15)] H = some (.nor, [(7, v7), (8, .p i8 0), (9, .p i9 0), (10, v10), (11, v11), (12, v12), (13, v13), (14, v14), (15, v15), (16, .d (.b (decide (k1 ≤ 0) && decide (k2 ≤ 0))))], H) := by
  by_cases hk : k1 ≤ 0 <;> simp [nthC, b5, put, eset, eget, D.cells, V.cells, allD, hget, hset, fz, List.zipIdx_cons, List.zipIdx_nil, setParts, chunk1, allCellsD, eqKs, eqCell, g8, g9, h1, h2, hk]
set_option maxHeartbeats 2000000 in
theorem meets_r9 {H : Hp} {i8 i9 i13 : Nat} {a b c d a' b' c' d' s t u v : List UInt8} (g8 : hget H i8 = some (.box 29 [.d (.s a), .d (.s b), .d (.s c), .d (.s d)])) (g9 : hget H i9 = some (.box 29 [.d (.s a'), .d (.s b'), .d (.s c'), .d (.s d')])) (g13 : hget H i13 = some (.box 29 [.d (.s s), .d (.s t), .d (.s u), .d (.s v)]))
    (h1 : callV cS false (fnV 15) [.d (.agg [.s a, .s b, .s c, .s d]), .d (.agg [.s s, .s t, .s u, .s v])] H = some (.val (.d (.b true)), H)) (h2 : callV cS false (fnV 15) [.d (.agg [.s a', .s b', .s c', .s d']), .d (.agg [.s s, .s t, .s u, .s v])] H = some (.val (.d (.b true)), H))
    (hlo : (s = a ∧ t = b) ∨ ((s == a && t == b) = false ∧ s = a' ∧ t = b')) (hhi : (u = c ∧ v = d) ∨ ((u == c && v == d) = false ∧ u = c' ∧ v = d')) (v7 v10 v11 v12 v15 v16 : V) :
    evI cS (nthC 9 b5) none [(7, v7), (8, .p i8 0), (9, .p i9 0), (10, v10), (11, v11), (12, v12), (13, .p i13 0), (14, .d (.i .i64 0)), (15, v15), (16, v16)] H = some (.nor, [(7, v7), (10, v10), (11, v11), (12, v12), (15, v15), (16, v16), (99, .d (.b false))], H) := by
  rcases hlo with ⟨rfl, rfl⟩ | ⟨k1, rfl, rfl⟩
  · rcases hhi with ⟨rfl, rfl⟩ | ⟨k2, rfl, rfl⟩
    · simp [nthC, b5, put, eset, eget, D.cells, V.cells, allD, hget, hset, fz, List.zipIdx_cons, List.zipIdx_nil, setParts, chunk1, allCellsD, eqKs, eqCell, g8, g9, g13, h1, h2]
    · simp [nthC, b5, put, eset, eget, D.cells, V.cells, allD, hget, hset, fz, List.zipIdx_cons, List.zipIdx_nil, setParts, chunk1, allCellsD, eqKs, eqCell, g8, g9, g13, h1, h2, k2]
  · rcases hhi with ⟨rfl, rfl⟩ | ⟨k2, rfl, rfl⟩
    · simp [nthC, b5, put, eset, eget, D.cells, V.cells, allD, hget, hset, fz, List.zipIdx_cons, List.zipIdx_nil, setParts, chunk1, allCellsD, eqKs, eqCell, g8, g9, g13, h1, h2, k1]
    · simp [nthC, b5, put, eset, eget, D.cells, V.cells, allD, hget, hset, fz, List.zipIdx_cons, List.zipIdx_nil, setParts, chunk1, allCellsD, eqKs, eqCell, g8, g9, g13, h1, h2, k1, k2]
theorem meets_r10 {H : Hp} {i10 i11 : Nat} {a b c d s t : List UInt8} {e : Int} {th bo : Bool} (g11 : hget H i11 = some (.box 29 [.d (.s a), .d (.s b), .d (.s c), .d (.s d)])) (g10 : hget H i10 = some (.box 26 [.d (.s s), .d (.s t)])) (he : (e == 0) = th)
    (hc : callV cS false (fnV 23) [.d (.agg [.s a, .s b, .s c, .s d]), .d (.agg [.s s, .s t])] H = some (.val (.d (.b bo)), H)) (v99 : V) :
    evI cS (nthC 10 b5) none [(7, .d (.b true)), (10, .p i10 0), (11, .p i11 0), (12, .d (.i .i64 e)), (15, .d (.b bo)), (16, .d (.b th)), (99, v99)] H = some (.nor, [(6, .d (.b true))], H) := by
  subst he
  by_cases h0 : e = 0
  · subst h0
    simp [nthC, b5, put, eset, eget, D.cells, V.cells, allD, hget, hset, fz, List.zipIdx_cons, List.zipIdx_nil, setParts, chunk1, allCellsD, eqKs, eqCell, g10, g11, hc]
  · have hb : (e == 0) = false := by rw [beq_eq_false_iff_ne]; exact h0
    rw [hb]
    simp [nthC, b5, put, eset, eget, D.cells, V.cells, allD, hget, hset, fz, List.zipIdx_cons, List.zipIdx_nil, setParts, chunk1, allCellsD, eqKs, eqCell, g10, g11, hc, hb]
end Go.Proofs.YtmiioebapckcoaaGreatDoor
end
section
/- EnclosureMeets: what the calls answer, and the law. -/
namespace Go.Proofs.YtmiioebapckcoaaGreatDoor
open Go Num
set_option maxRecDepth 4000

theorem hull_lo {a1 a2 b1 b2 : Rat} (ha : a1 ≤ a2) (hb : b1 ≤ b2) : [a2, b1, b2].foldl minQ a1 = if b1 < a1 then b1 else a1 := by
  simp only [List.foldl_cons, List.foldl_nil, minQ_eq]
  grind
theorem hull_hi {a1 a2 b1 b2 : Rat} (ha : a1 ≤ a2) (hb : b1 ≤ b2) : [a2, b1, b2].foldl maxQ a1 = if a2 < b2 then b2 else a2 := by
  simp only [List.foldl_cons, List.foldl_nil, maxQ_eq]
  grind
theorem texts_ne {p q : Rat} (h : p ≠ q) : (txt p.num == txt q.num && txt p.den == txt q.den) = false := by
  cases hb : (txt p.num == txt q.num && txt p.den == txt q.den) with
  | false => rfl
  | true =>
    simp only [Bool.and_eq_true, beq_iff_eq] at hb
    have h1 := txt_inj hb.1
    have h2 := txt_inj hb.2
    exact absurd (Rat.ext h1 (by omega)) h
theorem hull_val {a1 a2 b1 b2 : Rat} (f1 : RFits a1) (f2 : RFits a2) (f3 : RFits b1) (f4 : RFits b2) (ha : a1 ≤ a2) (hb : b1 ≤ b2) {h : Hp} {o : EO} (g : Glb h) (e : ErrAt h o) :
    callV cS false (fnV 27) [.d (dI4 a1 a2), .d (dI4 b1 b2)] h = some (.val (.d (.tup [dI4 (if b1 < a1 then b1 else a1) (if a2 < b2 then b2 else a2), .i .i64 0])), h) := by
  have := EHull_ok (qV a1 a2) (qV b1 b2) g e
  have hx : hullX (qV a1 a2) (qV b1 b2) = some (dI4 (if b1 < a1 then b1 else a1) (if a2 < b2 then b2 else a2)) := by
    unfold hullX
    rw [VQ_qV f1 f2 ha, VQ_qV f3 f4 hb]
    simp only [hullQ]
    rw [hull_lo ha hb, hull_hi ha hb]
  rw [hx, workD_two (qV_ok f1 f2 ha) (qV_ok f3 f4 hb)] at this
  exact this
/-- what two intervals have in common, and whether a fraction is in it -/
theorem meet_val {a1 a2 b1 b2 r : Rat} (f1 : RFits a1) (f2 : RFits a2) (f3 : RFits b1) (f4 : RFits b2) (fr : RFits r) (ha : a1 ≤ a2) (hb : b1 ≤ b2) : ∃ s t u v e,
    (∀ h o, Glb h → ErrAt h o → callV cS false (fnV 26) [.d (dI4 a1 a2), .d (dI4 b1 b2)] h = some (.val (.d (.tup [(.agg [.s s, .s t, .s u, .s v]), .i .i64 e])), h)) ∧
    (e == 0) = (decide (cmpQ a1 b2 ≤ 0) && decide (cmpQ b1 a2 ≤ 0)) ∧
    ∀ h, Glb h → callV cS false (fnV 23) [.d (.agg [.s s, .s t, .s u, .s v]), .d (.agg [.s (txt r.num), .s (txt r.den)])] h = some (.val (.d (.b ((decide (a1 ≤ r) && decide (r ≤ a2)) && (decide (b1 ≤ r) && decide (r ≤ b2))))), h) := by
  have hm := fun h o (g : Glb h) (e : ErrAt h o) => EMeet_ok (qV a1 a2) (qV b1 b2) g e
  have hx : meetX (qV a1 a2) (qV b1 b2) = if maxQ a1 b1 ≤ minQ a2 b2 then some (dI4 (maxQ a1 b1) (minQ a2 b2)) else none := by
    unfold meetX
    rw [VQ_qV f1 f2 ha, VQ_qV f3 f4 hb]
    simp only [meetO]
    by_cases h : maxQ a1 b1 ≤ minQ a2 b2
    · rw [if_pos h, if_pos (cmpQ_le.2 h)]
    · rw [if_neg h, if_neg (fun k => h (cmpQ_le.1 k))]
  rw [hx] at hm
  have e1 : decide (cmpQ a1 b2 ≤ 0) = decide (a1 ≤ b2) := decide_eq_decide.2 cmpQ_le
  have e2 : decide (cmpQ b1 a2 ≤ 0) = decide (b1 ≤ a2) := decide_eq_decide.2 cmpQ_le
  rw [e1, e2]
  have mx := maxQ_eq a1 b1
  have mn := minQ_eq a2 b2
  have fmx : RFits (maxQ a1 b1) := by rw [mx]; split <;> assumption
  have fmn : RFits (minQ a2 b2) := by rw [mn]; split <;> assumption
  by_cases h : maxQ a1 b1 ≤ minQ a2 b2
  · rw [if_pos h, workD_two (qV_ok f1 f2 ha) (qV_ok f3 f4 hb)] at hm
    refine ⟨_, _, _, _, 0, hm, ?_, fun h' g => ?_⟩
    · have k1 : a1 ≤ b2 := by grind
      have k2 : b1 ≤ a2 := by grind
      rw [decide_eq_true k1, decide_eq_true k2]; rfl
    · have hc := contains_val fmx fmn fr h g
      have hb2 : (decide (maxQ a1 b1 ≤ r) && decide (r ≤ minQ a2 b2)) = ((decide (a1 ≤ r) && decide (r ≤ a2)) && (decide (b1 ≤ r) && decide (r ≤ b2))) := by
        rw [Bool.eq_iff_iff]
        simp only [Bool.and_eq_true, decide_eq_true_eq]
        rw [mx, mn]
        grind
      rw [hb2] at hc
      exact hc
  · rw [if_neg h, workD_none] at hm
    refine ⟨[], [], [], [], 50, hm, ?_, fun h' g => ?_⟩
    · have : ¬ (a1 ≤ b2 ∧ b1 ≤ a2) := by
        rw [mx, mn] at h
        grind
      rw [← Bool.decide_and, decide_eq_false this]; rfl
    · rw [contains_zero r g]
      have : ¬ ((a1 ≤ r ∧ r ≤ a2) ∧ (b1 ≤ r ∧ r ≤ b2)) := by
        rw [mx, mn] at h
        grind
      rw [← Bool.decide_and, ← Bool.decide_and, ← Bool.decide_and, decide_eq_false this]
theorem within_of {lo hi L U : Rat} (fl : RFits lo) (fh : RFits hi) (fL : RFits L) (fU : RFits U) (h1 : L ≤ lo) (h2 : lo ≤ hi) (h3 : hi ≤ U) {h : Hp} (g : Glb h) :
    callV cS false (fnV 15) [.d (dI4 lo hi), .d (dI4 L U)] h = some (.val (.d (.b true)), h) := within_val fl fh fL fU h1 h2 h3 g
set_option maxHeartbeats 1000000 in
theorem Meets_ok (x0 x1 x2 x3 y0 y1 y2 y3 z0 z1 : Int) (hx0 : I64 x0) (hx1 : I64 x1) (hx2 : I64 x2) (hx3 : I64 x3) (hy0 : I64 y0) (hy1 : I64 y1) (hy2 : I64 y2) (hy3 : I64 y3) (hz0 : I64 z0) (hz1 : I64 z1) {H : Hp} {o : EO} (hG : Glb H) (hE : ErrAt H o) :
    callV cS false (fnV 5) [.d (.agg [.i .i64 x0, .i .i64 x1, .i .i64 x2, .i .i64 x3]), .d (.agg [.i .i64 y0, .i .i64 y1, .i .i64 y2, .i .i64 y3]), .d (.agg [.i .i64 z0, .i .i64 z1])] H = some (.val (.d (.b true)), H) := by
  rw [callV_fn (sf := c5) rfl rfl rfl rfl]
  have hb : b5 = .seq (nthC 0 b5) (.seq (nthC 1 b5) (.seq (nthC 2 b5) (.seq (nthC 3 b5) (.seq (nthC 4 b5) (.seq (nthC 5 b5) (.seq (nthC 6 b5) (.seq (nthC 7 b5) (.seq (nthC 8 b5) (.seq (nthC 9 b5) (.seq (nthC 10 b5) .ret)))))))))) := rfl
  have ma := Made_ok x0 x1 x2 x3 hx0 hx1 hx2 hx3
  have mb := Made_ok y0 y1 y2 y3 hy0 hy1 hy2 hy3
  have mr := Small_ok z0 z1 hz0 hz1
  have la := made_le x0 x1 x2 x3
  have lb := made_le y0 y1 y2 y3
  obtain ⟨sa1, sa2⟩ := made_sm x0 x1 x2 x3
  obtain ⟨sb1, sb2⟩ := made_sm y0 y1 y2 y3
  have fr := smallQ_fits z0 z1
  generalize madeLo x0 x1 x2 x3 = a1 at *
  generalize madeHi x0 x1 x2 x3 = a2 at *
  generalize madeLo y0 y1 y2 y3 = b1 at *
  generalize madeHi y0 y1 y2 y3 = b2 at *
  generalize smallQ z0 z1 = r at *
  have sf : ∀ {q : Rat}, q.num.natAbs ≤ 999 ∧ q.den ≤ 60 → RFits q := fun {q} h => Sm.fits (by simp only [Sm, Bool.and_eq_true, decide_eq_true_eq]; omega)
  have f1 := sf sa1
  have f2 := sf sa2
  have f3 := sf sb1
  have f4 := sf sb2
  obtain ⟨s, t, u, v, e, me, me0, mc⟩ := meet_val f1 f2 f3 f4 fr la lb
  have hv := fun (h : Hp) (g : Glb h) (e : ErrAt h o) => hull_val f1 f2 f3 f4 la lb g e
  obtain ⟨lo, hlo⟩ : ∃ lo, lo = if b1 < a1 then b1 else a1 := ⟨_, rfl⟩
  obtain ⟨hi, hhi⟩ : ∃ hi, hi = if a2 < b2 then b2 else a2 := ⟨_, rfl⟩
  rw [← hlo, ← hhi] at hv
  have flo : RFits lo := by rw [hlo]; split <;> assumption
  have fhi : RFits hi := by rw [hhi]; split <;> assumption
  have wa := fun (h : Hp) (g : Glb h) => within_of f1 f2 flo fhi (show lo ≤ a1 by grind) la (show a2 ≤ hi by grind) g
  have wb := fun (h : Hp) (g : Glb h) => within_of f3 f4 flo fhi (show lo ≤ b1 by grind) lb (show b2 ≤ hi by grind) g
  have tlo : (txt lo.num = txt a1.num ∧ txt (lo.den : Int) = txt (a1.den : Int)) ∨ ((txt lo.num == txt a1.num && txt (lo.den : Int) == txt (a1.den : Int)) = false ∧ txt lo.num = txt b1.num ∧ txt (lo.den : Int) = txt (b1.den : Int)) := by
    by_cases h : b1 < a1
    · rw [if_pos h] at hlo
      subst hlo
      exact .inr ⟨texts_ne (by grind), rfl, rfl⟩
    · rw [if_neg h] at hlo
      subst hlo
      exact .inl ⟨rfl, rfl⟩
  have thi : (txt hi.num = txt a2.num ∧ txt (hi.den : Int) = txt (a2.den : Int)) ∨ ((txt hi.num == txt a2.num && txt (hi.den : Int) == txt (a2.den : Int)) = false ∧ txt hi.num = txt b2.num ∧ txt (hi.den : Int) = txt (b2.den : Int)) := by
    by_cases h : a2 < b2
    · rw [if_pos h] at hhi
      subst hhi
      exact .inr ⟨texts_ne (by grind), rfl, rfl⟩
    · rw [if_neg h] at hhi
      subst hhi
      exact .inl ⟨rfl, rfl⟩
  have ca := fun (h : Hp) (g : Glb h) => contains_val f1 f2 fr la g
  have cb := fun (h : Hp) (g : Glb h) => contains_val f3 f4 fr lb g
  have p1 := fun (h : Hp) (g : Glb h) => compare_val f1 f4 g
  have p2 := fun (h : Hp) (g : Glb h) => compare_val f3 f2 g
  simp only [dI4, dR] at ma mb mr me hv wa wb ca cb
  have up : ∀ {h h' : Hp} {x : Ob} {i : Nat} {y : Ob}, h' = x :: h → hget h i = some y → hget h' i = some y := fun {h h' x i y} hh hg => by
    have := hget_lt' hg
    rw [hh]; unfold hget; rw [if_neg (by omega)]; exact hg
  have top : ∀ {h h' : Hp} {x : Ob}, h' = x :: h → hget h' h.length = some x := fun {h h' x} hh => by rw [hh]; unfold hget; rw [if_pos rfl]
  obtain ⟨hA, ehA⟩ : ∃ hA : Hp, hA = .box 43 [.d (.i .i64 z0), .d (.i .i64 z1)] :: .box 22 [.d (.i .i64 y0), .d (.i .i64 y1), .d (.i .i64 y2), .d (.i .i64 y3)] :: .box 22 [.d (.i .i64 x0), .d (.i .i64 x1), .d (.i .i64 x2), .d (.i .i64 x3)] :: H := ⟨_, rfl⟩
  obtain ⟨h8, eh8⟩ : ∃ h8 : Hp, h8 = .box 29 [.d (.s (txt a1.num)), .d (.s (txt a1.den)), .d (.s (txt a2.num)), .d (.s (txt a2.den))] :: hA := ⟨_, rfl⟩
  obtain ⟨h9, eh9⟩ : ∃ h9 : Hp, h9 = .box 29 [.d (.s (txt b1.num)), .d (.s (txt b1.den)), .d (.s (txt b2.num)), .d (.s (txt b2.den))] :: h8 := ⟨_, rfl⟩
  obtain ⟨h10, eh10⟩ : ∃ h10 : Hp, h10 = .box 26 [.d (.s (txt r.num)), .d (.s (txt r.den))] :: h9 := ⟨_, rfl⟩
  obtain ⟨h11, eh11⟩ : ∃ h11 : Hp, h11 = .box 29 [.d (.s s), .d (.s t), .d (.s u), .d (.s v)] :: h10 := ⟨_, rfl⟩
  obtain ⟨h13, eh13⟩ : ∃ h13 : Hp, h13 = .box 29 [.d (.s (txt lo.num)), .d (.s (txt lo.den)), .d (.s (txt hi.num)), .d (.s (txt hi.den))] :: h11 := ⟨_, rfl⟩
  have glA : Glb hA := by rw [ehA]; exact ((hG.cons _).cons _).cons _
  have erA : ErrAt hA o := by rw [ehA]; exact ((hE.cons _).cons _).cons _
  have gl8 : Glb h8 := by rw [eh8]; exact glA.cons _
  have gl9 : Glb h9 := by rw [eh9]; exact gl8.cons _
  have gl10 : Glb h10 := by rw [eh10]; exact gl9.cons _
  have gl11 : Glb h11 := by rw [eh11]; exact gl10.cons _
  have gl13 : Glb h13 := by rw [eh13]; exact gl11.cons _
  have er8 : ErrAt h8 o := by rw [eh8]; exact erA.cons _
  have er9 : ErrAt h9 o := by rw [eh9]; exact er8.cons _
  have er10 : ErrAt h10 o := by rw [eh10]; exact er9.cons _
  have er11 : ErrAt h11 o := by rw [eh11]; exact er10.cons _
  have a3 : hget hA H.length = some (.box 22 [.d (.i .i64 x0), .d (.i .i64 x1), .d (.i .i64 x2), .d (.i .i64 x3)]) := by rw [ehA]; simp [put, eset, eget, D.cells, V.cells, allD, hget, hset, fz, List.zipIdx_cons, List.zipIdx_nil]
  have a4 : hget hA (H.length + 1) = some (.box 22 [.d (.i .i64 y0), .d (.i .i64 y1), .d (.i .i64 y2), .d (.i .i64 y3)]) := by rw [ehA]; simp [put, eset, eget, D.cells, V.cells, allD, hget, hset, fz, List.zipIdx_cons, List.zipIdx_nil]
  have a5 : hget hA (H.length + 1 + 1) = some (.box 43 [.d (.i .i64 z0), .d (.i .i64 z1)]) := by rw [ehA]; simp [put, eset, eget, D.cells, V.cells, allD, hget, hset, fz, List.zipIdx_cons, List.zipIdx_nil]
  have a4' := up eh8 a4
  have a5' := up eh9 (up eh8 a5)
  have b8 := up eh10 (up eh9 (top eh8))
  have b9 := up eh10 (top eh9)
  have c8 := up eh11 b8
  have c9 := up eh11 b9
  have d8 := up eh13 c8
  have d9 := up eh13 c9
  have d10 := up eh13 (up eh11 (top eh10))
  have d11 := up eh13 (top eh11)
  have d13 := top eh13
  have q0 := meets_r0 H x0 x1 x2 x3 y0 y1 y2 y3 z0 z1
  rw [← ehA] at q0
  have q1 := meets_r1 glA erA (.p H.length 0) (.p (H.length + 1) 0) (.p (H.length + 1 + 1) 0)
  have q2 := meets_r2 a3 (ma hA) (.p (H.length + 1) 0) (.p (H.length + 1 + 1) 0) (.d (.b true))
  rw [← eh8] at q2
  have q3 := meets_r3 a4' (mb h8) (.p (H.length + 1 + 1) 0) (.d (.b true)) (.p hA.length 0)
  rw [← eh9] at q3
  have q4 := meets_r4 a5' (mr h9) (.d (.b true)) (.p hA.length 0) (.p h8.length 0)
  rw [← eh10] at q4
  have q5 := meets_r5 b8 b9 (me h10 o gl10 er10) (.d (.b true)) (.p h9.length 0)
  rw [← eh11] at q5
  have q6 := meets_r6 c8 c9 (hv h11 gl11 er11) (.d (.b true)) (.p h9.length 0) (.p h10.length 0) (.d (.i .i64 e))
  rw [← eh13] at q6
  have q7 := meets_r7 d8 d9 d10 (ca h13 gl13) (cb h13 gl13) (.d (.b true)) (.p h10.length 0) (.d (.i .i64 e)) (.p h11.length 0) (.d (.i .i64 0))
  have q8 := meets_r8 d8 d9 (p1 h13 gl13) (p2 h13 gl13) (.d (.b true)) (.p h9.length 0) (.p h10.length 0) (.d (.i .i64 e)) (.p h11.length 0) (.d (.i .i64 0)) (.d (.b ((decide (a1 ≤ r) && decide (r ≤ a2)) && (decide (b1 ≤ r) && decide (r ≤ b2)))))
  have q9 := meets_r9 d8 d9 d13 (wa h13 gl13) (wb h13 gl13) tlo thi (.d (.b true)) (.p h9.length 0) (.p h10.length 0) (.d (.i .i64 e)) (.d (.b ((decide (a1 ≤ r) && decide (r ≤ a2)) && (decide (b1 ≤ r) && decide (r ≤ b2))))) (.d (.b (decide (cmpQ a1 b2 ≤ 0) && decide (cmpQ b1 a2 ≤ 0))))
  have q10 := meets_r10 d11 d10 me0 (mc h13 gl13) (.d (.b false))
  have happ : ∃ L0, h13 = L0 ++ H := ⟨[_, _, _, _, _, _, _, _], by rw [eh13, eh11, eh10, eh9, eh8, ehA]; rfl⟩
  have hev : evI cS b5 none (enter [.d (.agg [.i .i64 x0, .i .i64 x1, .i .i64 x2, .i .i64 x3]), .d (.agg [.i .i64 y0, .i .i64 y1, .i .i64 y2, .i .i64 y3]), .d (.agg [.i .i64 z0, .i .i64 z1])]) H = some (.rt, [(6, .d (.b true))], h13) := by
    have hen : enter [.d (.agg [.i .i64 x0, .i .i64 x1, .i .i64 x2, .i .i64 x3]), .d (.agg [.i .i64 y0, .i .i64 y1, .i .i64 y2, .i .i64 y3]), .d (.agg [.i .i64 z0, .i .i64 z1])] = [(0, .d (.agg [.i .i64 x0, .i .i64 x1, .i .i64 x2, .i .i64 x3])), (1, .d (.agg [.i .i64 y0, .i .i64 y1, .i .i64 y2, .i .i64 y3])), (2, .d (.agg [.i .i64 z0, .i .i64 z1]))] := rfl
    rw [hen, hb, evI_seq, q0]
    simp only [thenR]
    rw [evI_seq, q1]
    simp only [thenR]
    rw [evI_seq, q2]
    simp only [thenR]
    rw [evI_seq, q3]
    simp only [thenR]
    rw [evI_seq, q4]
    simp only [thenR]
    rw [evI_seq, q5]
    simp only [thenR]
    rw [evI_seq, q6]
    simp only [thenR]
    rw [evI_seq, q7]
    simp only [thenR]
    rw [evI_seq, q8]
    simp only [thenR]
    rw [evI_seq, q9]
    simp only [thenR]
    rw [evI_seq, q10]
    simp only [thenR]
    rw [evI_ret]
  obtain ⟨L0, e0⟩ := happ
  rw [e0] at hev
  have hbd : c5.body = b5 := rfl
  simp only [List.map_nil, List.nil_append, List.append_nil, hbd, hev]
  have := fin_app L0 H (.b true)
  simp only [c5, outOf, resAll, resOf, resV, eget, mkTup]
  simpa using this
end Go.Proofs.YtmiioebapckcoaaGreatDoor
end
