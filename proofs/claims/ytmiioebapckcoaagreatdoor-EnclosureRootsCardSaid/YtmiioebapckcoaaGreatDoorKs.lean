/- Part 19 of a proof: the small semantics, its soundness, the functions of the program in it, and the law. -/
import Derived.Test.YtmiioebapckcoaaGreatDoorKr
set_option linter.unusedVariables false
set_option linter.unusedSimpArgs false
section
/- The law's pick. -/
namespace Go.Proofs.YtmiioebapckcoaaGreatDoor
open Go Num
set_option maxRecDepth 4000

theorem pick5_ok (x n : Int) (hx : I64 x) (hn : I64 n) (h0 : 0 < n) (H : Hp) : callV cS false (fnV 11) [.d (.i .i64 x),.d (.i .i64 n)] H = some (.val (.d (.i .i64 (pickI x n))),H) := by
  rw [callV_fn (sf := c11) rfl rfl rfl rfl]
  obtain ⟨a1,a2⟩ := hx
  obtain ⟨b1,b2⟩ := hn
  have hn0 : ¬ n = 0 := by omega
  have r0 := pickI_range x h0
  have r2 : IntKind.i64.wrap (pickI x n) = pickI x n := wr64 (by omega) (by omega)
  by_cases hneg : x < 0
  · have w1 : IntKind.i64.wrap (x + 1) = x + 1 := wr64 (by omega) (by omega)
    have w2 : IntKind.i64.wrap (-(x + 1)) = -(x + 1) := wr64 (by omega) (by omega)
    have r1 : (-(x + 1)).tmod n = pickI x n := by rw [Int.tmod_eq_emod_of_nonneg (by omega),pickI,if_pos hneg]
    obtain ⟨y,hy⟩ : ∃ y,y = -(x + 1) := ⟨_,rfl⟩
    rw [← hy] at w2 r1
    have hy' : y = -x + -1 := by omega
    simp [c11,b11,put,eset,eget,D.cells,V.cells,allD,hget,hset,fz,List.zipIdx_cons,List.zipIdx_nil,hneg,w1,hn0]
    rw [← hy,w2]
    simp [r1,r2]
  · have r1 : x.tmod n = pickI x n := by rw [Int.tmod_eq_emod_of_nonneg (by omega),pickI,if_neg hneg]
    simp [c11,b11,put,eset,eget,D.cells,V.cells,allD,hget,hset,fz,List.zipIdx_cons,List.zipIdx_nil,hneg,hn0,r1,r2]
end Go.Proofs.YtmiioebapckcoaaGreatDoor
end
section
/- Roots on a grid: how near they are. -/
namespace Go.Proofs.YtmiioebapckcoaaGreatDoor
open Go Num
set_option maxRecDepth 4000

theorem sq_le {x y : Rat} (hy : 0 ≤ y) (h : x * x ≤ y * y) : x ≤ y := by
  by_cases k : x ≤ y
  · exact k
  · exfalso
    have k' : y < x := by grind
    have p := Rat.mul_pos (show 0 < x - y by grind) (show 0 < x + y by grind)
    grind
theorem divInt_sq (m T : Int) : Rat.divInt m T * Rat.divInt m T = Rat.divInt (m * m) (T * T) := Rat.divInt_mul_divInt m m (d₁ := T) (d₂ := T)
theorem root_facts {T : Int} (hT : 0 < T) {q : Rat} (h0 : 0 ≤ q) : (0 ≤ rootM T q ∧ Rat.divInt (rootM T q) T * Rat.divInt (rootM T q) T ≤ q ∧ q < Rat.divInt (rootM T q + 1) T * Rat.divInt (rootM T q + 1) T) ∧
    (0 ≤ rootHi T q ∧ rootHi T q ≤ rootM T q + 1) ∧ q ≤ Rat.divInt (rootHi T q) T * Rat.divInt (rootHi T q) T ∧ (Rat.divInt (rootHi T q - 1) T < 0 ∨ Rat.divInt (rootHi T q - 1) T * Rat.divInt (rootHi T q - 1) T < q) := by
  have n0 : 0 ≤ q.num := Rat.num_nonneg.2 h0
  obtain ⟨s0,s1,s2⟩ := rootM_sq (T := T) n0
  have dp := den_pos q
  have hTT : 0 < T * T := Int.mul_pos hT hT
  have eN : q.num * (T * T) = q.num * T * T := (Int.mul_assoc _ _ _).symm
  have f1 : q.num * T * T / q.den * q.den ≤ q.num * T * T := Int.ediv_mul_le _ (by omega)
  have f2 : q.num * T * T < (q.num * T * T / q.den + 1) * q.den := Int.lt_ediv_add_one_mul_self _ dp
  have fm := Int.emod_add_mul_ediv (q.num * T * T) q.den
  have lt1 : ∀ {c : Int},q.num * T * T < c * q.den → q < Rat.divInt c (T * T) := fun {c} h => by
    rw [← Rat.not_le,divInt_le' hTT,eN]; omega
  have lt2 : ∀ {c : Int},c * q.den < q.num * T * T → Rat.divInt c (T * T) < q := fun {c} h => by
    rw [← Rat.not_le,le_divInt hTT,eN]; omega
  have hi := lt1 (Int.lt_of_lt_of_le f2 (Int.mul_le_mul_of_nonneg_right (show q.num * T * T / q.den + 1 ≤ (rootM T q + 1) * (rootM T q + 1) by omega) (by omega)))
  have hm := Int.mul_le_mul_of_nonneg_right s1 (show 0 ≤ (q.den : Int) by omega)
  refine ⟨⟨s0,?_,?_⟩,?_,?_,?_⟩
  · rw [divInt_sq,divInt_le' hTT,eN]; exact Int.le_trans hm f1
  · rw [divInt_sq]; exact hi
  · unfold rootHi; split <;> omega
  · unfold rootHi
    split
    · rename_i h
      simp only [rootE,Bool.and_eq_true,decide_eq_true_eq] at h
      rw [divInt_sq,le_divInt hTT,eN,h.2,Int.mul_comm (q.num * T * T / q.den)]
      rw [h.1] at fm
      omega
    · rw [divInt_sq]; exact Rat.le_of_lt hi
  · unfold rootHi
    split
    · rename_i h
      simp only [rootE,Bool.and_eq_true,decide_eq_true_eq] at h
      by_cases z : rootM T q = 0
      · left
        rw [z,← Rat.not_le]
        intro k
        have := Rat.num_nonneg.2 k
        have p1 := (divInt_parts (0 - 1) T hT).1
        rw [p1,show ((Int.gcd (0 - 1) T : Nat) : Int) = 1 by simp] at this
        simp at this
      · right
        rw [divInt_sq]
        apply lt2
        rw [h.1] at fm
        have hsq : (rootM T q - 1) * (rootM T q - 1) + 1 ≤ rootM T q * rootM T q := by
          have e : (rootM T q - 1) * (rootM T q - 1) = rootM T q * rootM T q - 2 * rootM T q + 1 := by grind
          omega
        have k1 := Int.mul_le_mul_of_nonneg_right hsq (show 0 ≤ (q.den : Int) by omega)
        rw [Int.add_mul,Int.one_mul] at k1
        omega
    · rename_i h
      right
      rw [show rootM T q + 1 - 1 = rootM T q by omega,divInt_sq]
      apply lt2
      simp only [rootE,Bool.and_eq_true,decide_eq_true_eq,not_and] at h
      have r0 := Int.emod_nonneg (q.num * T * T) (show (q.den : Int) ≠ 0 by omega)
      by_cases z : rootM T q * rootM T q = q.num * T * T / q.den
      · have : ¬ q.num * T * T % q.den = 0 := fun k => h k z
        rw [z,Int.mul_comm]
        omega
      · have k1 := Int.mul_le_mul_of_nonneg_right (show rootM T q * rootM T q + 1 ≤ q.num * T * T / q.den by omega) (show 0 ≤ (q.den : Int) by omega)
        rw [Int.add_mul,Int.one_mul] at k1
        omega
theorem step_add (m : Int) {T : Int} (hT : 0 < T) : Rat.divInt m T + Rat.divInt 1 T = Rat.divInt (m + 1) T := by
  have := Int.mul_pos hT hT
  rw [Rat.divInt_add_divInt _ _ (by omega) (by omega),Rat.divInt_eq_divInt_iff (by omega) (by omega)]
  grind
theorem step_sub (m : Int) {T : Int} (hT : 0 < T) : Rat.divInt m T - Rat.divInt 1 T = Rat.divInt (m - 1) T := by
  have := Int.mul_pos hT hT
  rw [Rat.divInt_sub_divInt _ _ (by omega) (by omega),Rat.divInt_eq_divInt_iff (by omega) (by omega)]
  grind
theorem tenP_12 {n : Int} (h : n ≤ 12) : tenP n ≤ 1000000000000 := by
  have : 10 ^ n.toNat ≤ 10 ^ 12 := Nat.pow_le_pow_right (by omega) (by omega)
  unfold tenP
  omega
theorem s3_div {k T : Int} (hk : k.natAbs ≤ 1000000000000000) (hT : 0 < T) (h12 : T ≤ 1000000000000) : S3 (Rat.divInt k T) := by
  obtain ⟨u1,u2⟩ := divInt_abs k hT
  exact ⟨by omega,by omega⟩
theorem rootM_small {T : Int} (hT : 0 < T) (h12 : T ≤ 1000000000000) {q : Rat} (h0 : 0 ≤ q) (hq : q.num.natAbs ≤ 999999) : rootM T q ≤ 999999999999999 := by
  have n0 : 0 ≤ q.num := Rat.num_nonneg.2 h0
  obtain ⟨s0,s1,_⟩ := rootM_sq (T := T) n0
  have t1 : T * T ≤ 1000000000000 * 1000000000000 := Int.mul_le_mul h12 h12 (by omega) (by omega)
  have t0 : 0 ≤ T * T := Int.mul_nonneg (by omega) (by omega)
  have t2 : q.num * (T * T) ≤ 999999 * (1000000000000 * 1000000000000) := Int.mul_le_mul (by omega) t1 t0 (by omega)
  have t3 : 0 ≤ q.num * (T * T) := Int.mul_nonneg n0 t0
  rw [← Int.mul_assoc] at t2 t3
  have t4 := Int.ediv_le_self (q.den : Int) t3
  by_cases h : rootM T q ≤ 999999999999999
  · exact h
  · have t5 : 1000000000000000 * 1000000000000000 ≤ rootM T q * rootM T q := Int.mul_le_mul (by omega) (by omega) (by omega) s0
    omega
theorem sqrt_fits {n : Int} (h12 : n ≤ 12) {q : Rat} (hq : S3 q) : Fits (q.num * tenP n) ∧ Fits (q.num * tenP n * tenP n) := by
  have h0 := tenP_pos n
  have h1 := tenP_12 h12
  have k1 := abs_mul hq.1 (show (tenP n).natAbs ≤ 1000000000000 by omega)
  have k2 := abs_mul k1 (show (tenP n).natAbs ≤ 1000000000000 by omega)
  exact ⟨big_fits (by omega),big_fits (by omega)⟩
/-- the ends of the roots -/
noncomputable def rtLo (n : Int) (p : Rat) : Rat := Rat.divInt (rootM (tenP n) p) (tenP n)
noncomputable def rtHi (n : Int) (q : Rat) : Rat := Rat.divInt (rootHi (tenP n) q) (tenP n)
theorem sqrt_val {n : Int} (h0 : 0 ≤ n) (h12 : n ≤ 12) {p q : Rat} (hp : S3 p) (hq : S3 q) (hl : p ≤ q) (h0p : 0 ≤ p) {h : Hp} {o : EO} (g : Glb h) (e : ErrAt h o) :
    callV cS false (fnV 22) [.d (qV p q).D,.d (.i .i64 n)] h = some (.val (.d (.tup [(qV (rtLo n p) (rtHi n q)).D,.i .i64 0])),h) := by
  have hx : sqrtX n (qV p q) = some (dI4 (rtLo n p) (rtHi n q)) := by
    unfold sqrtX
    rw [VQ_qV hp.fits hq.fits hl]
    simp only [sqrtO]
    rw [if_pos ⟨⟨h0,by omega⟩,cmpQ_ge.2 h0p,sqrt_fits h12 hp,sqrt_fits h12 hq⟩]
    rfl
  rw [ESqrt_ok _ n (by unfold I64; omega) g e,hx,workD_one (qV_ok hp.fits hq.fits hl)]
  rfl
theorem sqrt_neg {n : Int} (h0 : 0 ≤ n) (h12 : n ≤ 12) {p q : Rat} (hp : S3 p) (hq : S3 q) (hl : p ≤ q) (hn : p < 0) {h : Hp} {o : EO} (g : Glb h) (e : ErrAt h o) :
    callV cS false (fnV 22) [.d (qV p q).D,.d (.i .i64 n)] h = some (.val (.d errV),h) := by
  have hx : sqrtX n (qV p q) = none := by
    unfold sqrtX
    rw [VQ_qV hp.fits hq.fits hl]
    simp only [sqrtO]
    rw [if_neg (fun k => Rat.not_lt.2 (cmpQ_ge.1 k.2.1) hn)]
  rw [ESqrt_ok _ n (by unfold I64; omega) g e,hx,workD_none]
/-- what the law says of the roots of the interval from p to q: as fractions -/
theorem rt_facts {n : Int} (h12 : n ≤ 12) {q : Rat} (h0 : 0 ≤ q) (hq : q.num.natAbs ≤ 999999) :
    (0 ≤ rtLo n q ∧ rtLo n q * rtLo n q ≤ q ∧ q < (rtLo n q + Rat.divInt 1 (tenP n)) * (rtLo n q + Rat.divInt 1 (tenP n)) ∧ S3 (rtLo n q) ∧ S3 (rtLo n q + Rat.divInt 1 (tenP n))) ∧
    (0 ≤ rtHi n q ∧ q ≤ rtHi n q * rtHi n q ∧ (rtHi n q - Rat.divInt 1 (tenP n) < 0 ∨ (rtHi n q - Rat.divInt 1 (tenP n)) * (rtHi n q - Rat.divInt 1 (tenP n)) < q) ∧ S3 (rtHi n q) ∧ S3 (rtHi n q - Rat.divInt 1 (tenP n))) := by
  have hT := tenP_pos n
  have h1 := tenP_12 h12
  obtain ⟨⟨a1,a2,a3⟩,⟨b1,b2⟩,b3,b4⟩ := root_facts hT h0
  have sm := rootM_small hT h1 h0 hq
  unfold rtLo rtHi
  rw [step_add _ hT,step_sub _ hT]
  exact ⟨⟨Rat.divInt_nonneg a1 (by omega),a2,a3,s3_div (by omega) hT h1,s3_div (by omega) hT h1⟩,Rat.divInt_nonneg b1 (by omega),b3,b4,s3_div (by omega) hT h1,s3_div (by omega) hT h1⟩
end Go.Proofs.YtmiioebapckcoaaGreatDoor
end
section
/- The walk of EnclosureRoots. Printed by wip/tools/mkRoots.py. -/
namespace Go.Proofs.YtmiioebapckcoaaGreatDoor
open Go Num
set_option maxRecDepth 4000

theorem roots_0 (H : Hp) (x0 x1 x2 x3 y0 y1 y2 y3 m n : Int) : evI cS (nthC 0 b4) none [(0,.d (.agg [.i .i64 x0,.i .i64 x1,.i .i64 x2,.i .i64 x3])),(1,.d (.i .i64 m)),(2,.d (.i .i64 n)),(3,.d (.agg [.i .i64 y0,.i .i64 y1,.i .i64 y2,.i .i64 y3]))] H = some (.nor,[(1,.d (.i .i64 m)),(2,.d (.i .i64 n)),(4,.p H.length 0),(7,.p (H.length + 1) 0)],.box 22 [.d (.i .i64 y0),.d (.i .i64 y1),.d (.i .i64 y2),.d (.i .i64 y3)] :: .box 22 [.d (.i .i64 x0),.d (.i .i64 x1),.d (.i .i64 x2),.d (.i .i64 x3)] :: H) := by
  simp [nthC,b4,put,eset,eget,D.cells,V.cells,allD,hget,hset,fz,List.zipIdx_cons,List.zipIdx_nil,setParts,chunk1,allCellsD,eqKs,eqCell]
theorem roots_1 {H : Hp} {o : EO} (g : Glb H) (e : ErrAt H o) (v1 v2 v4 v7 : V) : evI cS (nthC 1 b4) none [(1,v1),(2,v2),(4,v4),(7,v7)] H = some (.nor,[(1,v1),(2,v2),(4,v4),(7,v7),(9,.d (.b true))],H) := by
  have f0 := sane_ok g e
  simp [nthC,b4,put,eset,eget,D.cells,V.cells,allD,hget,hset,fz,List.zipIdx_cons,List.zipIdx_nil,setParts,chunk1,allCellsD,eqKs,eqCell,f0]
theorem roots_2 {H : Hp} (n : Int) (hn : I64 n) (v1 v4 v7 v9 : V) : evI cS (nthC 2 b4) none [(1,v1),(2,.d (.i .i64 n)),(4,v4),(7,v7),(9,v9)] H = some (.nor,[(1,v1),(2,.d (.i .i64 (pickI n 13))),(4,v4),(7,v7),(9,v9)],H) := by
  have f0 := pick5_ok n 13 hn (by unfold I64; omega) (by omega) H
  simp [nthC,b4,put,eset,eget,D.cells,V.cells,allD,hget,hset,fz,List.zipIdx_cons,List.zipIdx_nil,setParts,chunk1,allCellsD,eqKs,eqCell,f0]
theorem roots_3 {H : Hp} {i : Nat} {c0 c1 c2 c3 : Int} {a b c d : List UInt8} (gi : hget H i = some (.box 22 [.d (.i .i64 c0),.d (.i .i64 c1),.d (.i .i64 c2),.d (.i .i64 c3)])) (hl : callV cS false (fnV 19) [.d (.agg [.i .i64 c0,.i .i64 c1,.i .i64 c2,.i .i64 c3])] H = some (.val (.d (.agg [.s a,.s b,.s c,.s d])),H)) (v1 v2 v7 v9 : V) : evI cS (nthC 3 b4) none [(1,v1),(2,v2),(4,.p i 0),(7,v7),(9,v9)] H = some (.nor,[(1,v1),(2,v2),(7,v7),(9,v9),(10,.p H.length 0)],(.box 29 [.d (.s a),.d (.s b),.d (.s c),.d (.s d)] :: H)) := by
  simp [nthC,b4,put,eset,eget,D.cells,V.cells,allD,hget,hset,fz,List.zipIdx_cons,List.zipIdx_nil,setParts,chunk1,allCellsD,eqKs,eqCell,gi,hl]
theorem roots_4a {H : Hp} {a b c d s t : List UInt8} {z : Int} (hr : callV cS false (fnV 16) [.d (.i .i64 0),.d (.i .i64 1)] (.box 29 [.d (.s a),.d (.s b),.d (.s c),.d (.s d)] :: H) = some (.val (.d (.agg [.s s,.s t])),(.box 29 [.d (.s a),.d (.s b),.d (.s c),.d (.s d)] :: H))) (hc : callV cS false (fnV 13) [.d (.agg [.s a,.s b]),.d (.agg [.s s,.s t])] (.box 29 [.d (.s a),.d (.s b),.d (.s c),.d (.s d)] :: H) = some (.val (.d (.i .i64 z)),(.box 29 [.d (.s a),.d (.s b),.d (.s c),.d (.s d)] :: H))) (hz : z < 0) (v1 v2 v7 v9 : V) : evI cS (nthC 4 b4) none [(1,v1),(2,v2),(7,v7),(9,v9),(10,.p H.length 0)] (.box 29 [.d (.s a),.d (.s b),.d (.s c),.d (.s d)] :: H) = some (.nor,[(1,v1),(2,v2),(7,v7),(9,v9),(10,.p H.length 0)],(.box 29 [.d (.s s),.d (.s t),.d (.s c),.d (.s d)] :: H)) := by
  simp [nthC,b4,put,eset,eget,D.cells,V.cells,allD,hget,hset,fz,List.zipIdx_cons,List.zipIdx_nil,setParts,chunk1,allCellsD,eqKs,eqCell,hr,hc,hz]
theorem roots_4b {H : Hp} {a b c d s t : List UInt8} {z : Int} (hr : callV cS false (fnV 16) [.d (.i .i64 0),.d (.i .i64 1)] (.box 29 [.d (.s a),.d (.s b),.d (.s c),.d (.s d)] :: H) = some (.val (.d (.agg [.s s,.s t])),(.box 29 [.d (.s a),.d (.s b),.d (.s c),.d (.s d)] :: H))) (hc : callV cS false (fnV 13) [.d (.agg [.s a,.s b]),.d (.agg [.s s,.s t])] (.box 29 [.d (.s a),.d (.s b),.d (.s c),.d (.s d)] :: H) = some (.val (.d (.i .i64 z)),(.box 29 [.d (.s a),.d (.s b),.d (.s c),.d (.s d)] :: H))) (hz : ¬ z < 0) (v1 v2 v7 v9 : V) : evI cS (nthC 4 b4) none [(1,v1),(2,v2),(7,v7),(9,v9),(10,.p H.length 0)] (.box 29 [.d (.s a),.d (.s b),.d (.s c),.d (.s d)] :: H) = some (.nor,[(1,v1),(2,v2),(7,v7),(9,v9),(10,.p H.length 0),(46,.d (.b false))],(.box 29 [.d (.s a),.d (.s b),.d (.s c),.d (.s d)] :: H)) := by
  simp [nthC,b4,put,eset,eget,D.cells,V.cells,allD,hget,hset,fz,List.zipIdx_cons,List.zipIdx_nil,setParts,chunk1,allCellsD,eqKs,eqCell,hr,hc,hz]
theorem roots_5a {H : Hp} {a b c d : List UInt8} {z : Int} (hc : callV cS false (fnV 13) [.d (.agg [.s c,.s d]),.d (.agg [.s a,.s b])] (.box 29 [.d (.s a),.d (.s b),.d (.s c),.d (.s d)] :: H) = some (.val (.d (.i .i64 z)),(.box 29 [.d (.s a),.d (.s b),.d (.s c),.d (.s d)] :: H))) (hz : z < 0) (v1 v2 v7 v9 : V) : evI cS (nthC 5 b4) none [(1,v1),(2,v2),(7,v7),(9,v9),(10,.p H.length 0)] (.box 29 [.d (.s a),.d (.s b),.d (.s c),.d (.s d)] :: H) = some (.nor,[(1,v1),(2,v2),(7,v7),(9,v9),(10,.p H.length 0)],(.box 29 [.d (.s a),.d (.s b),.d (.s a),.d (.s b)] :: H)) := by
  simp [nthC,b4,put,eset,eget,D.cells,V.cells,allD,hget,hset,fz,List.zipIdx_cons,List.zipIdx_nil,setParts,chunk1,allCellsD,eqKs,eqCell,hc,hz]
theorem roots_5af {H : Hp} {a b c d : List UInt8} {z : Int} (hc : callV cS false (fnV 13) [.d (.agg [.s c,.s d]),.d (.agg [.s a,.s b])] (.box 29 [.d (.s a),.d (.s b),.d (.s c),.d (.s d)] :: H) = some (.val (.d (.i .i64 z)),(.box 29 [.d (.s a),.d (.s b),.d (.s c),.d (.s d)] :: H))) (hz : z < 0) (v1 v2 v7 v9 : V) : evI cS (nthC 5 b4) none [(1,v1),(2,v2),(7,v7),(9,v9),(10,.p H.length 0),(46,.d (.b false))] (.box 29 [.d (.s a),.d (.s b),.d (.s c),.d (.s d)] :: H) = some (.nor,[(1,v1),(2,v2),(7,v7),(9,v9),(10,.p H.length 0)],(.box 29 [.d (.s a),.d (.s b),.d (.s a),.d (.s b)] :: H)) := by
  simp [nthC,b4,put,eset,eget,D.cells,V.cells,allD,hget,hset,fz,List.zipIdx_cons,List.zipIdx_nil,setParts,chunk1,allCellsD,eqKs,eqCell,hc,hz]
theorem roots_5b {H : Hp} {a b c d : List UInt8} {z : Int} (hc : callV cS false (fnV 13) [.d (.agg [.s c,.s d]),.d (.agg [.s a,.s b])] (.box 29 [.d (.s a),.d (.s b),.d (.s c),.d (.s d)] :: H) = some (.val (.d (.i .i64 z)),(.box 29 [.d (.s a),.d (.s b),.d (.s c),.d (.s d)] :: H))) (hz : ¬ z < 0) (v1 v2 v7 v9 : V) : evI cS (nthC 5 b4) none [(1,v1),(2,v2),(7,v7),(9,v9),(10,.p H.length 0)] (.box 29 [.d (.s a),.d (.s b),.d (.s c),.d (.s d)] :: H) = some (.nor,[(1,v1),(2,v2),(7,v7),(9,v9),(10,.p H.length 0),(54,.d (.b false))],(.box 29 [.d (.s a),.d (.s b),.d (.s c),.d (.s d)] :: H)) := by
  simp [nthC,b4,put,eset,eget,D.cells,V.cells,allD,hget,hset,fz,List.zipIdx_cons,List.zipIdx_nil,setParts,chunk1,allCellsD,eqKs,eqCell,hc,hz]
theorem roots_5bf {H : Hp} {a b c d : List UInt8} {z : Int} (hc : callV cS false (fnV 13) [.d (.agg [.s c,.s d]),.d (.agg [.s a,.s b])] (.box 29 [.d (.s a),.d (.s b),.d (.s c),.d (.s d)] :: H) = some (.val (.d (.i .i64 z)),(.box 29 [.d (.s a),.d (.s b),.d (.s c),.d (.s d)] :: H))) (hz : ¬ z < 0) (v1 v2 v7 v9 : V) : evI cS (nthC 5 b4) none [(1,v1),(2,v2),(7,v7),(9,v9),(10,.p H.length 0),(46,.d (.b false))] (.box 29 [.d (.s a),.d (.s b),.d (.s c),.d (.s d)] :: H) = some (.nor,[(1,v1),(2,v2),(7,v7),(9,v9),(10,.p H.length 0),(54,.d (.b false))],(.box 29 [.d (.s a),.d (.s b),.d (.s c),.d (.s d)] :: H)) := by
  simp [nthC,b4,put,eset,eget,D.cells,V.cells,allD,hget,hset,fz,List.zipIdx_cons,List.zipIdx_nil,setParts,chunk1,allCellsD,eqKs,eqCell,hc,hz]
theorem roots_6 {H : Hp} {i : Nat} {n : Int} {a b c d x y : List UInt8} (gi : hget H i = some (.box 29 [.d (.s a),.d (.s b),.d (.s c),.d (.s d)])) (hl : callV cS false (fnV 20) [.d (.agg [.s a,.s b,.s c,.s d]),.d (.i .i64 n)] H = some (.val (.d (.agg [.s x,.s y])),H)) (v2 v7 v9 : V) : evI cS (nthC 6 b4) none [(1,.d (.i .i64 n)),(2,v2),(7,v7),(9,v9),(10,.p i 0)] H = some (.nor,[(2,v2),(7,v7),(9,v9),(10,.p i 0),(11,.p H.length 0)],(.box 26 [.d (.s x),.d (.s y)] :: H)) := by
  simp [nthC,b4,put,eset,eget,D.cells,V.cells,allD,hget,hset,fz,List.zipIdx_cons,List.zipIdx_nil,setParts,chunk1,allCellsD,eqKs,eqCell,gi,hl]
theorem roots_6f {H : Hp} {i : Nat} {n : Int} {a b c d x y : List UInt8} (gi : hget H i = some (.box 29 [.d (.s a),.d (.s b),.d (.s c),.d (.s d)])) (hl : callV cS false (fnV 20) [.d (.agg [.s a,.s b,.s c,.s d]),.d (.i .i64 n)] H = some (.val (.d (.agg [.s x,.s y])),H)) (v2 v7 v9 : V) : evI cS (nthC 6 b4) none [(1,.d (.i .i64 n)),(2,v2),(7,v7),(9,v9),(10,.p i 0),(54,.d (.b false))] H = some (.nor,[(2,v2),(7,v7),(9,v9),(10,.p i 0),(11,.p H.length 0)],(.box 26 [.d (.s x),.d (.s y)] :: H)) := by
  simp [nthC,b4,put,eset,eget,D.cells,V.cells,allD,hget,hset,fz,List.zipIdx_cons,List.zipIdx_nil,setParts,chunk1,allCellsD,eqKs,eqCell,gi,hl]
theorem roots_7 {H : Hp} {i : Nat} {a b c d x y : List UInt8} (gi : hget H i = some (.box 29 [.d (.s a),.d (.s b),.d (.s c),.d (.s d)])) (hc : callV cS false (fnV 21) [.d (.agg [.s a,.s b]),.d (.agg [.s a,.s b])] H = some (.val (.d (.tup [(.agg [.s x,.s y]),.i .i64 0])),H)) (v2 v7 v9 v11 : V) : evI cS (nthC 7 b4) none [(2,v2),(7,v7),(9,v9),(10,.p i 0),(11,v11)] H = some (.nor,[(2,v2),(7,v7),(9,v9),(10,.p i 0),(11,v11),(12,.p H.length 0)],(.box 26 [.d (.s x),.d (.s y)] :: H)) := by
  simp [nthC,b4,put,eset,eget,D.cells,V.cells,allD,hget,hset,fz,List.zipIdx_cons,List.zipIdx_nil,setParts,chunk1,allCellsD,eqKs,eqCell,gi,hc]
theorem roots_8 {H : Hp} {i : Nat} {a b c d x y : List UInt8} (gi : hget H i = some (.box 29 [.d (.s a),.d (.s b),.d (.s c),.d (.s d)])) (hc : callV cS false (fnV 21) [.d (.agg [.s c,.s d]),.d (.agg [.s c,.s d])] H = some (.val (.d (.tup [(.agg [.s x,.s y]),.i .i64 0])),H)) (v2 v7 v9 v11 v12 : V) : evI cS (nthC 8 b4) none [(2,v2),(7,v7),(9,v9),(10,.p i 0),(11,v11),(12,v12)] H = some (.nor,[(2,v2),(7,v7),(9,v9),(11,v11),(12,v12),(14,.p H.length 0)],(.box 26 [.d (.s x),.d (.s y)] :: H)) := by
  simp [nthC,b4,put,eset,eget,D.cells,V.cells,allD,hget,hset,fz,List.zipIdx_cons,List.zipIdx_nil,setParts,chunk1,allCellsD,eqKs,eqCell,gi,hc]
theorem roots_9 {H : Hp} {i j : Nat} {n e : Int} {a b c d s t u v : List UInt8} (gi : hget H i = some (.box 26 [.d (.s a),.d (.s b)])) (gj : hget H j = some (.box 26 [.d (.s c),.d (.s d)])) (hc : callV cS false (fnV 22) [.d (.agg [.s a,.s b,.s c,.s d]),.d (.i .i64 n)] H = some (.val (.d (.tup [(.agg [.s s,.s t,.s u,.s v]),.i .i64 e])),H)) (v7 v9 v11 : V) : evI cS (nthC 9 b4) none [(2,.d (.i .i64 n)),(7,v7),(9,v9),(11,v11),(12,.p i 0),(14,.p j 0)] H = some (.nor,[(2,.d (.i .i64 n)),(7,v7),(9,v9),(11,v11),(16,.p H.length 0),(17,.d (.i .i64 e))],(.box 29 [.d (.s s),.d (.s t),.d (.s u),.d (.s v)] :: H)) := by
  simp [nthC,b4,put,eset,eget,D.cells,V.cells,allD,hget,hset,fz,List.zipIdx_cons,List.zipIdx_nil,setParts,chunk1,allCellsD,eqKs,eqCell,gi,gj,hc]
theorem roots_10 {H : Hp} {i j : Nat} {a b c d x y : List UInt8} (gi : hget H i = some (.box 29 [.d (.s a),.d (.s b),.d (.s c),.d (.s d)])) (gj : hget H j = some (.box 26 [.d (.s x),.d (.s y)])) (hc : callV cS false (fnV 23) [.d (.agg [.s a,.s b,.s c,.s d]),.d (.agg [.s x,.s y])] H = some (.val (.d (.b true)),H)) (v2 v7 v9 : V) : evI cS (nthC 10 b4) none [(2,v2),(7,v7),(9,v9),(11,.p j 0),(16,.p i 0),(17,.d (.i .i64 0))] H = some (.nor,[(2,v2),(7,v7),(9,v9),(92,.d (.b false))],H) := by
  simp [nthC,b4,put,eset,eget,D.cells,V.cells,allD,hget,hset,fz,List.zipIdx_cons,List.zipIdx_nil,setParts,chunk1,allCellsD,eqKs,eqCell,gi,gj,hc]
theorem roots_11 {H : Hp} {i : Nat} {c0 c1 c2 c3 : Int} {a b c d : List UInt8} (gi : hget H i = some (.box 22 [.d (.i .i64 c0),.d (.i .i64 c1),.d (.i .i64 c2),.d (.i .i64 c3)])) (hl : callV cS false (fnV 19) [.d (.agg [.i .i64 c0,.i .i64 c1,.i .i64 c2,.i .i64 c3])] H = some (.val (.d (.agg [.s a,.s b,.s c,.s d])),H)) (v2 v9 v92 : V) : evI cS (nthC 11 b4) none [(2,v2),(7,.p i 0),(9,v9),(92,v92)] H = some (.nor,[(2,v2),(9,v9),(18,.p H.length 0)],(.box 29 [.d (.s a),.d (.s b),.d (.s c),.d (.s d)] :: H)) := by
  simp [nthC,b4,put,eset,eget,D.cells,V.cells,allD,hget,hset,fz,List.zipIdx_cons,List.zipIdx_nil,setParts,chunk1,allCellsD,eqKs,eqCell,gi,hl]
theorem roots_12 {H : Hp} {i : Nat} {n e : Int} {a b c d s t u v : List UInt8} (gi : hget H i = some (.box 29 [.d (.s a),.d (.s b),.d (.s c),.d (.s d)])) (hc : callV cS false (fnV 22) [.d (.agg [.s a,.s b,.s c,.s d]),.d (.i .i64 n)] H = some (.val (.d (.tup [(.agg [.s s,.s t,.s u,.s v]),.i .i64 e])),H)) (v9 : V) : evI cS (nthC 12 b4) none [(2,.d (.i .i64 n)),(9,v9),(18,.p i 0)] H = some (.nor,[(2,.d (.i .i64 n)),(9,v9),(18,.p i 0),(19,.p H.length 0),(20,.d (.i .i64 e))],(.box 29 [.d (.s s),.d (.s t),.d (.s u),.d (.s v)] :: H)) := by
  simp [nthC,b4,put,eset,eget,D.cells,V.cells,allD,hget,hset,fz,List.zipIdx_cons,List.zipIdx_nil,setParts,chunk1,allCellsD,eqKs,eqCell,gi,hc]
theorem roots_13 {H : Hp} {i : Nat} {a b c d s t : List UInt8} {z : Int} (gi : hget H i = some (.box 29 [.d (.s a),.d (.s b),.d (.s c),.d (.s d)])) (hr : callV cS false (fnV 16) [.d (.i .i64 0),.d (.i .i64 1)] H = some (.val (.d (.agg [.s s,.s t])),H)) (hc : callV cS false (fnV 13) [.d (.agg [.s a,.s b]),.d (.agg [.s s,.s t])] H = some (.val (.d (.i .i64 z)),H)) (hz : ¬ z < 0) (v2 v9 v19 v20 : V) : evI cS (nthC 13 b4) none [(2,v2),(9,v9),(18,.p i 0),(19,v19),(20,v20)] H = some (.nor,[(2,v2),(9,v9),(18,.p i 0),(19,v19),(20,v20),(105,.d (.b false))],H) := by
  simp [nthC,b4,put,eset,eget,D.cells,V.cells,allD,hget,hset,fz,List.zipIdx_cons,List.zipIdx_nil,setParts,chunk1,allCellsD,eqKs,eqCell,gi,hr,hc,hz]
theorem roots_13n {H : Hp} {i : Nat} {a b c d s t : List UInt8} {z : Int} (gi : hget H i = some (.box 29 [.d (.s a),.d (.s b),.d (.s c),.d (.s d)])) (hr : callV cS false (fnV 16) [.d (.i .i64 0),.d (.i .i64 1)] H = some (.val (.d (.agg [.s s,.s t])),H)) (hc : callV cS false (fnV 13) [.d (.agg [.s a,.s b]),.d (.agg [.s s,.s t])] H = some (.val (.d (.i .i64 z)),H)) (hz : z < 0) (v2 v19 : V) : evI cS (nthC 13 b4) none [(2,v2),(9,.d (.b true)),(18,.p i 0),(19,v19),(20,.d (.i .i64 50))] H = some (.rt,[(8,.d (.b true))],H) := by
  simp [nthC,b4,put,eset,eget,D.cells,V.cells,allD,hget,hset,fz,List.zipIdx_cons,List.zipIdx_nil,setParts,chunk1,allCellsD,eqKs,eqCell,gi,hr,hc,hz]
theorem roots_14 {H : Hp} {a b : List UInt8} (hc : callV cS false (fnV 16) [.d (.i .i64 1),.d (.i .i64 1)] H = some (.val (.d (.agg [.s a,.s b])),H)) (v2 v9 v18 v19 v20 v105 : V) : evI cS (nthC 14 b4) none [(2,v2),(9,v9),(18,v18),(19,v19),(20,v20),(105,v105)] H = some (.nor,[(2,v2),(9,v9),(18,v18),(19,v19),(20,v20),(21,.p H.length 0)],(.box 26 [.d (.s a),.d (.s b)] :: H)) := by
  simp [nthC,b4,put,eset,eget,D.cells,V.cells,allD,hget,hset,fz,List.zipIdx_cons,List.zipIdx_nil,setParts,chunk1,allCellsD,eqKs,eqCell,hc]
/-- one unit of the place i -/
def unitQ (i : Nat) : Rat := Rat.divInt 1 ((10 ^ i : Nat) : Int)
theorem unitQ_parts (i : Nat) : (unitQ i).num = 1 ∧ ((unitQ i).den : Int) = ((10 ^ i : Nat) : Int) := by
  have h : 0 < 10 ^ i := Nat.pow_pos (by omega)
  obtain ⟨p1,p2⟩ := divInt_parts 1 ((10 ^ i : Nat) : Int) (by omega)
  unfold unitQ
  rw [p1,p2]
  simp
theorem unitQ_fits {i : Nat} (h : i ≤ 30) : RFits (unitQ i) := by
  obtain ⟨p1,p2⟩ := unitQ_parts i
  refine ⟨by rw [p1]; exact fits_one,?_⟩
  rw [p2]; exact fits_pow10 h
theorem unit_div {i : Nat} (h : i < 30) {H : Hp} (g : Glb H) : callV cS false (fnV 17) [.d (.agg [.s (txt (unitQ i).num),.s (txt (unitQ i).den)]),.d (.agg [.s (txt (10 : Rat).num),.s (txt (10 : Rat).den)])] H = some (.val (.d (.tup [(.agg [.s (txt (unitQ (i + 1)).num),.s (txt (unitQ (i + 1)).den)]),.i .i64 0])),H) := by
  have h1 := RDiv_ok (txt (unitQ i).num) (txt (unitQ i).den) (txt (10 : Rat).num) (txt (10 : Rat).den) H g
  obtain ⟨p1,p2⟩ := unitQ_parts i
  have he : opQ (fun p q => two (p.num * q.den) ((p.den : Int) * q.num)) errR (txt (unitQ i).num) (txt (unitQ i).den) (txt (10 : Rat).num) (txt (10 : Rat).den) = .tup [dR (unitQ (i + 1)),.i .i64 0] := by
    simp only [opQ,RQ_txt (unitQ_fits (show i ≤ 30 by omega)),RQ_txt (show RFits 10 from Sm.fits (by decide))]
    rw [p1,p2,show ((10 : Rat).den : Int) = 1 from rfl,show (10 : Rat).num = 10 from rfl,Int.mul_one,show ((10 ^ i : Nat) : Int) * 10 = ((10 ^ (i + 1) : Nat) : Int) by rw [Nat.pow_succ]; simp]
    have hp : 0 < 10 ^ (i + 1) := Nat.pow_pos (by omega)
    rw [two,if_pos ⟨fits_one,fits_pow10 (by omega)⟩,makeD,if_neg (by omega)]
    rfl
  rw [he] at h1
  exact h1
theorem roots_loop {H : Hp} (g : Glb H) {m : Nat} (hm : m ≤ 30) (v9 v18 v19 v20 : V) : ∀ (k i : Nat),i + k = m →
    evI cS (.loop l4_0) none [(2,.d (.i .i64 m)),(9,v9),(18,v18),(19,v19),(20,v20),(21,.p H.length 0),(22,.d (.i .i64 i))] (.box 26 [.d (.s (txt (unitQ i).num)),.d (.s (txt (unitQ i).den))] :: H) =
      some (.ex 0,[(2,.d (.i .i64 m)),(9,v9),(18,v18),(19,v19),(20,v20),(21,.p H.length 0),(22,.d (.i .i64 m)),(114,.d (.b false))],.box 26 [.d (.s (txt (unitQ m).num)),.d (.s (txt (unitQ m).den))] :: H) := by
  intro k
  induction k with
  | zero =>
    intro i hi
    obtain rfl : i = m := by omega
    rw [evI_loop]
    generalize txt (unitQ i).num = a
    generalize txt (unitQ i).den = b
    simp [l4_0,put,eset,eget,D.cells,V.cells,allD,hget,hset,fz,List.zipIdx_cons,List.zipIdx_nil,setParts,chunk1,allCellsD,eqKs,eqCell]
  | succ k ih =>
    intro i hi
    have hlt : (i : Int) < m := by omega
    have hlt2 : i < m := by omega
    have w1 : IntKind.i64.wrap ((i : Int) + 1) = (i : Int) + 1 := wr64 (by omega) (by omega)
    have f0 := ratio_q 10 1 10 (by unfold I64; omega) (by unfold I64; omega) (by omega) (by decide +kernel) (.box 26 [.d (.s (txt (unitQ i).num)),.d (.s (txt (unitQ i).den))] :: H)
    have f1 := unit_div (show i < 30 by omega) (g.cons (.box 26 [.d (.s (txt (unitQ i).num)),.d (.s (txt (unitQ i).den))]))
    have hih := ih (i + 1) (by omega)
    simp only [l4_0,o1,mv,Int.natCast_add,show ((1 : Nat) : Int) = 1 from rfl] at hih
    rw [evI_loop]
    generalize txt (unitQ m).num = am at *
    generalize txt (unitQ m).den = bm at *
    generalize txt (unitQ (i + 1)).num = a2 at *
    generalize txt (unitQ (i + 1)).den = b2 at *
    generalize txt (unitQ i).num = a at *
    generalize txt (unitQ i).den = b at *
    generalize txt (10 : Rat).num = a1 at *
    generalize txt (10 : Rat).den = b1 at *
    simp [l4_0,put,eset,eget,D.cells,V.cells,allD,hget,hset,fz,List.zipIdx_cons,List.zipIdx_nil,setParts,chunk1,allCellsD,eqKs,eqCell,hlt,hlt2,w1,f0,f1,hih]
theorem roots_15 {H : Hp} (g : Glb H) {m : Nat} (hm : m ≤ 30) (v9 v18 v19 v20 : V) :
    evI cS (nthC 15 b4) none [(2,.d (.i .i64 m)),(9,v9),(18,v18),(19,v19),(20,v20),(21,.p H.length 0)] (.box 26 [.d (.s (txt (unitQ 0).num)),.d (.s (txt (unitQ 0).den))] :: H) =
      some (.nor,[(2,.d (.i .i64 m)),(9,v9),(18,v18),(19,v19),(20,v20),(21,.p H.length 0),(22,.d (.i .i64 m)),(114,.d (.b false))],.box 26 [.d (.s (txt (unitQ m).num)),.d (.s (txt (unitQ m).den))] :: H) := by
  have hl := roots_loop g hm v9 v18 v19 v20 m 0 (by omega)
  simp only [show ((0 : Nat) : Int) = 0 from rfl] at hl
  generalize txt (unitQ m).num = am at *
  generalize txt (unitQ m).den = bm at *
  generalize txt (unitQ 0).num = a at *
  generalize txt (unitQ 0).den = b at *
  generalize (m : Int) = n at *
  simp [nthC,b4,put,eset,eget,D.cells,V.cells,allD,hget,hset,fz,List.zipIdx_cons,List.zipIdx_nil,setParts,chunk1,allCellsD,eqKs,eqCell,hl]
theorem roots_16 {H : Hp} {i j : Nat} {a b c d s t x y : List UInt8} (gi : hget H i = some (.box 29 [.d (.s a),.d (.s b),.d (.s c),.d (.s d)])) (gj : hget H j = some (.box 26 [.d (.s s),.d (.s t)])) (hc : callV cS false (fnV 24) [.d (.agg [.s a,.s b]),.d (.agg [.s s,.s t])] H = some (.val (.d (.tup [(.agg [.s x,.s y]),.i .i64 0])),H)) (v2 v9 v18 v20 v22 v114 : V) : evI cS (nthC 16 b4) none [(2,v2),(9,v9),(18,v18),(19,.p i 0),(20,v20),(21,.p j 0),(22,v22),(114,v114)] H = some (.nor,[(9,v9),(18,v18),(19,.p i 0),(20,v20),(21,.p j 0),(23,.p H.length 0)],(.box 26 [.d (.s x),.d (.s y)] :: H)) := by
  simp [nthC,b4,put,eset,eget,D.cells,V.cells,allD,hget,hset,fz,List.zipIdx_cons,List.zipIdx_nil,setParts,chunk1,allCellsD,eqKs,eqCell,gi,gj,hc]
theorem roots_17 {H : Hp} {i j : Nat} {a b c d s t x y : List UInt8} (gi : hget H i = some (.box 29 [.d (.s a),.d (.s b),.d (.s c),.d (.s d)])) (gj : hget H j = some (.box 26 [.d (.s s),.d (.s t)])) (hc : callV cS false (fnV 18) [.d (.agg [.s c,.s d]),.d (.agg [.s s,.s t])] H = some (.val (.d (.tup [(.agg [.s x,.s y]),.i .i64 0])),H)) (v9 v18 v20 v23 : V) : evI cS (nthC 17 b4) none [(9,v9),(18,v18),(19,.p i 0),(20,v20),(21,.p j 0),(23,v23)] H = some (.nor,[(9,v9),(18,v18),(19,.p i 0),(20,v20),(23,v23),(25,.p H.length 0)],(.box 26 [.d (.s x),.d (.s y)] :: H)) := by
  simp [nthC,b4,put,eset,eget,D.cells,V.cells,allD,hget,hset,fz,List.zipIdx_cons,List.zipIdx_nil,setParts,chunk1,allCellsD,eqKs,eqCell,gi,gj,hc]
theorem roots_18 {H : Hp} {i : Nat} {a b c d x y : List UInt8} (gi : hget H i = some (.box 29 [.d (.s a),.d (.s b),.d (.s c),.d (.s d)])) (hc : callV cS false (fnV 21) [.d (.agg [.s a,.s b]),.d (.agg [.s a,.s b])] H = some (.val (.d (.tup [(.agg [.s x,.s y]),.i .i64 0])),H)) (v9 v18 v20 v23 v25 : V) : evI cS (nthC 18 b4) none [(9,v9),(18,v18),(19,.p i 0),(20,v20),(23,v23),(25,v25)] H = some (.nor,[(9,v9),(18,v18),(19,.p i 0),(20,v20),(23,v23),(25,v25),(27,.p H.length 0)],(.box 26 [.d (.s x),.d (.s y)] :: H)) := by
  simp [nthC,b4,put,eset,eget,D.cells,V.cells,allD,hget,hset,fz,List.zipIdx_cons,List.zipIdx_nil,setParts,chunk1,allCellsD,eqKs,eqCell,gi,hc]
theorem roots_19 {H : Hp} {i : Nat} {a b x y : List UInt8} (gi : hget H i = some (.box 26 [.d (.s a),.d (.s b)])) (hc : callV cS false (fnV 21) [.d (.agg [.s a,.s b]),.d (.agg [.s a,.s b])] H = some (.val (.d (.tup [(.agg [.s x,.s y]),.i .i64 0])),H)) (v9 v18 v19 v20 v25 v27 : V) : evI cS (nthC 19 b4) none [(9,v9),(18,v18),(19,v19),(20,v20),(23,.p i 0),(25,v25),(27,v27)] H = some (.nor,[(9,v9),(18,v18),(19,v19),(20,v20),(25,v25),(27,v27),(29,.p H.length 0)],(.box 26 [.d (.s x),.d (.s y)] :: H)) := by
  simp [nthC,b4,put,eset,eget,D.cells,V.cells,allD,hget,hset,fz,List.zipIdx_cons,List.zipIdx_nil,setParts,chunk1,allCellsD,eqKs,eqCell,gi,hc]
theorem roots_20 {H : Hp} {i : Nat} {a b c d x y : List UInt8} (gi : hget H i = some (.box 29 [.d (.s a),.d (.s b),.d (.s c),.d (.s d)])) (hc : callV cS false (fnV 21) [.d (.agg [.s c,.s d]),.d (.agg [.s c,.s d])] H = some (.val (.d (.tup [(.agg [.s x,.s y]),.i .i64 0])),H)) (v9 v18 v20 v25 v27 v29 : V) : evI cS (nthC 20 b4) none [(9,v9),(18,v18),(19,.p i 0),(20,v20),(25,v25),(27,v27),(29,v29)] H = some (.nor,[(9,v9),(18,v18),(20,v20),(25,v25),(27,v27),(29,v29),(31,.p H.length 0)],(.box 26 [.d (.s x),.d (.s y)] :: H)) := by
  simp [nthC,b4,put,eset,eget,D.cells,V.cells,allD,hget,hset,fz,List.zipIdx_cons,List.zipIdx_nil,setParts,chunk1,allCellsD,eqKs,eqCell,gi,hc]
theorem roots_21 {H : Hp} {i : Nat} {a b x y : List UInt8} (gi : hget H i = some (.box 26 [.d (.s a),.d (.s b)])) (hc : callV cS false (fnV 21) [.d (.agg [.s a,.s b]),.d (.agg [.s a,.s b])] H = some (.val (.d (.tup [(.agg [.s x,.s y]),.i .i64 0])),H)) (v9 v18 v20 v27 v29 v31 : V) : evI cS (nthC 21 b4) none [(9,v9),(18,v18),(20,v20),(25,.p i 0),(27,v27),(29,v29),(31,v31)] H = some (.nor,[(9,v9),(18,v18),(20,v20),(25,.p i 0),(27,v27),(29,v29),(31,v31),(33,.p H.length 0)],(.box 26 [.d (.s x),.d (.s y)] :: H)) := by
  simp [nthC,b4,put,eset,eget,D.cells,V.cells,allD,hget,hset,fz,List.zipIdx_cons,List.zipIdx_nil,setParts,chunk1,allCellsD,eqKs,eqCell,gi,hc]
theorem roots_22 {H : Hp} {i j k : Nat} {a b c d p0 p1 q0 q1 : List UInt8} {z w : Int} (gi : hget H i = some (.box 29 [.d (.s a),.d (.s b),.d (.s c),.d (.s d)])) (gj : hget H j = some (.box 26 [.d (.s p0),.d (.s p1)])) (gk : hget H k = some (.box 26 [.d (.s q0),.d (.s q1)])) (h1 : callV cS false (fnV 13) [.d (.agg [.s p0,.s p1]),.d (.agg [.s a,.s b])] H = some (.val (.d (.i .i64 z)),H)) (h2 : callV cS false (fnV 13) [.d (.agg [.s q0,.s q1]),.d (.agg [.s a,.s b])] H = some (.val (.d (.i .i64 w)),H)) (hz : z ≤ 0) (hw : 0 < w) (v9 v20 v25 v31 v33 : V) : evI cS (nthC 22 b4) none [(9,v9),(18,.p i 0),(20,v20),(25,v25),(27,.p j 0),(29,.p k 0),(31,v31),(33,v33)] H = some (.nor,[(9,v9),(18,.p i 0),(20,v20),(25,v25),(31,v31),(33,v33),(35,.d (.b true))],H) := by
  simp [nthC,b4,put,eset,eget,D.cells,V.cells,allD,hget,hset,fz,List.zipIdx_cons,List.zipIdx_nil,setParts,chunk1,allCellsD,eqKs,eqCell,gi,gj,gk,h1,h2,hz,hw]
theorem roots_23 {H : Hp} {i j k l : Nat} {a b c d p0 p1 q0 q1 r0 r1 s t : List UInt8} {z w u : Int} (gi : hget H i = some (.box 29 [.d (.s a),.d (.s b),.d (.s c),.d (.s d)])) (gj : hget H j = some (.box 26 [.d (.s p0),.d (.s p1)])) (gk : hget H k = some (.box 26 [.d (.s q0),.d (.s q1)])) (gl : hget H l = some (.box 26 [.d (.s r0),.d (.s r1)])) (hr : callV cS false (fnV 16) [.d (.i .i64 0),.d (.i .i64 1)] H = some (.val (.d (.agg [.s s,.s t])),H))
    (h1 : callV cS false (fnV 13) [.d (.agg [.s p0,.s p1]),.d (.agg [.s c,.s d])] H = some (.val (.d (.i .i64 z)),H)) (h2 : callV cS false (fnV 13) [.d (.agg [.s q0,.s q1]),.d (.agg [.s s,.s t])] H = some (.val (.d (.i .i64 w)),H)) (h3 : callV cS false (fnV 13) [.d (.agg [.s r0,.s r1]),.d (.agg [.s c,.s d])] H = some (.val (.d (.i .i64 u)),H)) (hz : 0 ≤ z) (hw : w < 0 ∨ u < 0) (v9 v20 v35 : V) :
    evI cS (nthC 23 b4) none [(9,v9),(18,.p i 0),(20,v20),(25,.p k 0),(31,.p j 0),(33,.p l 0),(35,v35)] H = some (.nor,[(9,v9),(20,v20),(35,v35),(36,.d (.b true))],H) := by
  simp only [nthC,b4]
  apply evI_drawP
  by_cases hw0 : w < 0
  · simp [evP,put,eset,eget,D.cells,V.cells,allD,hget,hset,fz,List.zipIdx_cons,List.zipIdx_nil,setParts,chunk1,allCellsD,eqKs,eqCell,gi,gj,gk,gl,hr,h1,h2,h3,hz,hw0]
  · have hu := hw.resolve_left hw0
    simp [evP,put,eset,eget,D.cells,V.cells,allD,hget,hset,fz,List.zipIdx_cons,List.zipIdx_nil,setParts,chunk1,allCellsD,eqKs,eqCell,gi,gj,gk,gl,hr,h1,h2,h3,hz,hw0,hu]
theorem roots_24 {H : Hp} : evI cS (tlC 24 b4) none [(9,.d (.b true)),(20,.d (.i .i64 0)),(35,.d (.b true)),(36,.d (.b true))] H = some (.rt,[(8,.d (.b true))],H) := by
  simp [tlC,b4,put,eset,eget,D.cells,V.cells,allD,hget,hset,fz,List.zipIdx_cons,List.zipIdx_nil,setParts,chunk1,allCellsD,eqKs,eqCell]
end Go.Proofs.YtmiioebapckcoaaGreatDoor
end
section
/- EnclosureRoots: the law. Printed by wip/tools/mkRoots.py. -/
namespace Go.Proofs.YtmiioebapckcoaaGreatDoor
open Go Num
set_option maxRecDepth 4000

/-- the ends as the law takes them -/
def clampL (a : Rat) : Rat := if a < 0 then 0 else a
def clampH (a b : Rat) : Rat := if b < clampL a then clampL a else b
theorem clamp_facts {a b : Rat} (f1 : a.num.natAbs ≤ 999 ∧ a.den ≤ 60) (f2 : b.num.natAbs ≤ 999 ∧ b.den ≤ 60) : (0 ≤ clampL a ∧ clampL a ≤ clampH a b) ∧ ((clampL a).num.natAbs ≤ 999 ∧ (clampL a).den ≤ 60) ∧ ((clampH a b).num.natAbs ≤ 999 ∧ (clampH a b).den ≤ 60) := by
  have f0 : (0 : Rat).num.natAbs ≤ 999 ∧ (0 : Rat).den ≤ 60 := by decide
  have g1 : 0 ≤ clampL a ∧ ((clampL a).num.natAbs ≤ 999 ∧ (clampL a).den ≤ 60) := by
    unfold clampL
    split
    · exact ⟨Rat.le_refl,f0⟩
    · rename_i h; exact ⟨Rat.not_lt.1 h,f1⟩
  refine ⟨⟨g1.1,?_⟩,g1.2,?_⟩
  · unfold clampH
    split
    · exact Rat.le_refl
    · rename_i h; exact Rat.not_lt.1 h
  · unfold clampH
    split
    · exact g1.2
    · exact f2
theorem clamp_id {a b : Rat} (h : ¬ a < 0) (hab : a ≤ b) : clampL a = a ∧ clampH a b = b := by
  have e : clampL a = a := if_neg h
  refine ⟨e,?_⟩
  unfold clampH
  rw [e,if_neg (Rat.not_lt.2 hab)]
theorem zero_q (h : Hp) : callV cS false (fnV 16) [.d (.i .i64 0),.d (.i .i64 1)] h = some (.val (.d (.agg [.s (txt (0 : Rat).num),.s (txt (0 : Rat).den)])),h) := ratio_q 0 1 0 (by unfold I64; omega) (by unfold I64; omega) (by omega) (by decide +kernel) h
theorem roots_456 {H : Hp} (g : Glb H) {a b : Rat} (f1 : a.num.natAbs ≤ 999 ∧ a.den ≤ 60) (f2 : b.num.natAbs ≤ 999 ∧ b.den ≤ 60) (hab : a ≤ b) {m : Int} (hm : I64 m) (v2 v7 v9 : V) (rest : C) :
    evI cS (.seq (nthC 4 b4) (.seq (nthC 5 b4) (.seq (nthC 6 b4) rest))) none [(1,.d (.i .i64 m)),(2,v2),(7,v7),(9,v9),(10,.p H.length 0)] (.box 29 [.d (.s (txt a.num)),.d (.s (txt a.den)),.d (.s (txt b.num)),.d (.s (txt b.den))] :: H) = evI cS rest none [(2,v2),(7,v7),(9,v9),(10,.p H.length 0),(11,.p (H.length + 1) 0)] (.box 26 [.d (.s (txt (insideQ (clampL a) (clampH a b) (pickI m 101)).num)),.d (.s (txt (insideQ (clampL a) (clampH a b) (pickI m 101)).den))] :: .box 29 [.d (.s (txt (clampL a).num)),.d (.s (txt (clampL a).den)),.d (.s (txt (clampH a b).num)),.d (.s (txt (clampH a b).den))] :: H) := by
  obtain ⟨⟨c1,c2⟩,c3,c4⟩ := clamp_facts f1 f2
  have i1 := Inside_ok c3 c4 m hm
  have fz : RFits 0 := Sm.fits (by decide)
  by_cases h1 : a < 0
  · have eL : clampL a = 0 := if_pos h1
    have q4 := roots_4a (zero_q _) (compare_val (s3_of f1).fits fz (g.cons (.box 29 [.d (.s (txt a.num)),.d (.s (txt a.den)),.d (.s (txt b.num)),.d (.s (txt b.den))]))) (cmpQ_lt.2 h1) (.d (.i .i64 m)) v2 v7 v9
    have hc := compare_val (s3_of f2).fits fz (g.cons (.box 29 [.d (.s (txt (0 : Rat).num)),.d (.s (txt (0 : Rat).den)),.d (.s (txt b.num)),.d (.s (txt b.den))]))
    by_cases h2 : b < 0
    · have eH : clampH a b = 0 := by unfold clampH; rw [eL,if_pos h2]
      rw [eL,eH] at i1 ⊢
      have q5 := roots_5a hc (cmpQ_lt.2 h2) (.d (.i .i64 m)) v2 v7 v9
      have q6 := roots_6 (hget_top (h' := .box 29 [.d (.s (txt (0 : Rat).num)),.d (.s (txt (0 : Rat).den)),.d (.s (txt (0 : Rat).num)),.d (.s (txt (0 : Rat).den))] :: H) rfl) (i1 _) v2 v7 v9
      rw [evI_seq,q4]
      simp only [thenR]
      rw [evI_seq,q5]
      simp only [thenR]
      rw [evI_seq,q6]
      simp only [thenR]
      rfl
    · have eH : clampH a b = b := by unfold clampH; rw [eL,if_neg h2]
      rw [eL,eH] at i1 ⊢
      have q5 := roots_5b hc (fun k => h2 (cmpQ_lt.1 k)) (.d (.i .i64 m)) v2 v7 v9
      have q6 := roots_6f (hget_top (h' := .box 29 [.d (.s (txt (0 : Rat).num)),.d (.s (txt (0 : Rat).den)),.d (.s (txt b.num)),.d (.s (txt b.den))] :: H) rfl) (i1 _) v2 v7 v9
      rw [evI_seq,q4]
      simp only [thenR]
      rw [evI_seq,q5]
      simp only [thenR]
      rw [evI_seq,q6]
      simp only [thenR]
      rfl
  · obtain ⟨eL,eH⟩ := clamp_id h1 hab
    rw [eL,eH] at i1 ⊢
    have q4 := roots_4b (zero_q _) (compare_val (s3_of f1).fits fz (g.cons (.box 29 [.d (.s (txt a.num)),.d (.s (txt a.den)),.d (.s (txt b.num)),.d (.s (txt b.den))]))) (fun k => h1 (cmpQ_lt.1 k)) (.d (.i .i64 m)) v2 v7 v9
    have hc := compare_val (s3_of f2).fits (s3_of f1).fits (g.cons (.box 29 [.d (.s (txt a.num)),.d (.s (txt a.den)),.d (.s (txt b.num)),.d (.s (txt b.den))]))
    have q5 := roots_5bf hc (fun k => Rat.not_lt.2 hab (cmpQ_lt.1 k)) (.d (.i .i64 m)) v2 v7 v9
    have q6 := roots_6f (hget_top (h' := .box 29 [.d (.s (txt a.num)),.d (.s (txt a.den)),.d (.s (txt b.num)),.d (.s (txt b.den))] :: H) rfl) (i1 _) v2 v7 v9
    rw [evI_seq,q4]
    simp only [thenR]
    rw [evI_seq,q5]
    simp only [thenR]
    rw [evI_seq,q6]
    simp only [thenR]
    rfl
theorem sq_s3 {A : Rat} (h : A.num.natAbs ≤ 999 ∧ A.den ≤ 60) : S3 (A * A) ∧ (A * A).num.natAbs ≤ 999999 := by
  obtain ⟨h1,h2⟩ := sz_mul h.1 h.2 h.1 h.2
  exact ⟨⟨by omega,by omega⟩,by omega⟩
theorem unitQ_ten (m : Nat) : unitQ m = Rat.divInt 1 (tenP m) := rfl
set_option maxHeartbeats 1000000 in
theorem roots_low {H : Hp} {o : EO} (gH : Glb H) (eH : ErrAt H o) {b1 b2 : Rat} (f1 : b1.num.natAbs ≤ 999 ∧ b1.den ≤ 60) (f2 : b2.num.natAbs ≤ 999 ∧ b2.den ≤ 60) (hab : b1 ≤ b2) {k : Nat} (hk : k ≤ 12) :
    ∃ L,evI cS (.seq (nthC 12 b4) (.seq (nthC 13 b4) (.seq (nthC 14 b4) (.seq (nthC 15 b4) (.seq (nthC 16 b4) (.seq (nthC 17 b4) (.seq (nthC 18 b4) (.seq (nthC 19 b4) (.seq (nthC 20 b4) (.seq (nthC 21 b4) (.seq (nthC 22 b4) (.seq (nthC 23 b4) (tlC 24 b4))))))))))))) none [(2,.d (.i .i64 (k : Int))),(9,.d (.b true)),(18,.p H.length 0)] (.box 29 [.d (.s (txt b1.num)),.d (.s (txt b1.den)),.d (.s (txt b2.num)),.d (.s (txt b2.den))] :: H) = some (.rt,[(8,.d (.b true))],L ++ H) := by
  obtain ⟨hB,ehB⟩ : ∃ h : Hp,h = .box 29 [.d (.s (txt b1.num)),.d (.s (txt b1.den)),.d (.s (txt b2.num)),.d (.s (txt b2.den))] :: H := ⟨_,rfl⟩
  have ghB : Glb hB := by rw [ehB]; exact gH.cons _
  have erB : ErrAt hB o := by rw [ehB]; exact eH.cons _
  rw [← ehB]
  have tB := hget_top ehB
  have s1 := s3_of f1
  have s2 := s3_of f2
  have fz : RFits 0 := Sm.fits (by decide)
  have hk0 : (0 : Int) ≤ k := by omega
  have hk1 : (k : Int) ≤ 12 := by omega
  by_cases h0 : b1 < 0
  · have sq := sqrt_neg hk0 hk1 s1 s2 hab h0 ghB erB
    have q12 := roots_12 tB sq (.d (.b true))
    obtain ⟨hT,ehT⟩ : ∃ h : Hp,h = .box 29 [.d (.s []),.d (.s []),.d (.s []),.d (.s [])] :: hB := ⟨_,rfl⟩
    have ghT : Glb hT := by rw [ehT]; exact ghB.cons _
    rw [← ehT] at q12
    have q13 := roots_13n (hget_up ehT tB) (zero_q _) (compare_val s1.fits fz ghT) (cmpQ_lt.2 h0) (.d (.i .i64 k)) (.p hB.length 0)
    obtain ⟨K,hK⟩ : ∃ K : Hp,hT = K ++ H := ⟨_ :: _ :: [],by rw [ehT,ehB]; rfl⟩
    refine ⟨K,?_⟩
    rw [evI_seq,q12]
    simp only [thenR]
    rw [evI_seq,q13,hK]
    rfl
  · have p1 : 0 ≤ b1 := Rat.not_lt.1 h0
    have p2 : 0 ≤ b2 := Rat.le_trans p1 hab
    obtain ⟨⟨l0,l1,l2,l3,l4⟩,_⟩ := rt_facts (n := (k : Int)) hk1 p1 (by omega)
    obtain ⟨_,u0,u1,u2,u3,u4⟩ := rt_facts (n := (k : Int)) hk1 p2 (by omega)
    rw [← unitQ_ten] at l2 l4 u2 u4
    have su : S3 (unitQ k) := s3_div (by omega) (tenP_pos k) (tenP_12 hk1)
    have sq : callV cS false (fnV 22) [.d (.agg [.s (txt b1.num),.s (txt b1.den),.s (txt b2.num),.s (txt b2.den)]),.d (.i .i64 (k : Int))] hB = some (.val (.d (.tup [(.agg [.s (txt (rtLo k b1).num),.s (txt (rtLo k b1).den),.s (txt (rtHi k b2).num),.s (txt (rtHi k b2).den)]),.i .i64 0])),hB) := sqrt_val hk0 hk1 s1 s2 hab p1 ghB erB
    have q12 := roots_12 tB sq (.d (.b true))
    generalize rtLo k b1 = lo at *
    generalize rtHi k b2 = hi at *

    obtain ⟨hT,ehT⟩ : ∃ h : Hp,h = .box 29 [.d (.s (txt lo.num)),.d (.s (txt lo.den)),.d (.s (txt hi.num)),.d (.s (txt hi.den))] :: hB := ⟨_,rfl⟩
    have ghT : Glb hT := by rw [ehT]; exact ghB.cons _
    obtain ⟨hU,ehU⟩ : ∃ h : Hp,h = .box 26 [.d (.s (txt (unitQ k).num)),.d (.s (txt (unitQ k).den))] :: hT := ⟨_,rfl⟩
    have ghU : Glb hU := by rw [ehU]; exact ghT.cons _
    obtain ⟨h23,eh23⟩ : ∃ h : Hp,h = .box 26 [.d (.s (txt (lo + unitQ k).num)),.d (.s (txt (lo + unitQ k).den))] :: hU := ⟨_,rfl⟩
    have gh23 : Glb h23 := by rw [eh23]; exact ghU.cons _
    obtain ⟨h25,eh25⟩ : ∃ h : Hp,h = .box 26 [.d (.s (txt (hi - unitQ k).num)),.d (.s (txt (hi - unitQ k).den))] :: h23 := ⟨_,rfl⟩
    have gh25 : Glb h25 := by rw [eh25]; exact gh23.cons _
    obtain ⟨h27,eh27⟩ : ∃ h : Hp,h = .box 26 [.d (.s (txt (lo * lo).num)),.d (.s (txt (lo * lo).den))] :: h25 := ⟨_,rfl⟩
    have gh27 : Glb h27 := by rw [eh27]; exact gh25.cons _
    obtain ⟨h29,eh29⟩ : ∃ h : Hp,h = .box 26 [.d (.s (txt ((lo + unitQ k) * (lo + unitQ k)).num)),.d (.s (txt ((lo + unitQ k) * (lo + unitQ k)).den))] :: h27 := ⟨_,rfl⟩
    have gh29 : Glb h29 := by rw [eh29]; exact gh27.cons _
    obtain ⟨h31,eh31⟩ : ∃ h : Hp,h = .box 26 [.d (.s (txt (hi * hi).num)),.d (.s (txt (hi * hi).den))] :: h29 := ⟨_,rfl⟩
    have gh31 : Glb h31 := by rw [eh31]; exact gh29.cons _
    obtain ⟨h33,eh33⟩ : ∃ h : Hp,h = .box 26 [.d (.s (txt ((hi - unitQ k) * (hi - unitQ k)).num)),.d (.s (txt ((hi - unitQ k) * (hi - unitQ k)).den))] :: h31 := ⟨_,rfl⟩
    have gh33 : Glb h33 := by rw [eh33]; exact gh31.cons _
    rw [← ehT] at q12
    have q13 := roots_13 (hget_up ehT tB) (zero_q _) (compare_val s1.fits fz ghT) (fun k => h0 (cmpQ_lt.1 k)) (.d (.i .i64 k)) (.d (.b true)) (.p hB.length 0) (.d (.i .i64 0))
    have q14 := roots_14 (ratio_q 1 1 (unitQ 0) (by unfold I64; omega) (by unfold I64; omega) (by omega) (by decide +kernel) hT) (.d (.i .i64 k)) (.d (.b true)) (.p H.length 0) (.p hB.length 0) (.d (.i .i64 0)) (.d (.b false))
    have q15 := roots_15 ghT (show k ≤ 30 by omega) (.d (.b true)) (.p H.length 0) (.p hB.length 0) (.d (.i .i64 0))
    rw [← ehU] at q15
    have q16 := roots_16 (hget_up ehU (hget_top ehT)) (hget_top ehU) (sum_call l3 su ghU) (.d (.i .i64 k)) (.d (.b true)) (.p H.length 0) (.d (.i .i64 0)) (.d (.i .i64 k)) (.d (.b false))
    rw [← eh23] at q16
    have q17 := roots_17 (hget_up eh23 (hget_up ehU (hget_top ehT))) (hget_up eh23 (hget_top ehU)) (dif_call u3 su gh23) (.d (.b true)) (.p H.length 0) (.d (.i .i64 0)) (.p hU.length 0)
    rw [← eh25] at q17
    have q18 := roots_18 (hget_up eh25 (hget_up eh23 (hget_up ehU (hget_top ehT)))) (pro_call l3 l3 gh25) (.d (.b true)) (.p H.length 0) (.d (.i .i64 0)) (.p hU.length 0) (.p h23.length 0)
    rw [← eh27] at q18
    have q19 := roots_19 (hget_up eh27 (hget_up eh25 (hget_top eh23))) (pro_call l4 l4 gh27) (.d (.b true)) (.p H.length 0) (.p hB.length 0) (.d (.i .i64 0)) (.p h23.length 0) (.p h25.length 0)
    rw [← eh29] at q19
    have q20 := roots_20 (hget_up eh29 (hget_up eh27 (hget_up eh25 (hget_up eh23 (hget_up ehU (hget_top ehT)))))) (pro_call u3 u3 gh29) (.d (.b true)) (.p H.length 0) (.d (.i .i64 0)) (.p h23.length 0) (.p h25.length 0) (.p h27.length 0)
    rw [← eh31] at q20
    have q21 := roots_21 (hget_up eh31 (hget_up eh29 (hget_up eh27 (hget_top eh25)))) (pro_call u4 u4 gh31) (.d (.b true)) (.p H.length 0) (.d (.i .i64 0)) (.p h25.length 0) (.p h27.length 0) (.p h29.length 0)
    rw [← eh33] at q21
    have q22 := roots_22 (hget_up eh33 (hget_up eh31 (hget_up eh29 (hget_up eh27 (hget_up eh25 (hget_up eh23 (hget_up ehU (hget_up ehT tB)))))))) (hget_up eh33 (hget_up eh31 (hget_up eh29 (hget_top eh27)))) (hget_up eh33 (hget_up eh31 (hget_top eh29))) (compare_val (mul_s3 l3 l3).2.2 s1.fits gh33) (compare_val (mul_s3 l4 l4).2.2 s1.fits gh33) (cmpQ_le.2 l1) (cmpQ_gt.2 l2) (.d (.b true)) (.d (.i .i64 0)) (.p h23.length 0) (.p h29.length 0) (.p h31.length 0)
    have q23 := roots_23 (hget_up eh33 (hget_up eh31 (hget_up eh29 (hget_up eh27 (hget_up eh25 (hget_up eh23 (hget_up ehU (hget_up ehT tB)))))))) (hget_up eh33 (hget_top eh31)) (hget_up eh33 (hget_up eh31 (hget_up eh29 (hget_up eh27 (hget_top eh25))))) (hget_top eh33) (zero_q _) (compare_val (mul_s3 u3 u3).2.2 s2.fits gh33) (compare_val u4.fits fz gh33) (compare_val (mul_s3 u4 u4).2.2 s2.fits gh33) (cmpQ_ge.2 u1) (u2.imp cmpQ_lt.2 cmpQ_lt.2) (.d (.b true)) (.d (.i .i64 0)) (.d (.b true))
    obtain ⟨K,hK⟩ : ∃ K : Hp,h33 = K ++ H := ⟨_ :: _ :: _ :: _ :: _ :: _ :: _ :: _ :: _ :: [],by rw [eh33,eh31,eh29,eh27,eh25,eh23,ehU,ehT,ehB]; rfl⟩
    refine ⟨K,?_⟩
    rw [evI_seq,q12]
    simp only [thenR]
    rw [evI_seq,q13]
    simp only [thenR]
    rw [evI_seq,q14]
    simp only [thenR]
    rw [evI_seq,q15]
    simp only [thenR]
    rw [evI_seq,q16]
    simp only [thenR]
    rw [evI_seq,q17]
    simp only [thenR]
    rw [evI_seq,q18]
    simp only [thenR]
    rw [evI_seq,q19]
    simp only [thenR]
    rw [evI_seq,q20]
    simp only [thenR]
    rw [evI_seq,q21]
    simp only [thenR]
    rw [evI_seq,q22]
    simp only [thenR]
    rw [evI_seq,q23]
    simp only [thenR]
    rw [roots_24,hK]
set_option maxHeartbeats 1000000 in
theorem Roots_ok (x0 x1 x2 x3 m n y0 y1 y2 y3 : Int) (hx0 : I64 x0) (hx1 : I64 x1) (hx2 : I64 x2) (hx3 : I64 x3) (hm : I64 m) (hn : I64 n) (hy0 : I64 y0) (hy1 : I64 y1) (hy2 : I64 y2) (hy3 : I64 y3) {H : Hp} {o : EO} (hG : Glb H) (hE : ErrAt H o) :
    callV cS false (fnV 4) [.d (.agg [.i .i64 x0,.i .i64 x1,.i .i64 x2,.i .i64 x3]),.d (.i .i64 m),.d (.i .i64 n),.d (.agg [.i .i64 y0,.i .i64 y1,.i .i64 y2,.i .i64 y3])] H = some (.val (.d (.b true)),H) := by
  rw [callV_fn (sf := c4) rfl rfl rfl rfl]
  have hb : b4 = .seq (nthC 0 b4) (.seq (nthC 1 b4) (.seq (nthC 2 b4) (.seq (nthC 3 b4) (.seq (nthC 4 b4) (.seq (nthC 5 b4) (.seq (nthC 6 b4) (.seq (nthC 7 b4) (.seq (nthC 8 b4) (.seq (nthC 9 b4) (.seq (nthC 10 b4) (.seq (nthC 11 b4) (.seq (nthC 12 b4) (.seq (nthC 13 b4) (.seq (nthC 14 b4) (.seq (nthC 15 b4) (.seq (nthC 16 b4) (.seq (nthC 17 b4) (.seq (nthC 18 b4) (.seq (nthC 19 b4) (.seq (nthC 20 b4) (.seq (nthC 21 b4) (.seq (nthC 22 b4) (.seq (nthC 23 b4) (tlC 24 b4)))))))))))))))))))))))) := rfl
  have ma := Made_ok x0 x1 x2 x3 hx0 hx1 hx2 hx3
  have mb := Made_ok y0 y1 y2 y3 hy0 hy1 hy2 hy3
  have la := made_le x0 x1 x2 x3
  have lb := made_le y0 y1 y2 y3
  obtain ⟨sa1,sa2⟩ := made_sm x0 x1 x2 x3
  obtain ⟨sb1,sb2⟩ := made_sm y0 y1 y2 y3
  generalize madeLo x0 x1 x2 x3 = a1 at *
  generalize madeHi x0 x1 x2 x3 = a2 at *
  generalize madeLo y0 y1 y2 y3 = b1 at *
  generalize madeHi y0 y1 y2 y3 = b2 at *
  simp only [dI4] at ma mb
  obtain ⟨hA,ehA⟩ : ∃ hA : Hp,hA = .box 22 [.d (.i .i64 y0),.d (.i .i64 y1),.d (.i .i64 y2),.d (.i .i64 y3)] :: .box 22 [.d (.i .i64 x0),.d (.i .i64 x1),.d (.i .i64 x2),.d (.i .i64 x3)] :: H := ⟨_,rfl⟩
  have glA : Glb hA := by rw [ehA]; exact (hG.cons _).cons _
  have erA : ErrAt hA o := by rw [ehA]; exact (hE.cons _).cons _
  have k2 : hget hA H.length = some (.box 22 [.d (.i .i64 x0),.d (.i .i64 x1),.d (.i .i64 x2),.d (.i .i64 x3)]) := by rw [ehA]; simp [put,eset,eget,D.cells,V.cells,allD,hget,hset,fz,List.zipIdx_cons,List.zipIdx_nil]
  have k3 : hget hA (H.length + 1) = some (.box 22 [.d (.i .i64 y0),.d (.i .i64 y1),.d (.i .i64 y2),.d (.i .i64 y3)]) := by rw [ehA]; simp [put,eset,eget,D.cells,V.cells,allD,hget,hset,fz,List.zipIdx_cons,List.zipIdx_nil]
  obtain ⟨kn0,kn1⟩ := pickI_range n (show (0 : Int) < 13 by omega)
  obtain ⟨km0,km1⟩ := pickI_range m (show (0 : Int) < 101 by omega)
  have q0 := roots_0 H x0 x1 x2 x3 y0 y1 y2 y3 m n
  rw [← ehA] at q0
  have q1 := roots_1 glA erA (.d (.i .i64 m)) (.d (.i .i64 n)) (.p H.length 0) (.p (H.length + 1) 0)
  have q2 := roots_2 (H := hA) n hn (.d (.i .i64 m)) (.p H.length 0) (.p (H.length + 1) 0) (.d (.b true))
  obtain ⟨k,hk⟩ := Int.eq_ofNat_of_zero_le kn0
  rw [hk] at q2 kn1
  have hk12 : k ≤ 12 := by omega
  have hk0 : (0 : Int) ≤ k := by omega
  have hk1 : (k : Int) ≤ 12 := by omega
  have q3 := roots_3 k2 (ma hA) (.d (.i .i64 m)) (.d (.i .i64 (k : Int))) (.p (H.length + 1) 0) (.d (.b true))
  have q456 := roots_456 glA sa1 sa2 la hm (.d (.i .i64 (k : Int))) (.p (H.length + 1) 0) (.d (.b true))
  obtain ⟨⟨cl1,cl2⟩,cl3,cl4⟩ := clamp_facts sa1 sa2
  generalize clampL a1 = A at *
  generalize clampH a1 a2 = B at *
  obtain ⟨i1,i2⟩ := inside_mem cl2 (pickI m 101) km0 (by omega)
  obtain ⟨_,_,_,hr⟩ := inside_s3 cl3 cl4 (pickI m 101) km0 (by omega)
  generalize insideQ A B (pickI m 101) = r at *
  have sA := s3_of cl3
  have sB := s3_of cl4
  obtain ⟨sAA,nA⟩ := sq_s3 cl3
  obtain ⟨sBB,nB⟩ := sq_s3 cl4
  have cB : 0 ≤ B := Rat.le_trans cl1 cl2
  have pA : 0 ≤ A * A := Rat.mul_nonneg cl1 cl1
  have pB : 0 ≤ B * B := Rat.mul_nonneg cB cB
  have hAB : A * A ≤ B * B := Rat.le_trans (Rat.mul_le_mul_of_nonneg_left cl2 cl1) (Rat.mul_le_mul_of_nonneg_right cl2 cB)
  obtain ⟨⟨l0,l1,l2,l3,l4⟩,_⟩ := rt_facts (n := (k : Int)) hk1 pA nA
  obtain ⟨_,u0,u1,u2,u3,u4⟩ := rt_facts (n := (k : Int)) hk1 pB nB
  obtain ⟨h11,eh11⟩ : ∃ h : Hp,h = .box 26 [.d (.s (txt r.num)),.d (.s (txt r.den))] :: .box 29 [.d (.s (txt A.num)),.d (.s (txt A.den)),.d (.s (txt B.num)),.d (.s (txt B.den))] :: hA := ⟨_,rfl⟩
  have gh11 : Glb h11 := by rw [eh11]; exact (glA.cons _).cons _
  have er11 : ErrAt h11 o := by rw [eh11]; exact (erA.cons _).cons _
  have gA : hget h11 hA.length = some (.box 29 [.d (.s (txt A.num)),.d (.s (txt A.den)),.d (.s (txt B.num)),.d (.s (txt B.den))]) := by rw [eh11]; simp [put,eset,eget,D.cells,V.cells,allD,hget,hset,fz,List.zipIdx_cons,List.zipIdx_nil]
  have gr : hget h11 (hA.length + 1) = some (.box 26 [.d (.s (txt r.num)),.d (.s (txt r.den))]) := by rw [eh11]; simp [put,eset,eget,D.cells,V.cells,allD,hget,hset,fz,List.zipIdx_cons,List.zipIdx_nil]
  have gy : hget h11 (H.length + 1) = some (.box 22 [.d (.i .i64 y0),.d (.i .i64 y1),.d (.i .i64 y2),.d (.i .i64 y3)]) := by rw [eh11]; exact hget_up rfl (hget_up rfl k3)
  obtain ⟨h12,eh12⟩ : ∃ h : Hp,h = .box 26 [.d (.s (txt (A * A).num)),.d (.s (txt (A * A).den))] :: h11 := ⟨_,rfl⟩
  have gh12 : Glb h12 := by rw [eh12]; exact gh11.cons _
  have er12 : ErrAt h12 o := by rw [eh12]; exact er11.cons _
  obtain ⟨h14,eh14⟩ : ∃ h : Hp,h = .box 26 [.d (.s (txt (B * B).num)),.d (.s (txt (B * B).den))] :: h12 := ⟨_,rfl⟩
  have gh14 : Glb h14 := by rw [eh14]; exact gh12.cons _
  have er14 : ErrAt h14 o := by rw [eh14]; exact er12.cons _
  have q7 := roots_7 gA (pro_call sA sA gh11) (.d (.i .i64 (k : Int))) (.p (H.length + 1) 0) (.d (.b true)) (.p (hA.length + 1) 0)
  rw [← eh12] at q7
  have q8 := roots_8 (hget_up eh12 gA) (pro_call sB sB gh12) (.d (.i .i64 (k : Int))) (.p (H.length + 1) 0) (.d (.b true)) (.p (hA.length + 1) 0) (.p h11.length 0)
  rw [← eh14] at q8
  have sq : callV cS false (fnV 22) [.d (.agg [.s (txt (A * A).num),.s (txt (A * A).den),.s (txt (B * B).num),.s (txt (B * B).den)]),.d (.i .i64 (k : Int))] h14 = some (.val (.d (.tup [(.agg [.s (txt (rtLo k (A * A)).num),.s (txt (rtLo k (A * A)).den),.s (txt (rtHi k (B * B)).num),.s (txt (rtHi k (B * B)).den)]),.i .i64 0])),h14) := sqrt_val hk0 hk1 sAA sBB hAB pA gh14 er14
  have q9 := roots_9 (hget_up eh14 (hget_top eh12)) (hget_top eh14) sq (.p (H.length + 1) 0) (.d (.b true)) (.p (hA.length + 1) 0)
  obtain ⟨h16,eh16⟩ : ∃ h : Hp,h = .box 29 [.d (.s (txt (rtLo k (A * A)).num)),.d (.s (txt (rtLo k (A * A)).den)),.d (.s (txt (rtHi k (B * B)).num)),.d (.s (txt (rtHi k (B * B)).den))] :: h14 := ⟨_,rfl⟩
  have gh16 : Glb h16 := by rw [eh16]; exact gh14.cons _
  have er16 : ErrAt h16 o := by rw [eh16]; exact er14.cons _
  have e1 : rtLo k (A * A) ≤ r := Rat.le_trans (sq_le cl1 l1) i1
  have e2 : r ≤ rtHi k (B * B) := Rat.le_trans i2 (sq_le u0 u1)
  have hc := contains_val l3.fits u3.fits hr.fits (Rat.le_trans e1 e2) gh16
  rw [decide_eq_true e1,decide_eq_true e2] at hc
  have t16 := hget_top eh16
  have q10 := roots_10 t16 (hget_up eh16 (hget_up eh14 (hget_up eh12 gr))) hc (.d (.i .i64 (k : Int))) (.p (H.length + 1) 0) (.d (.b true))
  have q9' : evI cS (nthC 9 b4) none [(2,.d (.i .i64 (k : Int))),(7,.p (H.length + 1) 0),(9,.d (.b true)),(11,.p (hA.length + 1) 0),(12,.p h11.length 0),(14,.p h12.length 0)] h14 = some (.nor,[(2,.d (.i .i64 (k : Int))),(7,.p (H.length + 1) 0),(9,.d (.b true)),(11,.p (hA.length + 1) 0),(16,.p h14.length 0),(17,.d (.i .i64 0))],h16) := by rw [eh16]; exact q9
  have q11 := roots_11 (hget_up eh16 (hget_up eh14 (hget_up eh12 gy))) (mb h16) (.d (.i .i64 (k : Int))) (.d (.b true)) (.d (.b false))
  obtain ⟨L,hL⟩ := roots_low gh16 er16 sb1 sb2 lb hk12
  obtain ⟨K,hK⟩ : ∃ K : Hp,h16 = K ++ H := ⟨_ :: _ :: _ :: _ :: _ :: _ :: _ :: [],by rw [eh16,eh14,eh12,eh11,ehA]; rfl⟩
  have hen : enter [.d (.agg [.i .i64 x0,.i .i64 x1,.i .i64 x2,.i .i64 x3]),.d (.i .i64 m),.d (.i .i64 n),.d (.agg [.i .i64 y0,.i .i64 y1,.i .i64 y2,.i .i64 y3])] = [(0,.d (.agg [.i .i64 x0,.i .i64 x1,.i .i64 x2,.i .i64 x3])),(1,.d (.i .i64 m)),(2,.d (.i .i64 n)),(3,.d (.agg [.i .i64 y0,.i .i64 y1,.i .i64 y2,.i .i64 y3]))] := rfl
  have hev : evI cS b4 none (enter [.d (.agg [.i .i64 x0,.i .i64 x1,.i .i64 x2,.i .i64 x3]),.d (.i .i64 m),.d (.i .i64 n),.d (.agg [.i .i64 y0,.i .i64 y1,.i .i64 y2,.i .i64 y3])]) H = some (.rt,[(8,.d (.b true))],(L ++ K) ++ H) := by
    rw [hen,hb]
    rw [evI_seq,q0]
    simp only [thenR]
    rw [evI_seq,q1]
    simp only [thenR]
    rw [evI_seq,q2]
    simp only [thenR]
    rw [evI_seq,q3]
    simp only [thenR]
    rw [q456,← eh11]
    rw [evI_seq,q7]
    simp only [thenR]
    rw [evI_seq,q8]
    simp only [thenR]
    rw [evI_seq,q9']
    simp only [thenR]
    rw [evI_seq,q10]
    simp only [thenR]
    rw [evI_seq,q11]
    simp only [thenR]
    rw [hL,hK,List.append_assoc]
  have hbd : c4.body = b4 := rfl
  simp only [List.map_nil,List.nil_append,List.append_nil,hbd,hev]
  have := fin_app (L ++ K) H (.b true)
  simp only [c4,outOf,resAll,resOf,resV,eget,mkTup]
  simpa using this
end Go.Proofs.YtmiioebapckcoaaGreatDoor
end
