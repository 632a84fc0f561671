/- Proved: EnclosureMeets returns true and leaves its input alone, for every input (the tied card Rows.EnclosureMeetsCardSaid). Condition: the listed package variables hold at the start what the program text lays. -/
import Derived.Test.YtmiioebapckcoaaGreatDoorMr
set_option linter.unusedVariables false
set_option linter.unusedSimpArgs false
section
/- The tied card of EnclosureMeets. -/
namespace Go.Proofs.YtmiioebapckcoaaGreatDoor
open Go Num

theorem meets_law : EnclosureMeets.Ok := by
  intro xs ys zs lx ly lz ix iy iz H o hG hE
  obtain ⟨x0, x1, x2, x3, rfl⟩ := list4 lx
  obtain ⟨y0, y1, y2, y3, rfl⟩ := list4 ly
  obtain ⟨z0, z1, rfl⟩ := list2 lz
  exact Meets_ok x0 x1 x2 x3 y0 y1 y2 y3 z0 z1 (ix _ (by simp)) (ix _ (by simp)) (ix _ (by simp)) (ix _ (by simp)) (iy _ (by simp)) (iy _ (by simp)) (iy _ (by simp)) (iy _ (by simp)) (iz _ (by simp)) (iz _ (by simp)) hG hE
theorem enclosureMeets_holds : Rows.EnclosureMeetsCardSaid := EnclosureMeets.card meets_law
#print axioms enclosureMeets_holds
end Go.Proofs.YtmiioebapckcoaaGreatDoor
end
