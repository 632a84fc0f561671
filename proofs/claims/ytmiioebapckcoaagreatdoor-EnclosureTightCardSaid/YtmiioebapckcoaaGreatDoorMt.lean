/- Proved: EnclosureTight returns true and leaves its input alone, for every input (the tied card Rows.EnclosureTightCardSaid). Condition: the listed package variables hold at the start what the program text lays. -/
import Derived.Test.YtmiioebapckcoaaGreatDoorMs
set_option linter.unusedVariables false
set_option linter.unusedSimpArgs false
section
/- The tied card of EnclosureTight. -/
namespace Go.Proofs.YtmiioebapckcoaaGreatDoor
open Go Num

theorem tight_law : EnclosureTight.Ok := by
  intro xs ys lx ly ix iy H o hG hE
  obtain ⟨x0, x1, x2, x3, rfl⟩ := list4 lx
  obtain ⟨y0, y1, y2, y3, rfl⟩ := list4 ly
  exact Tight_ok x0 x1 x2 x3 y0 y1 y2 y3 (ix _ (by simp)) (ix _ (by simp)) (ix _ (by simp)) (ix _ (by simp)) (iy _ (by simp)) (iy _ (by simp)) (iy _ (by simp)) (iy _ (by simp)) hG hE
theorem enclosureTight_holds : Rows.EnclosureTightCardSaid := EnclosureTight.card tight_law
#print axioms enclosureTight_holds
end Go.Proofs.YtmiioebapckcoaaGreatDoor
end
