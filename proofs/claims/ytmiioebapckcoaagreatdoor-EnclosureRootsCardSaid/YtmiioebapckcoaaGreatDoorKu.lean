/- Proved: EnclosureRoots returns true and leaves its input alone, for every input (the tied card Rows.EnclosureRootsCardSaid). Condition: the listed package variables hold at the start what the program text lays. -/
import Derived.Test.YtmiioebapckcoaaGreatDoorKt
set_option linter.unusedVariables false
set_option linter.unusedSimpArgs false
section
/- The tied card of EnclosureRoots. -/
namespace Go.Proofs.YtmiioebapckcoaaGreatDoor
open Go Num

theorem roots_law : EnclosureRoots.Ok := by
  intro xs m n ys lx ly ix hm hn iy H o hG hE
  obtain ⟨x0,x1,x2,x3,rfl⟩ := list4 lx
  obtain ⟨y0,y1,y2,y3,rfl⟩ := list4 ly
  exact Roots_ok x0 x1 x2 x3 m n y0 y1 y2 y3 (ix _ (by simp)) (ix _ (by simp)) (ix _ (by simp)) (ix _ (by simp)) hm hn (iy _ (by simp)) (iy _ (by simp)) (iy _ (by simp)) (iy _ (by simp)) hG hE
theorem enclosureRoots_holds : Rows.EnclosureRootsCardSaid := EnclosureRoots.card roots_law
#print axioms enclosureRoots_holds
end Go.Proofs.YtmiioebapckcoaaGreatDoor
end
