/- Proved: EnclosureContains returns true and leaves its input alone, for every input (the tied card Rows.EnclosureContainsCardSaid). Condition: the listed package variables hold at the start what the program text lays. -/
import Derived.Test.YtmiioebapckcoaaGreatDoorKt
set_option linter.unusedVariables false
set_option linter.unusedSimpArgs false
section
/- The tied card of EnclosureContains. -/
namespace Go.Proofs.YtmiioebapckcoaaGreatDoor
open Go Num

theorem contains_law : EnclosureContains.Ok := by
  intro xs ys m n lx ly ix iy hm hn H o hG hE
  obtain ⟨x0,x1,x2,x3,rfl⟩ := list4 lx
  obtain ⟨y0,y1,y2,y3,rfl⟩ := list4 ly
  exact LawContains_ok x0 x1 x2 x3 y0 y1 y2 y3 m n (ix _ (by simp)) (ix _ (by simp)) (ix _ (by simp)) (ix _ (by simp)) (iy _ (by simp)) (iy _ (by simp)) (iy _ (by simp)) (iy _ (by simp)) hm hn hG hE
theorem enclosureContains_holds : Rows.EnclosureContainsCardSaid := EnclosureContains.card contains_law
#print axioms enclosureContains_holds
end Go.Proofs.YtmiioebapckcoaaGreatDoor
end
