/- Proved: EnclosureNarrower returns true and leaves its input alone, for every input (the tied card Rows.EnclosureNarrowerCardSaid). Condition: the listed package variables hold at the start what the program text lays. -/
import Derived.Test.YtmiioebapckcoaaGreatDoorMs
set_option linter.unusedVariables false
set_option linter.unusedSimpArgs false
section
/- The tied card of EnclosureNarrower. -/
namespace Go.Proofs.YtmiioebapckcoaaGreatDoor
open Go Num

theorem narrower_law : EnclosureNarrower.Ok := by
  intro xs ys ws n lx ly lw ix iy iw hn H o hG hE
  obtain ⟨x0, x1, x2, x3, rfl⟩ := list4 lx
  obtain ⟨y0, y1, y2, y3, rfl⟩ := list4 ly
  obtain ⟨w0, w1, w2, w3, rfl⟩ := list4 lw
  exact Narrower_ok x0 x1 x2 x3 y0 y1 y2 y3 w0 w1 w2 w3 n (ix _ (by simp)) (ix _ (by simp)) (ix _ (by simp)) (ix _ (by simp)) (iy _ (by simp)) (iy _ (by simp)) (iy _ (by simp)) (iy _ (by simp)) (iw _ (by simp)) (iw _ (by simp)) (iw _ (by simp)) (iw _ (by simp)) hn hG hE
theorem enclosureNarrower_holds : Rows.EnclosureNarrowerCardSaid := EnclosureNarrower.card narrower_law
#print axioms enclosureNarrower_holds
end Go.Proofs.YtmiioebapckcoaaGreatDoor
end
