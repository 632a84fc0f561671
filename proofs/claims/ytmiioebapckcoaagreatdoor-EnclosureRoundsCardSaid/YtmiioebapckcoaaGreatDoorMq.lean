/- Proved: EnclosureRounds returns true and leaves its input alone, for every input (the tied card Rows.EnclosureRoundsCardSaid). Condition: the listed package variables hold at the start what the program text lays. -/
import Derived.Test.YtmiioebapckcoaaGreatDoorMp
set_option linter.unusedVariables false
set_option linter.unusedSimpArgs false
section
/- The tied card of EnclosureRounds. -/
namespace Go.Proofs.YtmiioebapckcoaaGreatDoor
open Go Num

theorem list4 {l : List Int} (h : l.length = 4) : ∃ a b c d, l = [a, b, c, d] := by
  match l, h with
  | [a, b, c, d], _ => exact ⟨a, b, c, d, rfl⟩
theorem rounds_law : EnclosureRounds.Ok := by
  intro xs ys n lx ly ix iy hn H o hG hE
  obtain ⟨x0, x1, x2, x3, rfl⟩ := list4 lx
  obtain ⟨y0, y1, y2, y3, rfl⟩ := list4 ly
  exact Rounds_ok x0 x1 x2 x3 y0 y1 y2 y3 n (ix _ (by simp)) (ix _ (by simp)) (ix _ (by simp)) (ix _ (by simp)) (iy _ (by simp)) (iy _ (by simp)) (iy _ (by simp)) (iy _ (by simp)) hn hG hE
theorem enclosureRounds_holds : Rows.EnclosureRoundsCardSaid := EnclosureRounds.card rounds_law
#print axioms enclosureRounds_holds
end Go.Proofs.YtmiioebapckcoaaGreatDoor
end
