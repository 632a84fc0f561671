/- Part 8 of a proof: the small semantics, its soundness, the functions of the program in it, and the law. -/
import Derived.Test.YtmiioebapckcoaaGreatDoorKg
set_option linter.unusedVariables false
set_option linter.unusedSimpArgs false
section
/- MADE BY A PROGRAM OF THE CLAIM (wip/tools/Gen.lean): the seat's functions in the small language. -/
namespace Go.Proofs.YtmiioebapckcoaaGreatDoor
open Go
/-- an operation without a guard -/
@[simp] def o1 (t : Nat) (x : SOp) : SO := ⟨some t,x,none⟩
@[simp] def mv (t s : Nat) : SO := ⟨some t,.move (.t s),none⟩
end Go.Proofs.YtmiioebapckcoaaGreatDoor
end
