/- Part 8 of a proof: the small semantics, its soundness, the functions of the program in it, and the law. -/
import Derived.Test.YtmiioebapckcoaaGreatDoorJg
set_option linter.unusedVariables false
set_option linter.unusedSimpArgs false
namespace Go.Proofs.YtmiioebapckcoaaGreatDoor
section
open Go
@[simp] def o1 (t:Nat) (x:SOp):SO:=⟨some t,x,none⟩
@[simp] def mv (t s:Nat):SO:=⟨some t,.move (.t s),none⟩
end
end Go.Proofs.YtmiioebapckcoaaGreatDoor
