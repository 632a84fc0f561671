/- Proved: EnclosureMatchesReference returns true and leaves its input alone, for every input (the tied card Rows.EnclosureMatchesReferenceCardSaid). Condition: the listed package variables hold at the start what the program text lays. -/
import Derived.Test.YtmiioebapckcoaaGreatDoorJv
set_option linter.unusedVariables false
set_option linter.unusedSimpArgs false
namespace Go.Proofs.YtmiioebapckcoaaGreatDoor
section
open Go Num
theorem reference_law:EnclosureMatchesReference.Ok:=by
 intro a b xs ys zs n lx ly lz ia ib ix iy iz hn H o hG hE
 obtain⟨x0,x1,x2,x3,rfl⟩:=list4 lx
 obtain⟨y0,y1,y2,y3,rfl⟩:=list4 ly
 obtain⟨z0,z1,z2,z3,rfl⟩:=list4 lz
 exact Ref_ok a b x0 x1 x2 x3 y0 y1 y2 y3 z0 z1 z2 z3 n ia.1.1 ia.1.2 ia.2.1 ia.2.2 ib.1.1 ib.1.2 ib.2.1 ib.2.2 (ix _ (by simp)) (ix _ (by simp)) (ix _ (by simp)) (ix _ (by simp)) (iy _ (by simp)) (iy _ (by simp)) (iy _ (by simp)) (iy _ (by simp)) (iz _ (by simp)) (iz _ (by simp)) (iz _ (by simp)) (iz _ (by simp)) hn hG hE
theorem enclosureMatchesReference_holds:Rows.EnclosureMatchesReferenceCardSaid:=EnclosureMatchesReference.card reference_law
#print axioms enclosureMatchesReference_holds
end
end Go.Proofs.YtmiioebapckcoaaGreatDoor
