/-
  DERIVED. GIVEN WITH THE SEED: THE CARDS: each row of YtmiioebapckcoaaGreatDoorRows.lean that lists a variable, with what it lists TIED to the program's text (the seventh form; the later family's looks); each row that meets fmt, with fmt's text TOLD by the authors' own Lean function (tested against real Go, not proved from fmt's source: count such statements apart). THE CARD IS WHAT COUNTS. Prove the row's statement (the work); the ties are given (YtmiioebapckcoaaGreatDoorTie.lean); close each card by the builder's one call (the guide's Derived/Test/ToyasCard.lean, 'card_holds'). Laid BY PROGRAM, IN A SANDBOX (cutbox-door.mjs). By AI agents, Wed Nov 11 2026. No macro, syntax, notation, axiom, sorry.
-/
import Derived.Test.YtmiioebapckcoaaGreatDoorRows
import GoSem.ClaimSeven
namespace Go.Proofs.YtmiioebapckcoaaGreatDoor
namespace Rows

/-- THE TIED CARD OF 'workpiecelaw05.EnclosureRounds'. -/
def enclosureRoundsCard : Claim7 := { stood := { row := enclosureRoundsRow, standIns := [], harness := (true, "b747f7aa56262c32d4693aed8386dc57d01d036883d1a27c009dfbb6e8204934"), looks := true }, kinds := [], alts := [], laidByText := true, laidKinds := [.data, .data, .data, .data, .sentinel, .sentinel, .sentinel, .pinned], laidTests := true, laidLooks := .later }
def EnclosureRoundsCardSaid : Prop := Claim7.holds Tryz.pinned (.plain (OpenSpec.ofChange enclosureRoundsSpec)) enclosureRoundsCard

/-- THE TIED CARD OF 'workpiecelaw05.EnclosureRoots'. -/
def enclosureRootsCard : Claim7 := { stood := { row := enclosureRootsRow, standIns := [], harness := (true, "b747f7aa56262c32d4693aed8386dc57d01d036883d1a27c009dfbb6e8204934"), looks := true }, kinds := [], alts := [], laidByText := true, laidKinds := [.data, .data, .data, .data, .sentinel, .sentinel, .sentinel, .pinned], laidTests := true, laidLooks := .later }
def EnclosureRootsCardSaid : Prop := Claim7.holds Tryz.pinned (.plain (OpenSpec.ofChange enclosureRootsSpec)) enclosureRootsCard

/-- THE TIED CARD OF 'workpiecelaw05.EnclosureMeets'. -/
def enclosureMeetsCard : Claim7 := { stood := { row := enclosureMeetsRow, standIns := [], harness := (true, "b747f7aa56262c32d4693aed8386dc57d01d036883d1a27c009dfbb6e8204934"), looks := true }, kinds := [], alts := [], laidByText := true, laidKinds := [.data, .data, .data, .data, .sentinel, .sentinel, .sentinel, .pinned], laidTests := true, laidLooks := .later }
def EnclosureMeetsCardSaid : Prop := Claim7.holds Tryz.pinned (.plain (OpenSpec.ofChange enclosureMeetsSpec)) enclosureMeetsCard

/-- THE TIED CARD OF 'workpiecelaw05.EnclosureMatchesReference'. -/
def enclosureMatchesReferenceCard : Claim7 := { stood := { row := enclosureMatchesReferenceRow, standIns := [], harness := (true, "b747f7aa56262c32d4693aed8386dc57d01d036883d1a27c009dfbb6e8204934"), looks := true }, kinds := [], alts := [], laidByText := true, laidKinds := [.data, .data, .data, .data, .sentinel, .sentinel, .sentinel, .pinned], laidTests := true, laidLooks := .later }
def EnclosureMatchesReferenceCardSaid : Prop := Claim7.holds Tryz.pinned (.plain (OpenSpec.ofChange enclosureMatchesReferenceSpec)) enclosureMatchesReferenceCard

/-- THE TIED CARD OF 'workpiecelaw05.EnclosureContains'. -/
def enclosureContainsCard : Claim7 := { stood := { row := enclosureContainsRow, standIns := [], harness := (true, "b747f7aa56262c32d4693aed8386dc57d01d036883d1a27c009dfbb6e8204934"), looks := true }, kinds := [], alts := [], laidByText := true, laidKinds := [.data, .data, .data, .data, .sentinel, .sentinel, .sentinel, .pinned], laidTests := true, laidLooks := .later }
def EnclosureContainsCardSaid : Prop := Claim7.holds Tryz.pinned (.plain (OpenSpec.ofChange enclosureContainsSpec)) enclosureContainsCard

/-- THE TIED CARD OF 'workpiecelaw05.EnclosureTight'. -/
def enclosureTightCard : Claim7 := { stood := { row := enclosureTightRow, standIns := [], harness := (true, "b747f7aa56262c32d4693aed8386dc57d01d036883d1a27c009dfbb6e8204934"), looks := true }, kinds := [], alts := [], laidByText := true, laidKinds := [.data, .data, .data, .data, .sentinel, .sentinel, .sentinel, .pinned], laidTests := true, laidLooks := .later }
def EnclosureTightCardSaid : Prop := Claim7.holds Tryz.pinned (.plain (OpenSpec.ofChange enclosureTightSpec)) enclosureTightCard

/-- THE TIED CARD OF 'workpiecelaw05.EnclosureNarrower'. -/
def enclosureNarrowerCard : Claim7 := { stood := { row := enclosureNarrowerRow, standIns := [], harness := (true, "b747f7aa56262c32d4693aed8386dc57d01d036883d1a27c009dfbb6e8204934"), looks := true }, kinds := [], alts := [], laidByText := true, laidKinds := [.data, .data, .data, .data, .sentinel, .sentinel, .sentinel, .pinned], laidTests := true, laidLooks := .later }
def EnclosureNarrowerCardSaid : Prop := Claim7.holds Tryz.pinned (.plain (OpenSpec.ofChange enclosureNarrowerSpec)) enclosureNarrowerCard

/-- THE SECOND FORM's CARD OF 'workpiecelaw05.EnclosureRounds'. -/
def enclosureRoundsUptoCard : Claim7 := { stood := { row := enclosureRoundsUptoRow, standIns := [], harness := (true, "b747f7aa56262c32d4693aed8386dc57d01d036883d1a27c009dfbb6e8204934"), looks := true }, kinds := [], alts := [], laidByText := true, laidKinds := [.data, .data, .data, .data, .sentinel, .sentinel, .sentinel, .pinned], laidTests := true, laidLooks := .later }
def EnclosureRoundsUptoCardSaid : Prop := Claim7.holds Tryz.pinned (.plain (OpenSpec.upto enclosureRoundsSpec)) enclosureRoundsUptoCard

/-- THE SECOND FORM's CARD OF 'workpiecelaw05.EnclosureRoots'. -/
def enclosureRootsUptoCard : Claim7 := { stood := { row := enclosureRootsUptoRow, standIns := [], harness := (true, "b747f7aa56262c32d4693aed8386dc57d01d036883d1a27c009dfbb6e8204934"), looks := true }, kinds := [], alts := [], laidByText := true, laidKinds := [.data, .data, .data, .data, .sentinel, .sentinel, .sentinel, .pinned], laidTests := true, laidLooks := .later }
def EnclosureRootsUptoCardSaid : Prop := Claim7.holds Tryz.pinned (.plain (OpenSpec.upto enclosureRootsSpec)) enclosureRootsUptoCard

/-- THE SECOND FORM's CARD OF 'workpiecelaw05.EnclosureMeets'. -/
def enclosureMeetsUptoCard : Claim7 := { stood := { row := enclosureMeetsUptoRow, standIns := [], harness := (true, "b747f7aa56262c32d4693aed8386dc57d01d036883d1a27c009dfbb6e8204934"), looks := true }, kinds := [], alts := [], laidByText := true, laidKinds := [.data, .data, .data, .data, .sentinel, .sentinel, .sentinel, .pinned], laidTests := true, laidLooks := .later }
def EnclosureMeetsUptoCardSaid : Prop := Claim7.holds Tryz.pinned (.plain (OpenSpec.upto enclosureMeetsSpec)) enclosureMeetsUptoCard

/-- THE SECOND FORM's CARD OF 'workpiecelaw05.EnclosureMatchesReference'. -/
def enclosureMatchesReferenceUptoCard : Claim7 := { stood := { row := enclosureMatchesReferenceUptoRow, standIns := [], harness := (true, "b747f7aa56262c32d4693aed8386dc57d01d036883d1a27c009dfbb6e8204934"), looks := true }, kinds := [], alts := [], laidByText := true, laidKinds := [.data, .data, .data, .data, .sentinel, .sentinel, .sentinel, .pinned], laidTests := true, laidLooks := .later }
def EnclosureMatchesReferenceUptoCardSaid : Prop := Claim7.holds Tryz.pinned (.plain (OpenSpec.upto enclosureMatchesReferenceSpec)) enclosureMatchesReferenceUptoCard

/-- THE SECOND FORM's CARD OF 'workpiecelaw05.EnclosureContains'. -/
def enclosureContainsUptoCard : Claim7 := { stood := { row := enclosureContainsUptoRow, standIns := [], harness := (true, "b747f7aa56262c32d4693aed8386dc57d01d036883d1a27c009dfbb6e8204934"), looks := true }, kinds := [], alts := [], laidByText := true, laidKinds := [.data, .data, .data, .data, .sentinel, .sentinel, .sentinel, .pinned], laidTests := true, laidLooks := .later }
def EnclosureContainsUptoCardSaid : Prop := Claim7.holds Tryz.pinned (.plain (OpenSpec.upto enclosureContainsSpec)) enclosureContainsUptoCard

/-- THE SECOND FORM's CARD OF 'workpiecelaw05.EnclosureTight'. -/
def enclosureTightUptoCard : Claim7 := { stood := { row := enclosureTightUptoRow, standIns := [], harness := (true, "b747f7aa56262c32d4693aed8386dc57d01d036883d1a27c009dfbb6e8204934"), looks := true }, kinds := [], alts := [], laidByText := true, laidKinds := [.data, .data, .data, .data, .sentinel, .sentinel, .sentinel, .pinned], laidTests := true, laidLooks := .later }
def EnclosureTightUptoCardSaid : Prop := Claim7.holds Tryz.pinned (.plain (OpenSpec.upto enclosureTightSpec)) enclosureTightUptoCard

/-- THE SECOND FORM's CARD OF 'workpiecelaw05.EnclosureNarrower'. -/
def enclosureNarrowerUptoCard : Claim7 := { stood := { row := enclosureNarrowerUptoRow, standIns := [], harness := (true, "b747f7aa56262c32d4693aed8386dc57d01d036883d1a27c009dfbb6e8204934"), looks := true }, kinds := [], alts := [], laidByText := true, laidKinds := [.data, .data, .data, .data, .sentinel, .sentinel, .sentinel, .pinned], laidTests := true, laidLooks := .later }
def EnclosureNarrowerUptoCardSaid : Prop := Claim7.holds Tryz.pinned (.plain (OpenSpec.upto enclosureNarrowerSpec)) enclosureNarrowerUptoCard
end Rows
end Go.Proofs.YtmiioebapckcoaaGreatDoor
