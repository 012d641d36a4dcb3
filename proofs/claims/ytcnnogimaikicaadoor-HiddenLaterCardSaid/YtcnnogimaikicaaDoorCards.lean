/-
  DERIVED. GIVEN WITH THE SEED: THE CARDS: each row of YtcnnogimaikicaaDoorRows.lean that lists a variable, with what it lists TIED to the program's text (the seventh form; the later family's looks); each row that meets fmt, with fmt's text TOLD by the authors' own Lean function (tested against real Go, not proved from fmt's source: count such statements apart). THE CARD IS WHAT COUNTS. Prove the row's statement (the work); the ties are given (YtcnnogimaikicaaDoorTie.lean); close each card by the builder's one call (the guide's Derived/Test/ToyasCard.lean, 'card_holds'). Laid BY PROGRAM, IN A SANDBOX (cutbox-door.mjs). By AI agents, Wed Nov 11 2026. No macro, syntax, notation, axiom, sorry.
-/
import Derived.Test.YtcnnogimaikicaaDoorRows
import GoSem.ClaimSeven
namespace Go.Proofs.YtcnnogimaikicaaDoor
namespace Rows

/-- THE TIED CARD OF 'signetkeep.PatternFew'. -/
def patternFewCard : Claim7 := { stood := { row := patternFewRow, standIns := [], harness := (true, "cd3c0f68b4f9d0f1c6d573cb44af72ebc170eb2d2a15c8e10d13bd71ae106fae"), looks := false }, kinds := [], alts := [], laidByText := true, laidKinds := [.data], laidTests := true, laidLooks := .later }
def PatternFewCardSaid : Prop := Claim7.holds Tryd.pinned (.plain (OpenSpec.ofChange patternFewSpec)) patternFewCard

/-- THE TIED CARD OF 'signetkeep.HiddenJust'. -/
def hiddenJustCard : Claim7 := { stood := { row := hiddenJustRow, standIns := [], harness := (true, "cd3c0f68b4f9d0f1c6d573cb44af72ebc170eb2d2a15c8e10d13bd71ae106fae"), looks := false }, kinds := [], alts := [], laidByText := true, laidKinds := [.data], laidTests := true, laidLooks := .later }
def HiddenJustCardSaid : Prop := Claim7.holds Tryd.pinned (.plain (OpenSpec.ofChange hiddenJustSpec)) hiddenJustCard

/-- THE TIED CARD OF 'signetkeep.HiddenLater'. -/
def hiddenLaterCard : Claim7 := { stood := { row := hiddenLaterRow, standIns := [], harness := (true, "cd3c0f68b4f9d0f1c6d573cb44af72ebc170eb2d2a15c8e10d13bd71ae106fae"), looks := false }, kinds := [], alts := [], laidByText := true, laidKinds := [.data], laidTests := true, laidLooks := .later }
def HiddenLaterCardSaid : Prop := Claim7.holds Tryd.pinned (.plain (OpenSpec.ofChange hiddenLaterSpec)) hiddenLaterCard

/-- THE TIED CARD OF 'signetkeep.PatternBack'. -/
def patternBackCard : Claim7 := { stood := { row := patternBackRow, standIns := [], harness := (true, "cd3c0f68b4f9d0f1c6d573cb44af72ebc170eb2d2a15c8e10d13bd71ae106fae"), looks := false }, kinds := [], alts := [], laidByText := true, laidKinds := [.data, .data, .pinned], laidTests := true, laidLooks := .later }
def PatternBackCardSaid : Prop := Claim7.holds Tryd.pinned (.plain (OpenSpec.ofChange patternBackSpec)) patternBackCard

/-- THE SECOND FORM's CARD OF 'signetkeep.PatternFew'. -/
def patternFewUptoCard : Claim7 := { stood := { row := patternFewUptoRow, standIns := [], harness := (true, "cd3c0f68b4f9d0f1c6d573cb44af72ebc170eb2d2a15c8e10d13bd71ae106fae"), looks := false }, kinds := [], alts := [], laidByText := true, laidKinds := [.data], laidTests := true, laidLooks := .later }
def PatternFewUptoCardSaid : Prop := Claim7.holds Tryd.pinned (.plain (OpenSpec.upto patternFewSpec)) patternFewUptoCard

/-- THE SECOND FORM's CARD OF 'signetkeep.HiddenJust'. -/
def hiddenJustUptoCard : Claim7 := { stood := { row := hiddenJustUptoRow, standIns := [], harness := (true, "cd3c0f68b4f9d0f1c6d573cb44af72ebc170eb2d2a15c8e10d13bd71ae106fae"), looks := false }, kinds := [], alts := [], laidByText := true, laidKinds := [.data], laidTests := true, laidLooks := .later }
def HiddenJustUptoCardSaid : Prop := Claim7.holds Tryd.pinned (.plain (OpenSpec.upto hiddenJustSpec)) hiddenJustUptoCard

/-- THE SECOND FORM's CARD OF 'signetkeep.HiddenLater'. -/
def hiddenLaterUptoCard : Claim7 := { stood := { row := hiddenLaterUptoRow, standIns := [], harness := (true, "cd3c0f68b4f9d0f1c6d573cb44af72ebc170eb2d2a15c8e10d13bd71ae106fae"), looks := false }, kinds := [], alts := [], laidByText := true, laidKinds := [.data], laidTests := true, laidLooks := .later }
def HiddenLaterUptoCardSaid : Prop := Claim7.holds Tryd.pinned (.plain (OpenSpec.upto hiddenLaterSpec)) hiddenLaterUptoCard

/-- THE SECOND FORM's CARD OF 'signetkeep.PatternBack'. -/
def patternBackUptoCard : Claim7 := { stood := { row := patternBackUptoRow, standIns := [], harness := (true, "cd3c0f68b4f9d0f1c6d573cb44af72ebc170eb2d2a15c8e10d13bd71ae106fae"), looks := false }, kinds := [], alts := [], laidByText := true, laidKinds := [.data, .data, .pinned], laidTests := true, laidLooks := .later }
def PatternBackUptoCardSaid : Prop := Claim7.holds Tryd.pinned (.plain (OpenSpec.upto patternBackSpec)) patternBackUptoCard
end Rows
end Go.Proofs.YtcnnogimaikicaaDoor
