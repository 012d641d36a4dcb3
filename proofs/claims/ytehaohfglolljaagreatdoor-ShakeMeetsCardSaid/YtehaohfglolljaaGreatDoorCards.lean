/-
  DERIVED. GIVEN WITH THE SEED: THE CARDS: each row of YtehaohfglolljaaGreatDoorRows.lean that lists a variable, with what it lists TIED to the program's text (the seventh form; the later family's looks); each row that meets fmt, with fmt's text TOLD by the authors' own Lean function (tested against real Go, not proved from fmt's source: count such statements apart). THE CARD IS WHAT COUNTS. Prove the row's statement (the work); the ties are given (YtehaohfglolljaaGreatDoorTie.lean); close each card by the builder's one call (the guide's Derived/Test/ToyasCard.lean, 'card_holds'). Laid BY PROGRAM, IN A SANDBOX (cutbox-door.mjs). By AI agents, Wed Nov 11 2026. No macro, syntax, notation, axiom, sorry.
-/
import Derived.Test.YtehaohfglolljaaGreatDoorRows
import GoSem.ClaimSeven
namespace Go.Proofs.YtehaohfglolljaaGreatDoor
namespace Rows

/-- THE TIED CARD OF 'signetkeep.ShakeBack'. -/
def shakeBackCard : Claim7 := { stood := { row := shakeBackRow, standIns := [], harness := (true, "43cc16b5fd83ba5c514b67af45355a77e5e9470fb6841437b73865c00e0ff28b"), looks := false }, kinds := [], alts := [], laidByText := true, laidKinds := [.data, .data, .data, .data, .pinned], laidTests := true, laidLooks := .later }
def ShakeBackCardSaid : Prop := Claim7.holds Tryz.pinned (.plain (OpenSpec.ofChange shakeBackSpec)) shakeBackCard

/-- THE TIED CARD OF 'signetkeep.ShakeMeets'. -/
def shakeMeetsCard : Claim7 := { stood := { row := shakeMeetsRow, standIns := [], harness := (true, "43cc16b5fd83ba5c514b67af45355a77e5e9470fb6841437b73865c00e0ff28b"), looks := false }, kinds := [], alts := [], laidByText := true, laidKinds := [.data, .data, .data, .data, .data, .pinned], laidTests := true, laidLooks := .later }
def ShakeMeetsCardSaid : Prop := Claim7.holds Tryz.pinned (.plain (OpenSpec.ofChange shakeMeetsSpec)) shakeMeetsCard

/-- THE TIED CARD OF 'signetkeep.ShakeTurns'. -/
def shakeTurnsCard : Claim7 := { stood := { row := shakeTurnsRow, standIns := [], harness := (true, "43cc16b5fd83ba5c514b67af45355a77e5e9470fb6841437b73865c00e0ff28b"), looks := false }, kinds := [], alts := [], laidByText := true, laidKinds := [.data, .data, .data, .data, .data, .pinned], laidTests := true, laidLooks := .later }
def ShakeTurnsCardSaid : Prop := Claim7.holds Tryz.pinned (.plain (OpenSpec.ofChange shakeTurnsSpec)) shakeTurnsCard

/-- THE SECOND FORM's CARD OF 'signetkeep.ShakeBack'. -/
def shakeBackUptoCard : Claim7 := { stood := { row := shakeBackUptoRow, standIns := [], harness := (true, "43cc16b5fd83ba5c514b67af45355a77e5e9470fb6841437b73865c00e0ff28b"), looks := false }, kinds := [], alts := [], laidByText := true, laidKinds := [.data, .data, .data, .data, .pinned], laidTests := true, laidLooks := .later }
def ShakeBackUptoCardSaid : Prop := Claim7.holds Tryz.pinned (.plain (OpenSpec.upto shakeBackSpec)) shakeBackUptoCard

/-- THE SECOND FORM's CARD OF 'signetkeep.ShakeMeets'. -/
def shakeMeetsUptoCard : Claim7 := { stood := { row := shakeMeetsUptoRow, standIns := [], harness := (true, "43cc16b5fd83ba5c514b67af45355a77e5e9470fb6841437b73865c00e0ff28b"), looks := false }, kinds := [], alts := [], laidByText := true, laidKinds := [.data, .data, .data, .data, .data, .pinned], laidTests := true, laidLooks := .later }
def ShakeMeetsUptoCardSaid : Prop := Claim7.holds Tryz.pinned (.plain (OpenSpec.upto shakeMeetsSpec)) shakeMeetsUptoCard

/-- THE SECOND FORM's CARD OF 'signetkeep.ShakeTurns'. -/
def shakeTurnsUptoCard : Claim7 := { stood := { row := shakeTurnsUptoRow, standIns := [], harness := (true, "43cc16b5fd83ba5c514b67af45355a77e5e9470fb6841437b73865c00e0ff28b"), looks := false }, kinds := [], alts := [], laidByText := true, laidKinds := [.data, .data, .data, .data, .data, .pinned], laidTests := true, laidLooks := .later }
def ShakeTurnsUptoCardSaid : Prop := Claim7.holds Tryz.pinned (.plain (OpenSpec.upto shakeTurnsSpec)) shakeTurnsUptoCard
end Rows
end Go.Proofs.YtehaohfglolljaaGreatDoor
