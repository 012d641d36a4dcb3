/-
  DERIVED. GIVEN WITH THE SEED: THE CARDS: each row of YtfjmpdoidkblcaaDoorRows.lean that lists a variable, with what it lists TIED to the program's text (the seventh form; the later family's looks); each row that meets fmt, with fmt's text TOLD by the authors' own Lean function (tested against real Go, not proved from fmt's source: count such statements apart). THE CARD IS WHAT COUNTS. Prove the row's statement (the work); the ties are given (YtfjmpdoidkblcaaDoorTie.lean); close each card by the builder's one call (the guide's Derived/Test/ToyasCard.lean, 'card_holds'). Laid BY PROGRAM, IN A SANDBOX (cutbox-door.mjs). By AI agents, Wed Nov 11 2026. No macro, syntax, notation, axiom, sorry.
-/
import Derived.Test.YtfjmpdoidkblcaaDoorRows
import GoSem.ClaimSeven
namespace Go.Proofs.YtfjmpdoidkblcaaDoor
namespace Rows

/-- THE TIED CARD OF 'signetkeep.BytesBack'. -/
def bytesBackCard : Claim7 := { stood := { row := bytesBackRow, standIns := [], harness := (true, "05786da2ad51a4625baa2d4406ea70ce71fdd92cc70332e1630561afa9e021c0"), looks := false }, kinds := [], alts := [], laidByText := true, laidKinds := [.data], laidTests := true, laidLooks := .later }
def BytesBackCardSaid : Prop := Claim7.holds Tryd.pinned (.plain (OpenSpec.ofChange bytesBackSpec)) bytesBackCard

/-- THE TIED CARD OF 'signetkeep.FieldGroups'. -/
def fieldGroupsCard : Claim7 := { stood := { row := fieldGroupsRow, standIns := [], harness := (true, "05786da2ad51a4625baa2d4406ea70ce71fdd92cc70332e1630561afa9e021c0"), looks := false }, kinds := [], alts := [], laidByText := true, laidKinds := [.data], laidTests := true, laidLooks := .later }
def FieldGroupsCardSaid : Prop := Claim7.holds Tryd.pinned (.plain (OpenSpec.ofChange fieldGroupsSpec)) fieldGroupsCard

/-- THE TIED CARD OF 'signetkeep.FieldSpreads'. -/
def fieldSpreadsCard : Claim7 := { stood := { row := fieldSpreadsRow, standIns := [], harness := (true, "05786da2ad51a4625baa2d4406ea70ce71fdd92cc70332e1630561afa9e021c0"), looks := false }, kinds := [], alts := [], laidByText := true, laidKinds := [.data], laidTests := true, laidLooks := .later }
def FieldSpreadsCardSaid : Prop := Claim7.holds Tryd.pinned (.plain (OpenSpec.ofChange fieldSpreadsSpec)) fieldSpreadsCard

/-- THE TIED CARD OF 'signetkeep.InverseBack'. -/
def inverseBackCard : Claim7 := { stood := { row := inverseBackRow, standIns := [], harness := (true, "05786da2ad51a4625baa2d4406ea70ce71fdd92cc70332e1630561afa9e021c0"), looks := false }, kinds := [], alts := [], laidByText := true, laidKinds := [.data], laidTests := true, laidLooks := .later }
def InverseBackCardSaid : Prop := Claim7.holds Tryd.pinned (.plain (OpenSpec.ofChange inverseBackSpec)) inverseBackCard

/-- THE TIED CARD OF 'signetkeep.DhTurns'. -/
def dhTurnsCard : Claim7 := { stood := { row := dhTurnsRow, standIns := [], harness := (true, "05786da2ad51a4625baa2d4406ea70ce71fdd92cc70332e1630561afa9e021c0"), looks := false }, kinds := [], alts := [], laidByText := true, laidKinds := [.data], laidTests := true, laidLooks := .later }
def DhTurnsCardSaid : Prop := Claim7.holds Tryd.pinned (.plain (OpenSpec.ofChange dhTurnsSpec)) dhTurnsCard

/-- THE TIED CARD OF 'signetkeep.ClampStays'. -/
def clampStaysCard : Claim7 := { stood := { row := clampStaysRow, standIns := [], harness := (true, "05786da2ad51a4625baa2d4406ea70ce71fdd92cc70332e1630561afa9e021c0"), looks := false }, kinds := [], alts := [], laidByText := true, laidKinds := [.data], laidTests := true, laidLooks := .later }
def ClampStaysCardSaid : Prop := Claim7.holds Tryd.pinned (.plain (OpenSpec.ofChange clampStaysSpec)) clampStaysCard

/-- THE TIED CARD OF 'signetkeep.KeysAgree'. -/
def keysAgreeCard : Claim7 := { stood := { row := keysAgreeRow, standIns := [], harness := (true, "05786da2ad51a4625baa2d4406ea70ce71fdd92cc70332e1630561afa9e021c0"), looks := false }, kinds := [], alts := [], laidByText := true, laidKinds := [.data], laidTests := true, laidLooks := .later }
def KeysAgreeCardSaid : Prop := Claim7.holds Tryd.pinned (.plain (OpenSpec.ofChange keysAgreeSpec)) keysAgreeCard

/-- THE TIED CARD OF 'signetkeep.LadderKnown'. -/
def ladderKnownCard : Claim7 := { stood := { row := ladderKnownRow, standIns := [], harness := (true, "05786da2ad51a4625baa2d4406ea70ce71fdd92cc70332e1630561afa9e021c0"), looks := false }, kinds := [], alts := [], laidByText := true, laidKinds := [.data], laidTests := true, laidLooks := .later }
def LadderKnownCardSaid : Prop := Claim7.holds Tryd.pinned (.plain (OpenSpec.ofChange ladderKnownSpec)) ladderKnownCard

/-- THE SECOND FORM's CARD OF 'signetkeep.BytesBack'. -/
def bytesBackUptoCard : Claim7 := { stood := { row := bytesBackUptoRow, standIns := [], harness := (true, "05786da2ad51a4625baa2d4406ea70ce71fdd92cc70332e1630561afa9e021c0"), looks := false }, kinds := [], alts := [], laidByText := true, laidKinds := [.data], laidTests := true, laidLooks := .later }
def BytesBackUptoCardSaid : Prop := Claim7.holds Tryd.pinned (.plain (OpenSpec.upto bytesBackSpec)) bytesBackUptoCard

/-- THE SECOND FORM's CARD OF 'signetkeep.FieldGroups'. -/
def fieldGroupsUptoCard : Claim7 := { stood := { row := fieldGroupsUptoRow, standIns := [], harness := (true, "05786da2ad51a4625baa2d4406ea70ce71fdd92cc70332e1630561afa9e021c0"), looks := false }, kinds := [], alts := [], laidByText := true, laidKinds := [.data], laidTests := true, laidLooks := .later }
def FieldGroupsUptoCardSaid : Prop := Claim7.holds Tryd.pinned (.plain (OpenSpec.upto fieldGroupsSpec)) fieldGroupsUptoCard

/-- THE SECOND FORM's CARD OF 'signetkeep.FieldSpreads'. -/
def fieldSpreadsUptoCard : Claim7 := { stood := { row := fieldSpreadsUptoRow, standIns := [], harness := (true, "05786da2ad51a4625baa2d4406ea70ce71fdd92cc70332e1630561afa9e021c0"), looks := false }, kinds := [], alts := [], laidByText := true, laidKinds := [.data], laidTests := true, laidLooks := .later }
def FieldSpreadsUptoCardSaid : Prop := Claim7.holds Tryd.pinned (.plain (OpenSpec.upto fieldSpreadsSpec)) fieldSpreadsUptoCard

/-- THE SECOND FORM's CARD OF 'signetkeep.InverseBack'. -/
def inverseBackUptoCard : Claim7 := { stood := { row := inverseBackUptoRow, standIns := [], harness := (true, "05786da2ad51a4625baa2d4406ea70ce71fdd92cc70332e1630561afa9e021c0"), looks := false }, kinds := [], alts := [], laidByText := true, laidKinds := [.data], laidTests := true, laidLooks := .later }
def InverseBackUptoCardSaid : Prop := Claim7.holds Tryd.pinned (.plain (OpenSpec.upto inverseBackSpec)) inverseBackUptoCard

/-- THE SECOND FORM's CARD OF 'signetkeep.DhTurns'. -/
def dhTurnsUptoCard : Claim7 := { stood := { row := dhTurnsUptoRow, standIns := [], harness := (true, "05786da2ad51a4625baa2d4406ea70ce71fdd92cc70332e1630561afa9e021c0"), looks := false }, kinds := [], alts := [], laidByText := true, laidKinds := [.data], laidTests := true, laidLooks := .later }
def DhTurnsUptoCardSaid : Prop := Claim7.holds Tryd.pinned (.plain (OpenSpec.upto dhTurnsSpec)) dhTurnsUptoCard

/-- THE SECOND FORM's CARD OF 'signetkeep.ClampStays'. -/
def clampStaysUptoCard : Claim7 := { stood := { row := clampStaysUptoRow, standIns := [], harness := (true, "05786da2ad51a4625baa2d4406ea70ce71fdd92cc70332e1630561afa9e021c0"), looks := false }, kinds := [], alts := [], laidByText := true, laidKinds := [.data], laidTests := true, laidLooks := .later }
def ClampStaysUptoCardSaid : Prop := Claim7.holds Tryd.pinned (.plain (OpenSpec.upto clampStaysSpec)) clampStaysUptoCard

/-- THE SECOND FORM's CARD OF 'signetkeep.KeysAgree'. -/
def keysAgreeUptoCard : Claim7 := { stood := { row := keysAgreeUptoRow, standIns := [], harness := (true, "05786da2ad51a4625baa2d4406ea70ce71fdd92cc70332e1630561afa9e021c0"), looks := false }, kinds := [], alts := [], laidByText := true, laidKinds := [.data], laidTests := true, laidLooks := .later }
def KeysAgreeUptoCardSaid : Prop := Claim7.holds Tryd.pinned (.plain (OpenSpec.upto keysAgreeSpec)) keysAgreeUptoCard

/-- THE SECOND FORM's CARD OF 'signetkeep.LadderKnown'. -/
def ladderKnownUptoCard : Claim7 := { stood := { row := ladderKnownUptoRow, standIns := [], harness := (true, "05786da2ad51a4625baa2d4406ea70ce71fdd92cc70332e1630561afa9e021c0"), looks := false }, kinds := [], alts := [], laidByText := true, laidKinds := [.data], laidTests := true, laidLooks := .later }
def LadderKnownUptoCardSaid : Prop := Claim7.holds Tryd.pinned (.plain (OpenSpec.upto ladderKnownSpec)) ladderKnownUptoCard
end Rows
end Go.Proofs.YtfjmpdoidkblcaaDoor
