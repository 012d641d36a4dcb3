/-
  DERIVED. GIVEN WITH THE SEED: THE CARDS: each row of YtehaohfglolljaaDoorRows.lean that lists a variable, with what it lists TIED to the program's text (the seventh form; the later family's looks); each row that meets fmt, with fmt's text TOLD by the authors' own Lean function (tested against real Go, not proved from fmt's source: count such statements apart). THE CARD IS WHAT COUNTS. Prove the row's statement (the work); the ties are given (YtehaohfglolljaaDoorTie.lean); close each card by the builder's one call (the guide's Derived/Test/ToyasCard.lean, 'card_holds'). Laid BY PROGRAM, IN A SANDBOX (cutbox-door.mjs). By AI agents, Wed Nov 11 2026. No macro, syntax, notation, axiom, sorry.
-/
import Derived.Test.YtehaohfglolljaaDoorRows
import GoSem.ClaimSeven
namespace Go.Proofs.YtehaohfglolljaaDoor
namespace Rows

/-- THE TIED CARD OF 'signetkeep.TalkBoth'. -/
def talkBothCard : Claim7 := { stood := { row := talkBothRow, standIns := [], harness := (true, "998ab144243a7d11c9f9e83cb8f7ad8a7c362f137895f557f13cce7478a325dc"), looks := false }, kinds := [], alts := [], laidByText := true, laidKinds := [.data, .data, .data], laidTests := true, laidLooks := .later }
def TalkBothCardSaid : Prop := Claim7.holds Tryd.pinned (.plain (OpenSpec.ofChange talkBothSpec)) talkBothCard

/-- THE TIED CARD OF 'signetkeep.TalkOrder'. -/
def talkOrderCard : Claim7 := { stood := { row := talkOrderRow, standIns := [], harness := (true, "998ab144243a7d11c9f9e83cb8f7ad8a7c362f137895f557f13cce7478a325dc"), looks := false }, kinds := [], alts := [], laidByText := true, laidKinds := [.data, .data, .data], laidTests := true, laidLooks := .later }
def TalkOrderCardSaid : Prop := Claim7.holds Tryd.pinned (.plain (OpenSpec.ofChange talkOrderSpec)) talkOrderCard

/-- THE TIED CARD OF 'signetkeep.TalkSkips'. -/
def talkSkipsCard : Claim7 := { stood := { row := talkSkipsRow, standIns := [], harness := (true, "998ab144243a7d11c9f9e83cb8f7ad8a7c362f137895f557f13cce7478a325dc"), looks := false }, kinds := [], alts := [], laidByText := true, laidKinds := [.data, .data, .data], laidTests := true, laidLooks := .later }
def TalkSkipsCardSaid : Prop := Claim7.holds Tryd.pinned (.plain (OpenSpec.ofChange talkSkipsSpec)) talkSkipsCard

/-- THE SECOND FORM's CARD OF 'signetkeep.TalkBoth'. -/
def talkBothUptoCard : Claim7 := { stood := { row := talkBothUptoRow, standIns := [], harness := (true, "998ab144243a7d11c9f9e83cb8f7ad8a7c362f137895f557f13cce7478a325dc"), looks := false }, kinds := [], alts := [], laidByText := true, laidKinds := [.data, .data, .data], laidTests := true, laidLooks := .later }
def TalkBothUptoCardSaid : Prop := Claim7.holds Tryd.pinned (.plain (OpenSpec.upto talkBothSpec)) talkBothUptoCard

/-- THE SECOND FORM's CARD OF 'signetkeep.TalkOrder'. -/
def talkOrderUptoCard : Claim7 := { stood := { row := talkOrderUptoRow, standIns := [], harness := (true, "998ab144243a7d11c9f9e83cb8f7ad8a7c362f137895f557f13cce7478a325dc"), looks := false }, kinds := [], alts := [], laidByText := true, laidKinds := [.data, .data, .data], laidTests := true, laidLooks := .later }
def TalkOrderUptoCardSaid : Prop := Claim7.holds Tryd.pinned (.plain (OpenSpec.upto talkOrderSpec)) talkOrderUptoCard

/-- THE SECOND FORM's CARD OF 'signetkeep.TalkSkips'. -/
def talkSkipsUptoCard : Claim7 := { stood := { row := talkSkipsUptoRow, standIns := [], harness := (true, "998ab144243a7d11c9f9e83cb8f7ad8a7c362f137895f557f13cce7478a325dc"), looks := false }, kinds := [], alts := [], laidByText := true, laidKinds := [.data, .data, .data], laidTests := true, laidLooks := .later }
def TalkSkipsUptoCardSaid : Prop := Claim7.holds Tryd.pinned (.plain (OpenSpec.upto talkSkipsSpec)) talkSkipsUptoCard
end Rows
end Go.Proofs.YtehaohfglolljaaDoor
