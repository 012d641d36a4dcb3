/-
  DERIVED. GIVEN WITH THE SEED: THE CARDS: each row of YtdipeoacmapehaaDoorRows.lean that lists a variable, with what it lists TIED to the program's text (the seventh form; the later family's looks); each row that meets fmt, with fmt's text TOLD by the authors' own Lean function (tested against real Go, not proved from fmt's source: count such statements apart). THE CARD IS WHAT COUNTS. Prove the row's statement (the work); the ties are given (YtdipeoacmapehaaDoorTie.lean); close each card by the builder's one call (the guide's Derived/Test/ToyasCard.lean, 'card_holds'). Laid BY PROGRAM, IN A SANDBOX (cutbox-door.mjs). By AI agents, Wed Nov 11 2026. No macro, syntax, notation, axiom, sorry.
-/
import Derived.Test.YtdipeoacmapehaaDoorRows
import GoSem.ClaimSeven
namespace Go.Proofs.YtdipeoacmapehaaDoor
namespace Rows

/-- THE TIED CARD OF 'signetkeep.BlakeParts'. -/
def blakePartsCard : Claim7 := { stood := { row := blakePartsRow, standIns := [], harness := (true, "2d16c2d72d2309fa01cbbc89e1fa614af8a44d1981da8dae79ad56a2d9272737"), looks := false }, kinds := [], alts := [], laidByText := true, laidKinds := [.data, .data], laidTests := true, laidLooks := .later }
def BlakePartsCardSaid : Prop := Claim7.holds Tryd.pinned (.plain (OpenSpec.ofChange blakePartsSpec)) blakePartsCard

/-- THE TIED CARD OF 'signetkeep.BlakeKnown'. -/
def blakeKnownCard : Claim7 := { stood := { row := blakeKnownRow, standIns := [], harness := (true, "2d16c2d72d2309fa01cbbc89e1fa614af8a44d1981da8dae79ad56a2d9272737"), looks := false }, kinds := [], alts := [], laidByText := true, laidKinds := [.data, .data], laidTests := true, laidLooks := .later }
def BlakeKnownCardSaid : Prop := Claim7.holds Tryd.pinned (.plain (OpenSpec.ofChange blakeKnownSpec)) blakeKnownCard

/-- THE TIED CARD OF 'signetkeep.SymAlike'. -/
def symAlikeCard : Claim7 := { stood := { row := symAlikeRow, standIns := [], harness := (true, "2d16c2d72d2309fa01cbbc89e1fa614af8a44d1981da8dae79ad56a2d9272737"), looks := false }, kinds := [], alts := [], laidByText := true, laidKinds := [.data, .data], laidTests := true, laidLooks := .later }
def SymAlikeCardSaid : Prop := Claim7.holds Tryd.pinned (.plain (OpenSpec.ofChange symAlikeSpec)) symAlikeCard

/-- THE SECOND FORM's CARD OF 'signetkeep.BlakeParts'. -/
def blakePartsUptoCard : Claim7 := { stood := { row := blakePartsUptoRow, standIns := [], harness := (true, "2d16c2d72d2309fa01cbbc89e1fa614af8a44d1981da8dae79ad56a2d9272737"), looks := false }, kinds := [], alts := [], laidByText := true, laidKinds := [.data, .data], laidTests := true, laidLooks := .later }
def BlakePartsUptoCardSaid : Prop := Claim7.holds Tryd.pinned (.plain (OpenSpec.upto blakePartsSpec)) blakePartsUptoCard

/-- THE SECOND FORM's CARD OF 'signetkeep.BlakeKnown'. -/
def blakeKnownUptoCard : Claim7 := { stood := { row := blakeKnownUptoRow, standIns := [], harness := (true, "2d16c2d72d2309fa01cbbc89e1fa614af8a44d1981da8dae79ad56a2d9272737"), looks := false }, kinds := [], alts := [], laidByText := true, laidKinds := [.data, .data], laidTests := true, laidLooks := .later }
def BlakeKnownUptoCardSaid : Prop := Claim7.holds Tryd.pinned (.plain (OpenSpec.upto blakeKnownSpec)) blakeKnownUptoCard

/-- THE SECOND FORM's CARD OF 'signetkeep.SymAlike'. -/
def symAlikeUptoCard : Claim7 := { stood := { row := symAlikeUptoRow, standIns := [], harness := (true, "2d16c2d72d2309fa01cbbc89e1fa614af8a44d1981da8dae79ad56a2d9272737"), looks := false }, kinds := [], alts := [], laidByText := true, laidKinds := [.data, .data], laidTests := true, laidLooks := .later }
def SymAlikeUptoCardSaid : Prop := Claim7.holds Tryd.pinned (.plain (OpenSpec.upto symAlikeSpec)) symAlikeUptoCard
end Rows
end Go.Proofs.YtdipeoacmapehaaDoor
