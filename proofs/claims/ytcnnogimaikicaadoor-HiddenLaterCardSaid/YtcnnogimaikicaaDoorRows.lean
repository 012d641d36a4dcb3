/-
  NARROWER THAN 'FOR EVERY INPUT', by the rows' own cells (each row's printed sentence says how): PatternFew: laid · HiddenJust: laid · HiddenLater: laid · PatternBack: laid.
  DERIVED. THE GIVEN ROWS OF THIS SEAT. 4 by the template 'for every input the law returns true; each argument reads behind the call as it read before'; 0 by the template 'total and deterministic' (their statements: YtcnnogimaikicaaDoorTotals.lean).
  GIVEN WITH THE SEED: the statements are not yours to turn. If you find one false, say at which input.
  Laid BY PROGRAM, IN A SANDBOX (cutbox-rows.mjs): the forced cells as the released guide's own fill.sh prints them over the translation 9d2d2257bfe6a620… (all of the seat's roots in one cut). By AI agents, Wed Nov 11 2026. No macro, syntax, notation, axiom, sorry.
-/
import Derived.Test.YtcnnogimaikicaaDoorChecked
import GoSem.PinnedTables
import GoSem.Claim
import GoSem.ClaimJoined
import GoSem.ClaimMapViews
import Derived.JoinedTies
import Derived.KernelRfl
namespace Go.Proofs.YtcnnogimaikicaaDoor
/- THE CELL 'sum', in the pinned program and in every row, IS THE sha256 OF THE DUMP (.gsa) THAT YtcnnogimaikicaaDoorProg.lean LOADS. Nothing in Lean hashes anything: it is a label: what it is worth is what the hold of that sum in a sandbox is worth. -/
noncomputable def Tryd.pinned : Pinned := { name := "ytcnnogimaikicaadoor", sum := "9d2d2257bfe6a62045431708ebf249a6db3f514a4003b69640c5995a29f0a7fd", checked := Tryd.checked }
namespace Rows
def none {H : Type} : Left H := { results := [], args := [] }

/- WHAT THE LISTED PACKAGE-LEVEL VARIABLES READ AS WHEN THE CALL BEGINS. Each datum BY PROGRAM (the guide's laid-datum.mjs) off the statement by which the dump's own 'gosem.cut.vars' lays the variable. In a bare row this is a premise. The card (YtcnnogimaikicaaDoorCards.lean) ties it to the program's text. -/
def laid_signet_signetkeep_bases {H : Type} : DataW H := .agg [.lit (.string [78, 78]), .lit (.string [78, 75]), .lit (.string [88, 88]), .lit (.string [73, 75]), .lit (.string [88, 75]), .lit (.string [75, 75])]
def laid_unicode_utf8_acceptRanges {H : Type} : DataW H := .agg [.agg [.lit (.int .u8 128), .lit (.int .u8 191)], .agg [.lit (.int .u8 160), .lit (.int .u8 191)], .agg [.lit (.int .u8 128), .lit (.int .u8 159)], .agg [.lit (.int .u8 144), .lit (.int .u8 191)], .agg [.lit (.int .u8 128), .lit (.int .u8 143)], .agg [.lit (.int .u8 0), .lit (.int .u8 0)], .agg [.lit (.int .u8 0), .lit (.int .u8 0)], .agg [.lit (.int .u8 0), .lit (.int .u8 0)], .agg [.lit (.int .u8 0), .lit (.int .u8 0)], .agg [.lit (.int .u8 0), .lit (.int .u8 0)], .agg [.lit (.int .u8 0), .lit (.int .u8 0)], .agg [.lit (.int .u8 0), .lit (.int .u8 0)], .agg [.lit (.int .u8 0), .lit (.int .u8 0)], .agg [.lit (.int .u8 0), .lit (.int .u8 0)], .agg [.lit (.int .u8 0), .lit (.int .u8 0)], .agg [.lit (.int .u8 0), .lit (.int .u8 0)]]
/-- One of Go's own tables, pinned by name: the form's constant. -/
def laid_unicode_utf8_first : DataW Unit := Go.Pinned.utf8First

/-- 'signetkeep.PatternFew': WHATEVER THE INPUT: true; the input reads as it did. -/
def patternFewSpec : ChangeSpec := { name := "patternFew", fn := fun _ => fun
  | [d1, d2, d3] => { results := [.lit (.bool true)], args := [d1, d2, d3] }
  | _ => none }
def patternFewRow : OpenClaim := { program := "ytcnnogimaikicaadoor", sum := "9d2d2257bfe6a62045431708ebf249a6db3f514a4003b69640c5995a29f0a7fd", func := "signet/signetkeep.PatternFew", spec := "patternFew", named := ["signet/signetkeep.bases"], apart := false, laid := [("signet/signetkeep.bases", laid_signet_signetkeep_bases)] }
def PatternFewSaid : Prop := patternFewRow.holds Tryd.pinned (OpenSpec.ofChange patternFewSpec)

/-- ITS FALSE NEIGHBOUR: 'it returns false'. Refute it at one input. -/
def patternFewWrong : ChangeSpec := { name := "patternFew", fn := fun _ => fun
  | [d1, d2, d3] => { results := [.lit (.bool false)], args := [d1, d2, d3] }
  | _ => none }
def PatternFewWrongFalsely : Prop := patternFewRow.holds Tryd.pinned (OpenSpec.ofChange patternFewWrong)

/-- 'signetkeep.HiddenJust': WHATEVER THE INPUT: true; the input reads as it did. -/
def hiddenJustSpec : ChangeSpec := { name := "hiddenJust", fn := fun _ => fun
  | [d1, d2, d3, d4] => { results := [.lit (.bool true)], args := [d1, d2, d3, d4] }
  | _ => none }
def hiddenJustRow : OpenClaim := { program := "ytcnnogimaikicaadoor", sum := "9d2d2257bfe6a62045431708ebf249a6db3f514a4003b69640c5995a29f0a7fd", func := "signet/signetkeep.HiddenJust", spec := "hiddenJust", unfollowed := true, recurses := true, named := ["signet/signetkeep.bases"], apart := false, laid := [("signet/signetkeep.bases", laid_signet_signetkeep_bases)] }
def HiddenJustSaid : Prop := hiddenJustRow.holds Tryd.pinned (OpenSpec.ofChange hiddenJustSpec)

/-- ITS FALSE NEIGHBOUR: 'it returns false'. Refute it at one input. -/
def hiddenJustWrong : ChangeSpec := { name := "hiddenJust", fn := fun _ => fun
  | [d1, d2, d3, d4] => { results := [.lit (.bool false)], args := [d1, d2, d3, d4] }
  | _ => none }
def HiddenJustWrongFalsely : Prop := hiddenJustRow.holds Tryd.pinned (OpenSpec.ofChange hiddenJustWrong)

/-- 'signetkeep.HiddenLater': WHATEVER THE INPUT: true; the input reads as it did. -/
def hiddenLaterSpec : ChangeSpec := { name := "hiddenLater", fn := fun _ => fun
  | [d1, d2, d3, d4, d5] => { results := [.lit (.bool true)], args := [d1, d2, d3, d4, d5] }
  | _ => none }
def hiddenLaterRow : OpenClaim := { program := "ytcnnogimaikicaadoor", sum := "9d2d2257bfe6a62045431708ebf249a6db3f514a4003b69640c5995a29f0a7fd", func := "signet/signetkeep.HiddenLater", spec := "hiddenLater", unfollowed := true, recurses := true, named := ["signet/signetkeep.bases"], apart := false, laid := [("signet/signetkeep.bases", laid_signet_signetkeep_bases)] }
def HiddenLaterSaid : Prop := hiddenLaterRow.holds Tryd.pinned (OpenSpec.ofChange hiddenLaterSpec)

/-- ITS FALSE NEIGHBOUR: 'it returns false'. Refute it at one input. -/
def hiddenLaterWrong : ChangeSpec := { name := "hiddenLater", fn := fun _ => fun
  | [d1, d2, d3, d4, d5] => { results := [.lit (.bool false)], args := [d1, d2, d3, d4, d5] }
  | _ => none }
def HiddenLaterWrongFalsely : Prop := hiddenLaterRow.holds Tryd.pinned (OpenSpec.ofChange hiddenLaterWrong)

/-- 'signetkeep.PatternBack': WHATEVER THE INPUT: true; the input reads as it did. -/
def patternBackSpec : ChangeSpec := { name := "patternBack", fn := fun _ => fun
  | [d1, d2] => { results := [.lit (.bool true)], args := [d1, d2] }
  | _ => none }
def patternBackRow : OpenClaim := { program := "ytcnnogimaikicaadoor", sum := "9d2d2257bfe6a62045431708ebf249a6db3f514a4003b69640c5995a29f0a7fd", func := "signet/signetkeep.PatternBack", spec := "patternBack", inPlace := ["internal/abi.NoEscape", "internal/bytealg.MakeNoZero", "internal/bytealg.IndexByteString", "internal/bytealg.IndexString", "internal/bytealg.CountString"], unfollowed := true, recurses := true, named := ["signet/signetkeep.bases", "internal/bytealg.MaxLen", "unicode/utf8.first", "unicode/utf8.acceptRanges"], apart := false, laid := [("unicode/utf8.acceptRanges", laid_unicode_utf8_acceptRanges), ("signet/signetkeep.bases", laid_signet_signetkeep_bases), ("unicode/utf8.first", laid_unicode_utf8_first)] }
def PatternBackSaid : Prop := patternBackRow.holds Tryd.pinned (OpenSpec.ofChange patternBackSpec)

/-- ITS FALSE NEIGHBOUR: 'it returns false'. Refute it at one input. -/
def patternBackWrong : ChangeSpec := { name := "patternBack", fn := fun _ => fun
  | [d1, d2] => { results := [.lit (.bool false)], args := [d1, d2] }
  | _ => none }
def PatternBackWrongFalsely : Prop := patternBackRow.holds Tryd.pinned (OpenSpec.ofChange patternBackWrong)

/- THE SECOND FORM. 'bulk': how many values and letters a reading holds, each counted each time it is reached (what is shared counts as often as it is met; a slice's spare places count too). A statement '..UptoSaid' is the law's where the arguments, and the package variables that the reading takes, are together of bulk at most 1048576: NARROWER than '..Said'. Prove '..Said' where nothing that the law and all that it calls make is longer than what came in: it says more and counts as full. Else prove '..UptoSaid'. A law counts once. -/
mutual
def uptoBulk {H : Type} : DataW H → Nat
  | .lit (.string bytes) => bytes.length + 1
  | .lit _ => 1
  | .nil => 1
  | .ptr d => uptoBulk d + 1
  | .slice elems spare => uptoBulkAll elems + uptoBulkAll spare + 1
  | .agg parts => uptoBulkAll parts + 1
  | .iface _ d => uptoBulk d + 1
  | .map entries => uptoBulkEntries entries + 1
  | .held _ => 1
def uptoBulkAll {H : Type} : List (DataW H) → Nat
  | [] => 0
  | d :: r => uptoBulk d + uptoBulkAll r
def uptoBulkEntries {H : Type} : List (Lit × DataW H) → Nat
  | [] => 0
  | x :: r => uptoBulkEntry x + uptoBulkEntries r
def uptoBulkEntry {H : Type} : Lit × DataW H → Nat
  | (.string bytes, d) => bytes.length + uptoBulk d + 1
  | (_, d) => uptoBulk d + 1
 end
def uptoSmall : (H : Type) → List (DataW H) → Bool := fun _ ds => decide (uptoBulkAll ds ≤ 1048576)
def OpenSpec.upto (s : _root_.Go.ChangeSpec) : _root_.Go.OpenSpec := { _root_.Go.OpenSpec.ofChange s with cond := some uptoSmall }

/-- 'signetkeep.PatternFew', WHERE WHAT IT READS IS OF BULK AT MOST 1048576: true; the input reads as it did. -/
def patternFewUptoRow : OpenClaim := { program := "ytcnnogimaikicaadoor", sum := "9d2d2257bfe6a62045431708ebf249a6db3f514a4003b69640c5995a29f0a7fd", func := "signet/signetkeep.PatternFew", spec := "patternFew", named := ["signet/signetkeep.bases"], apart := false, laid := [("signet/signetkeep.bases", laid_signet_signetkeep_bases)], narrowed := true }
def PatternFewUptoSaid : Prop := patternFewUptoRow.holds Tryd.pinned (OpenSpec.upto patternFewSpec)

/-- 'signetkeep.HiddenJust', WHERE WHAT IT READS IS OF BULK AT MOST 1048576: true; the input reads as it did. -/
def hiddenJustUptoRow : OpenClaim := { program := "ytcnnogimaikicaadoor", sum := "9d2d2257bfe6a62045431708ebf249a6db3f514a4003b69640c5995a29f0a7fd", func := "signet/signetkeep.HiddenJust", spec := "hiddenJust", unfollowed := true, recurses := true, named := ["signet/signetkeep.bases"], apart := false, laid := [("signet/signetkeep.bases", laid_signet_signetkeep_bases)], narrowed := true }
def HiddenJustUptoSaid : Prop := hiddenJustUptoRow.holds Tryd.pinned (OpenSpec.upto hiddenJustSpec)

/-- 'signetkeep.HiddenLater', WHERE WHAT IT READS IS OF BULK AT MOST 1048576: true; the input reads as it did. -/
def hiddenLaterUptoRow : OpenClaim := { program := "ytcnnogimaikicaadoor", sum := "9d2d2257bfe6a62045431708ebf249a6db3f514a4003b69640c5995a29f0a7fd", func := "signet/signetkeep.HiddenLater", spec := "hiddenLater", unfollowed := true, recurses := true, named := ["signet/signetkeep.bases"], apart := false, laid := [("signet/signetkeep.bases", laid_signet_signetkeep_bases)], narrowed := true }
def HiddenLaterUptoSaid : Prop := hiddenLaterUptoRow.holds Tryd.pinned (OpenSpec.upto hiddenLaterSpec)

/-- 'signetkeep.PatternBack', WHERE WHAT IT READS IS OF BULK AT MOST 1048576: true; the input reads as it did. -/
def patternBackUptoRow : OpenClaim := { program := "ytcnnogimaikicaadoor", sum := "9d2d2257bfe6a62045431708ebf249a6db3f514a4003b69640c5995a29f0a7fd", func := "signet/signetkeep.PatternBack", spec := "patternBack", inPlace := ["internal/abi.NoEscape", "internal/bytealg.MakeNoZero", "internal/bytealg.IndexByteString", "internal/bytealg.IndexString", "internal/bytealg.CountString"], unfollowed := true, recurses := true, named := ["signet/signetkeep.bases", "internal/bytealg.MaxLen", "unicode/utf8.first", "unicode/utf8.acceptRanges"], apart := false, laid := [("unicode/utf8.acceptRanges", laid_unicode_utf8_acceptRanges), ("signet/signetkeep.bases", laid_signet_signetkeep_bases), ("unicode/utf8.first", laid_unicode_utf8_first)], narrowed := true }
def PatternBackUptoSaid : Prop := patternBackUptoRow.holds Tryd.pinned (OpenSpec.upto patternBackSpec)

end Rows
end Go.Proofs.YtcnnogimaikicaaDoor
