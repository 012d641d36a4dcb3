/-
  NARROWER THAN 'FOR EVERY INPUT', by the rows' own cells (each row's printed sentence says how): BytesBack: laid · FieldGroups: laid · FieldSpreads: laid · InverseBack: laid · DhTurns: laid · ClampStays: laid · KeysAgree: laid · LadderKnown: laid.
  DERIVED. THE GIVEN ROWS OF THIS SEAT. 8 by the template 'for every input the law returns true; each argument reads behind the call as it read before'; 0 by the template 'total and deterministic' (their statements: YtfjmpdoidkblcaaDoorTotals.lean).
  GIVEN WITH THE SEED: the statements are not yours to turn. If you find one false, say at which input.
  Laid BY PROGRAM, IN A SANDBOX (cutbox-rows.mjs): the forced cells as the released guide's own fill.sh prints them over the translation ed2b8a5c5bd36ba1… (all of the seat's roots in one cut). By AI agents, Wed Nov 11 2026. No macro, syntax, notation, axiom, sorry.
-/
import Derived.Test.YtfjmpdoidkblcaaDoorChecked
import GoSem.Claim
import GoSem.ClaimJoined
import GoSem.ClaimMapViews
import Derived.JoinedTies
import Derived.KernelRfl
namespace Go.Proofs.YtfjmpdoidkblcaaDoor
/- THE CELL 'sum', in the pinned program and in every row, IS THE sha256 OF THE DUMP (.gsa) THAT YtfjmpdoidkblcaaDoorProg.lean LOADS. Nothing in Lean hashes anything: it is a label: what it is worth is what the hold of that sum in a sandbox is worth. -/
noncomputable def Tryd.pinned : Pinned := { name := "ytfjmpdoidkblcaadoor", sum := "ed2b8a5c5bd36ba1f27db6d2833df379e6956213ede132574501d38c204b6542", checked := Tryd.checked }
namespace Rows
def none {H : Type} : Left H := { results := [], args := [] }

/- WHAT THE LISTED PACKAGE-LEVEL VARIABLES READ AS WHEN THE CALL BEGINS. Each datum BY PROGRAM (the guide's laid-datum.mjs) off the statement by which the dump's own 'gosem.cut.vars' lays the variable. In a bare row this is a premise. The card (YtfjmpdoidkblcaaDoorCards.lean) ties it to the program's text. -/
def laid_signet_field_prime {H : Type} : DataW H := .agg [.lit (.int .u64 18446744073709551597), .lit (.int .u64 18446744073709551615), .lit (.int .u64 18446744073709551615), .lit (.int .u64 9223372036854775807)]

/-- 'signetkeep.BytesBack': WHATEVER THE INPUT: true; the input reads as it did. -/
def bytesBackSpec : ChangeSpec := { name := "bytesBack", fn := fun _ => fun
  | [d] => { results := [.lit (.bool true)], args := [d] }
  | _ => none }
def bytesBackRow : OpenClaim := { program := "ytfjmpdoidkblcaadoor", sum := "ed2b8a5c5bd36ba1f27db6d2833df379e6956213ede132574501d38c204b6542", func := "signet/signetkeep.BytesBack", spec := "bytesBack", inPlace := ["math/bits.Sub64"], named := ["signet/field.prime"], apart := false, laid := [("signet/field.prime", laid_signet_field_prime)] }
def BytesBackSaid : Prop := bytesBackRow.holds Tryd.pinned (OpenSpec.ofChange bytesBackSpec)

/-- ITS FALSE NEIGHBOUR: 'it returns false'. Refute it at one input. -/
def bytesBackWrong : ChangeSpec := { name := "bytesBack", fn := fun _ => fun
  | [d] => { results := [.lit (.bool false)], args := [d] }
  | _ => none }
def BytesBackWrongFalsely : Prop := bytesBackRow.holds Tryd.pinned (OpenSpec.ofChange bytesBackWrong)

/-- 'signetkeep.FieldGroups': WHATEVER THE INPUT: true; the input reads as it did. -/
def fieldGroupsSpec : ChangeSpec := { name := "fieldGroups", fn := fun _ => fun
  | [d1, d2, d3] => { results := [.lit (.bool true)], args := [d1, d2, d3] }
  | _ => none }
def fieldGroupsRow : OpenClaim := { program := "ytfjmpdoidkblcaadoor", sum := "ed2b8a5c5bd36ba1f27db6d2833df379e6956213ede132574501d38c204b6542", func := "signet/signetkeep.FieldGroups", spec := "fieldGroups", inPlace := ["math/bits.Sub64", "math/bits.Add64"], unfollowed := true, recurses := true, named := ["signet/field.prime"], apart := false, laid := [("signet/field.prime", laid_signet_field_prime)] }
def FieldGroupsSaid : Prop := fieldGroupsRow.holds Tryd.pinned (OpenSpec.ofChange fieldGroupsSpec)

/-- ITS FALSE NEIGHBOUR: 'it returns false'. Refute it at one input. -/
def fieldGroupsWrong : ChangeSpec := { name := "fieldGroups", fn := fun _ => fun
  | [d1, d2, d3] => { results := [.lit (.bool false)], args := [d1, d2, d3] }
  | _ => none }
def FieldGroupsWrongFalsely : Prop := fieldGroupsRow.holds Tryd.pinned (OpenSpec.ofChange fieldGroupsWrong)

/-- 'signetkeep.FieldSpreads': WHATEVER THE INPUT: true; the input reads as it did. -/
def fieldSpreadsSpec : ChangeSpec := { name := "fieldSpreads", fn := fun _ => fun
  | [d1, d2, d3] => { results := [.lit (.bool true)], args := [d1, d2, d3] }
  | _ => none }
def fieldSpreadsRow : OpenClaim := { program := "ytfjmpdoidkblcaadoor", sum := "ed2b8a5c5bd36ba1f27db6d2833df379e6956213ede132574501d38c204b6542", func := "signet/signetkeep.FieldSpreads", spec := "fieldSpreads", inPlace := ["math/bits.Sub64", "math/bits.Add64"], unfollowed := true, recurses := true, named := ["signet/field.prime"], apart := false, laid := [("signet/field.prime", laid_signet_field_prime)] }
def FieldSpreadsSaid : Prop := fieldSpreadsRow.holds Tryd.pinned (OpenSpec.ofChange fieldSpreadsSpec)

/-- ITS FALSE NEIGHBOUR: 'it returns false'. Refute it at one input. -/
def fieldSpreadsWrong : ChangeSpec := { name := "fieldSpreads", fn := fun _ => fun
  | [d1, d2, d3] => { results := [.lit (.bool false)], args := [d1, d2, d3] }
  | _ => none }
def FieldSpreadsWrongFalsely : Prop := fieldSpreadsRow.holds Tryd.pinned (OpenSpec.ofChange fieldSpreadsWrong)

/-- 'signetkeep.InverseBack': WHATEVER THE INPUT: true; the input reads as it did. -/
def inverseBackSpec : ChangeSpec := { name := "inverseBack", fn := fun _ => fun
  | [d1, d2] => { results := [.lit (.bool true)], args := [d1, d2] }
  | _ => none }
def inverseBackRow : OpenClaim := { program := "ytfjmpdoidkblcaadoor", sum := "ed2b8a5c5bd36ba1f27db6d2833df379e6956213ede132574501d38c204b6542", func := "signet/signetkeep.InverseBack", spec := "inverseBack", inPlace := ["math/bits.Sub64", "math/bits.Add64"], unfollowed := true, recurses := true, named := ["signet/field.prime"], apart := false, laid := [("signet/field.prime", laid_signet_field_prime)] }
def InverseBackSaid : Prop := inverseBackRow.holds Tryd.pinned (OpenSpec.ofChange inverseBackSpec)

/-- ITS FALSE NEIGHBOUR: 'it returns false'. Refute it at one input. -/
def inverseBackWrong : ChangeSpec := { name := "inverseBack", fn := fun _ => fun
  | [d1, d2] => { results := [.lit (.bool false)], args := [d1, d2] }
  | _ => none }
def InverseBackWrongFalsely : Prop := inverseBackRow.holds Tryd.pinned (OpenSpec.ofChange inverseBackWrong)

/-- 'signetkeep.DhTurns': WHATEVER THE INPUT: true; the input reads as it did. -/
def dhTurnsSpec : ChangeSpec := { name := "dhTurns", fn := fun _ => fun
  | [d1, d2, d3] => { results := [.lit (.bool true)], args := [d1, d2, d3] }
  | _ => none }
def dhTurnsRow : OpenClaim := { program := "ytfjmpdoidkblcaadoor", sum := "ed2b8a5c5bd36ba1f27db6d2833df379e6956213ede132574501d38c204b6542", func := "signet/signetkeep.DhTurns", spec := "dhTurns", inPlace := ["math/bits.Sub64", "math/bits.Add64"], unfollowed := true, recurses := true, named := ["signet/field.prime"], apart := false, laid := [("signet/field.prime", laid_signet_field_prime)] }
def DhTurnsSaid : Prop := dhTurnsRow.holds Tryd.pinned (OpenSpec.ofChange dhTurnsSpec)

/-- ITS FALSE NEIGHBOUR: 'it returns false'. Refute it at one input. -/
def dhTurnsWrong : ChangeSpec := { name := "dhTurns", fn := fun _ => fun
  | [d1, d2, d3] => { results := [.lit (.bool false)], args := [d1, d2, d3] }
  | _ => none }
def DhTurnsWrongFalsely : Prop := dhTurnsRow.holds Tryd.pinned (OpenSpec.ofChange dhTurnsWrong)

/-- 'signetkeep.ClampStays': WHATEVER THE INPUT: true; the input reads as it did. -/
def clampStaysSpec : ChangeSpec := { name := "clampStays", fn := fun _ => fun
  | [d1, d2] => { results := [.lit (.bool true)], args := [d1, d2] }
  | _ => none }
def clampStaysRow : OpenClaim := { program := "ytfjmpdoidkblcaadoor", sum := "ed2b8a5c5bd36ba1f27db6d2833df379e6956213ede132574501d38c204b6542", func := "signet/signetkeep.ClampStays", spec := "clampStays", inPlace := ["math/bits.Sub64", "math/bits.Add64"], unfollowed := true, recurses := true, named := ["signet/field.prime"], apart := false, laid := [("signet/field.prime", laid_signet_field_prime)] }
def ClampStaysSaid : Prop := clampStaysRow.holds Tryd.pinned (OpenSpec.ofChange clampStaysSpec)

/-- ITS FALSE NEIGHBOUR: 'it returns false'. Refute it at one input. -/
def clampStaysWrong : ChangeSpec := { name := "clampStays", fn := fun _ => fun
  | [d1, d2] => { results := [.lit (.bool false)], args := [d1, d2] }
  | _ => none }
def ClampStaysWrongFalsely : Prop := clampStaysRow.holds Tryd.pinned (OpenSpec.ofChange clampStaysWrong)

/-- 'signetkeep.KeysAgree': WHATEVER THE INPUT: true; the input reads as it did. -/
def keysAgreeSpec : ChangeSpec := { name := "keysAgree", fn := fun _ => fun
  | [d1, d2] => { results := [.lit (.bool true)], args := [d1, d2] }
  | _ => none }
def keysAgreeRow : OpenClaim := { program := "ytfjmpdoidkblcaadoor", sum := "ed2b8a5c5bd36ba1f27db6d2833df379e6956213ede132574501d38c204b6542", func := "signet/signetkeep.KeysAgree", spec := "keysAgree", inPlace := ["math/bits.Sub64", "math/bits.Add64"], unfollowed := true, recurses := true, named := ["signet/field.prime"], apart := false, laid := [("signet/field.prime", laid_signet_field_prime)] }
def KeysAgreeSaid : Prop := keysAgreeRow.holds Tryd.pinned (OpenSpec.ofChange keysAgreeSpec)

/-- ITS FALSE NEIGHBOUR: 'it returns false'. Refute it at one input. -/
def keysAgreeWrong : ChangeSpec := { name := "keysAgree", fn := fun _ => fun
  | [d1, d2] => { results := [.lit (.bool false)], args := [d1, d2] }
  | _ => none }
def KeysAgreeWrongFalsely : Prop := keysAgreeRow.holds Tryd.pinned (OpenSpec.ofChange keysAgreeWrong)

/-- 'signetkeep.LadderKnown': WHATEVER THE INPUT: true; the input reads as it did. -/
def ladderKnownSpec : ChangeSpec := { name := "ladderKnown", fn := fun _ => fun
  | [d] => { results := [.lit (.bool true)], args := [d] }
  | _ => none }
def ladderKnownRow : OpenClaim := { program := "ytfjmpdoidkblcaadoor", sum := "ed2b8a5c5bd36ba1f27db6d2833df379e6956213ede132574501d38c204b6542", func := "signet/signetkeep.LadderKnown", spec := "ladderKnown", inPlace := ["math/bits.Sub64", "math/bits.Add64"], unfollowed := true, recurses := true, named := ["signet/field.prime"], apart := false, laid := [("signet/field.prime", laid_signet_field_prime)] }
def LadderKnownSaid : Prop := ladderKnownRow.holds Tryd.pinned (OpenSpec.ofChange ladderKnownSpec)

/-- ITS FALSE NEIGHBOUR: 'it returns false'. Refute it at one input. -/
def ladderKnownWrong : ChangeSpec := { name := "ladderKnown", fn := fun _ => fun
  | [d] => { results := [.lit (.bool false)], args := [d] }
  | _ => none }
def LadderKnownWrongFalsely : Prop := ladderKnownRow.holds Tryd.pinned (OpenSpec.ofChange ladderKnownWrong)

/- THE SECOND FORM. 'bulk': how many values and letters a reading holds, each counted each time it is reached (what is shared counts as often as it is met; a slice's spare places count too). A statement '..UptoSaid' is the law's where the arguments, and the package variables that the reading takes, are together of bulk at most 1048576: NARROWER than '..Said'. Prove '..Said' where nothing that the law and all that it calls make is longer than what came in: it says more and counts as full. Else prove '..UptoSaid'. A law counts once. -/
mutual
def uptoBulk {H : Type} : DataW H → Nat
  | .lit (.string bytes) => bytes.length + 1
  | .lit _ => 1
  | .nil => 1
  | .ptr d => uptoBulk d + 1
  | .slice elems spare => uptoBulkAll elems + uptoBulkAll spare + 1
  | .agg parts => uptoBulkAll parts + 1
  | .iface _ d => uptoBulk d + 1
  | .map entries => uptoBulkEntries entries + 1
  | .held _ => 1
def uptoBulkAll {H : Type} : List (DataW H) → Nat
  | [] => 0
  | d :: r => uptoBulk d + uptoBulkAll r
def uptoBulkEntries {H : Type} : List (Lit × DataW H) → Nat
  | [] => 0
  | x :: r => uptoBulkEntry x + uptoBulkEntries r
def uptoBulkEntry {H : Type} : Lit × DataW H → Nat
  | (.string bytes, d) => bytes.length + uptoBulk d + 1
  | (_, d) => uptoBulk d + 1
 end
def uptoSmall : (H : Type) → List (DataW H) → Bool := fun _ ds => decide (uptoBulkAll ds ≤ 1048576)
def OpenSpec.upto (s : _root_.Go.ChangeSpec) : _root_.Go.OpenSpec := { _root_.Go.OpenSpec.ofChange s with cond := some uptoSmall }

/-- 'signetkeep.BytesBack', WHERE WHAT IT READS IS OF BULK AT MOST 1048576: true; the input reads as it did. -/
def bytesBackUptoRow : OpenClaim := { program := "ytfjmpdoidkblcaadoor", sum := "ed2b8a5c5bd36ba1f27db6d2833df379e6956213ede132574501d38c204b6542", func := "signet/signetkeep.BytesBack", spec := "bytesBack", inPlace := ["math/bits.Sub64"], named := ["signet/field.prime"], apart := false, laid := [("signet/field.prime", laid_signet_field_prime)], narrowed := true }
def BytesBackUptoSaid : Prop := bytesBackUptoRow.holds Tryd.pinned (OpenSpec.upto bytesBackSpec)

/-- 'signetkeep.FieldGroups', WHERE WHAT IT READS IS OF BULK AT MOST 1048576: true; the input reads as it did. -/
def fieldGroupsUptoRow : OpenClaim := { program := "ytfjmpdoidkblcaadoor", sum := "ed2b8a5c5bd36ba1f27db6d2833df379e6956213ede132574501d38c204b6542", func := "signet/signetkeep.FieldGroups", spec := "fieldGroups", inPlace := ["math/bits.Sub64", "math/bits.Add64"], unfollowed := true, recurses := true, named := ["signet/field.prime"], apart := false, laid := [("signet/field.prime", laid_signet_field_prime)], narrowed := true }
def FieldGroupsUptoSaid : Prop := fieldGroupsUptoRow.holds Tryd.pinned (OpenSpec.upto fieldGroupsSpec)

/-- 'signetkeep.FieldSpreads', WHERE WHAT IT READS IS OF BULK AT MOST 1048576: true; the input reads as it did. -/
def fieldSpreadsUptoRow : OpenClaim := { program := "ytfjmpdoidkblcaadoor", sum := "ed2b8a5c5bd36ba1f27db6d2833df379e6956213ede132574501d38c204b6542", func := "signet/signetkeep.FieldSpreads", spec := "fieldSpreads", inPlace := ["math/bits.Sub64", "math/bits.Add64"], unfollowed := true, recurses := true, named := ["signet/field.prime"], apart := false, laid := [("signet/field.prime", laid_signet_field_prime)], narrowed := true }
def FieldSpreadsUptoSaid : Prop := fieldSpreadsUptoRow.holds Tryd.pinned (OpenSpec.upto fieldSpreadsSpec)

/-- 'signetkeep.InverseBack', WHERE WHAT IT READS IS OF BULK AT MOST 1048576: true; the input reads as it did. -/
def inverseBackUptoRow : OpenClaim := { program := "ytfjmpdoidkblcaadoor", sum := "ed2b8a5c5bd36ba1f27db6d2833df379e6956213ede132574501d38c204b6542", func := "signet/signetkeep.InverseBack", spec := "inverseBack", inPlace := ["math/bits.Sub64", "math/bits.Add64"], unfollowed := true, recurses := true, named := ["signet/field.prime"], apart := false, laid := [("signet/field.prime", laid_signet_field_prime)], narrowed := true }
def InverseBackUptoSaid : Prop := inverseBackUptoRow.holds Tryd.pinned (OpenSpec.upto inverseBackSpec)

/-- 'signetkeep.DhTurns', WHERE WHAT IT READS IS OF BULK AT MOST 1048576: true; the input reads as it did. -/
def dhTurnsUptoRow : OpenClaim := { program := "ytfjmpdoidkblcaadoor", sum := "ed2b8a5c5bd36ba1f27db6d2833df379e6956213ede132574501d38c204b6542", func := "signet/signetkeep.DhTurns", spec := "dhTurns", inPlace := ["math/bits.Sub64", "math/bits.Add64"], unfollowed := true, recurses := true, named := ["signet/field.prime"], apart := false, laid := [("signet/field.prime", laid_signet_field_prime)], narrowed := true }
def DhTurnsUptoSaid : Prop := dhTurnsUptoRow.holds Tryd.pinned (OpenSpec.upto dhTurnsSpec)

/-- 'signetkeep.ClampStays', WHERE WHAT IT READS IS OF BULK AT MOST 1048576: true; the input reads as it did. -/
def clampStaysUptoRow : OpenClaim := { program := "ytfjmpdoidkblcaadoor", sum := "ed2b8a5c5bd36ba1f27db6d2833df379e6956213ede132574501d38c204b6542", func := "signet/signetkeep.ClampStays", spec := "clampStays", inPlace := ["math/bits.Sub64", "math/bits.Add64"], unfollowed := true, recurses := true, named := ["signet/field.prime"], apart := false, laid := [("signet/field.prime", laid_signet_field_prime)], narrowed := true }
def ClampStaysUptoSaid : Prop := clampStaysUptoRow.holds Tryd.pinned (OpenSpec.upto clampStaysSpec)

/-- 'signetkeep.KeysAgree', WHERE WHAT IT READS IS OF BULK AT MOST 1048576: true; the input reads as it did. -/
def keysAgreeUptoRow : OpenClaim := { program := "ytfjmpdoidkblcaadoor", sum := "ed2b8a5c5bd36ba1f27db6d2833df379e6956213ede132574501d38c204b6542", func := "signet/signetkeep.KeysAgree", spec := "keysAgree", inPlace := ["math/bits.Sub64", "math/bits.Add64"], unfollowed := true, recurses := true, named := ["signet/field.prime"], apart := false, laid := [("signet/field.prime", laid_signet_field_prime)], narrowed := true }
def KeysAgreeUptoSaid : Prop := keysAgreeUptoRow.holds Tryd.pinned (OpenSpec.upto keysAgreeSpec)

/-- 'signetkeep.LadderKnown', WHERE WHAT IT READS IS OF BULK AT MOST 1048576: true; the input reads as it did. -/
def ladderKnownUptoRow : OpenClaim := { program := "ytfjmpdoidkblcaadoor", sum := "ed2b8a5c5bd36ba1f27db6d2833df379e6956213ede132574501d38c204b6542", func := "signet/signetkeep.LadderKnown", spec := "ladderKnown", inPlace := ["math/bits.Sub64", "math/bits.Add64"], unfollowed := true, recurses := true, named := ["signet/field.prime"], apart := false, laid := [("signet/field.prime", laid_signet_field_prime)], narrowed := true }
def LadderKnownUptoSaid : Prop := ladderKnownUptoRow.holds Tryd.pinned (OpenSpec.upto ladderKnownSpec)

end Rows
end Go.Proofs.YtfjmpdoidkblcaaDoor
