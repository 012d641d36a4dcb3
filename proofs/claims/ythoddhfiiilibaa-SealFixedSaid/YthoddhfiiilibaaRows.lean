/-
  No cell of these rows narrows 'for every input' (looked for: loops, veiled, ifaces, maps, wideKeys, modest, calm, conditions, laid).
  DERIVED. THE GIVEN ROWS OF THIS SEAT. 7 by the template 'for every input the law returns true; each argument reads behind the call as it read before'; 0 by the template 'total and deterministic' (their statements: YthoddhfiiilibaaTotals.lean).
  GIVEN WITH THE SEED: the statements are not yours to turn. If you find one false, say at which input.
  Laid BY PROGRAM, IN A SANDBOX (cutbox-rows.mjs): the forced cells as the released guide's own fill.sh prints them over the translation a735b148021cd81c… (all of the seat's roots in one cut). By AI agents, Wed Nov 11 2026. No macro, syntax, notation, axiom, sorry.
-/
import Derived.Test.YthoddhfiiilibaaChecked
import GoSem.Claim
import GoSem.ClaimJoined
import GoSem.ClaimMapViews
import Derived.JoinedTies
import Derived.KernelRfl
namespace Go.Proofs.Ythoddhfiiilibaa
/- THE CELL 'sum', in the pinned program and in every row, IS THE sha256 OF THE DUMP (.gsa) THAT YthoddhfiiilibaaProg.lean LOADS. Nothing in Lean hashes anything: it is a label: what it is worth is what the hold of that sum in a sandbox is worth. -/
noncomputable def Try.pinned : Pinned := { name := "ythoddhfiiilibaa", sum := "a735b148021cd81c551c0f94e3c5e7ce8776deaf2f584b4bc487659bcccdaa28", checked := Try.checked }
namespace Rows
def none {H : Type} : Left H := { results := [], args := [] }

/-- 'signetkeep.ChachaKnown': WHATEVER THE INPUT: true; the input reads as it did. -/
def chachaKnownSpec : ChangeSpec := { name := "chachaKnown", fn := fun _ => fun
  | [d] => { results := [.lit (.bool true)], args := [d] }
  | _ => none }
def chachaKnownRow : OpenClaim := { program := "ythoddhfiiilibaa", sum := "a735b148021cd81c551c0f94e3c5e7ce8776deaf2f584b4bc487659bcccdaa28", func := "signet/signetkeep.ChachaKnown", spec := "chachaKnown", unfollowed := true, recurses := true, apart := false }
def ChachaKnownSaid : Prop := chachaKnownRow.holds Try.pinned (OpenSpec.ofChange chachaKnownSpec)

/-- ITS FALSE NEIGHBOUR: 'it returns false'. Refute it at one input. -/
def chachaKnownWrong : ChangeSpec := { name := "chachaKnown", fn := fun _ => fun
  | [d] => { results := [.lit (.bool false)], args := [d] }
  | _ => none }
def ChachaKnownWrongFalsely : Prop := chachaKnownRow.holds Try.pinned (OpenSpec.ofChange chachaKnownWrong)

/-- 'signetkeep.StreamTwice': WHATEVER THE INPUT: true; the input reads as it did. -/
def streamTwiceSpec : ChangeSpec := { name := "streamTwice", fn := fun _ => fun
  | [d1, d2, d3, d4] => { results := [.lit (.bool true)], args := [d1, d2, d3, d4] }
  | _ => none }
def streamTwiceRow : OpenClaim := { program := "ythoddhfiiilibaa", sum := "a735b148021cd81c551c0f94e3c5e7ce8776deaf2f584b4bc487659bcccdaa28", func := "signet/signetkeep.StreamTwice", spec := "streamTwice", unfollowed := true, recurses := true, apart := false }
def StreamTwiceSaid : Prop := streamTwiceRow.holds Try.pinned (OpenSpec.ofChange streamTwiceSpec)

/-- ITS FALSE NEIGHBOUR: 'it returns false'. Refute it at one input. -/
def streamTwiceWrong : ChangeSpec := { name := "streamTwice", fn := fun _ => fun
  | [d1, d2, d3, d4] => { results := [.lit (.bool false)], args := [d1, d2, d3, d4] }
  | _ => none }
def StreamTwiceWrongFalsely : Prop := streamTwiceRow.holds Try.pinned (OpenSpec.ofChange streamTwiceWrong)

/-- 'signetkeep.StreamOver': WHATEVER THE INPUT: true; the input reads as it did. -/
def streamOverSpec : ChangeSpec := { name := "streamOver", fn := fun _ => fun
  | [d1, d2, d3] => { results := [.lit (.bool true)], args := [d1, d2, d3] }
  | _ => none }
def streamOverRow : OpenClaim := { program := "ythoddhfiiilibaa", sum := "a735b148021cd81c551c0f94e3c5e7ce8776deaf2f584b4bc487659bcccdaa28", func := "signet/signetkeep.StreamOver", spec := "streamOver", unfollowed := true, recurses := true, apart := false }
def StreamOverSaid : Prop := streamOverRow.holds Try.pinned (OpenSpec.ofChange streamOverSpec)

/-- ITS FALSE NEIGHBOUR: 'it returns false'. Refute it at one input. -/
def streamOverWrong : ChangeSpec := { name := "streamOver", fn := fun _ => fun
  | [d1, d2, d3] => { results := [.lit (.bool false)], args := [d1, d2, d3] }
  | _ => none }
def StreamOverWrongFalsely : Prop := streamOverRow.holds Try.pinned (OpenSpec.ofChange streamOverWrong)

/-- 'signetkeep.PolyParts': WHATEVER THE INPUT: true; the input reads as it did. -/
def polyPartsSpec : ChangeSpec := { name := "polyParts", fn := fun _ => fun
  | [d1, d2, d3, d4] => { results := [.lit (.bool true)], args := [d1, d2, d3, d4] }
  | _ => none }
def polyPartsRow : OpenClaim := { program := "ythoddhfiiilibaa", sum := "a735b148021cd81c551c0f94e3c5e7ce8776deaf2f584b4bc487659bcccdaa28", func := "signet/signetkeep.PolyParts", spec := "polyParts", inPlace := ["math/bits.Add64"], apart := false }
def PolyPartsSaid : Prop := polyPartsRow.holds Try.pinned (OpenSpec.ofChange polyPartsSpec)

/-- ITS FALSE NEIGHBOUR: 'it returns false'. Refute it at one input. -/
def polyPartsWrong : ChangeSpec := { name := "polyParts", fn := fun _ => fun
  | [d1, d2, d3, d4] => { results := [.lit (.bool false)], args := [d1, d2, d3, d4] }
  | _ => none }
def PolyPartsWrongFalsely : Prop := polyPartsRow.holds Try.pinned (OpenSpec.ofChange polyPartsWrong)

/-- 'signetkeep.PolyKnown': WHATEVER THE INPUT: true; the input reads as it did. -/
def polyKnownSpec : ChangeSpec := { name := "polyKnown", fn := fun _ => fun
  | [d] => { results := [.lit (.bool true)], args := [d] }
  | _ => none }
def polyKnownRow : OpenClaim := { program := "ythoddhfiiilibaa", sum := "a735b148021cd81c551c0f94e3c5e7ce8776deaf2f584b4bc487659bcccdaa28", func := "signet/signetkeep.PolyKnown", spec := "polyKnown", inPlace := ["math/bits.Add64"], apart := false }
def PolyKnownSaid : Prop := polyKnownRow.holds Try.pinned (OpenSpec.ofChange polyKnownSpec)

/-- ITS FALSE NEIGHBOUR: 'it returns false'. Refute it at one input. -/
def polyKnownWrong : ChangeSpec := { name := "polyKnown", fn := fun _ => fun
  | [d] => { results := [.lit (.bool false)], args := [d] }
  | _ => none }
def PolyKnownWrongFalsely : Prop := polyKnownRow.holds Try.pinned (OpenSpec.ofChange polyKnownWrong)

/-- 'signetkeep.SealBack': WHATEVER THE INPUT: true; the input reads as it did. -/
def sealBackSpec : ChangeSpec := { name := "sealBack", fn := fun _ => fun
  | [d1, d2, d3, d4] => { results := [.lit (.bool true)], args := [d1, d2, d3, d4] }
  | _ => none }
def sealBackRow : OpenClaim := { program := "ythoddhfiiilibaa", sum := "a735b148021cd81c551c0f94e3c5e7ce8776deaf2f584b4bc487659bcccdaa28", func := "signet/signetkeep.SealBack", spec := "sealBack", inPlace := ["math/bits.Add64"], unfollowed := true, recurses := true, apart := false }
def SealBackSaid : Prop := sealBackRow.holds Try.pinned (OpenSpec.ofChange sealBackSpec)

/-- ITS FALSE NEIGHBOUR: 'it returns false'. Refute it at one input. -/
def sealBackWrong : ChangeSpec := { name := "sealBack", fn := fun _ => fun
  | [d1, d2, d3, d4] => { results := [.lit (.bool false)], args := [d1, d2, d3, d4] }
  | _ => none }
def SealBackWrongFalsely : Prop := sealBackRow.holds Try.pinned (OpenSpec.ofChange sealBackWrong)

/-- 'signetkeep.SealFixed': WHATEVER THE INPUT: true; the input reads as it did. -/
def sealFixedSpec : ChangeSpec := { name := "sealFixed", fn := fun _ => fun
  | [d1, d2, d3, d4, d5, d6] => { results := [.lit (.bool true)], args := [d1, d2, d3, d4, d5, d6] }
  | _ => none }
def sealFixedRow : OpenClaim := { program := "ythoddhfiiilibaa", sum := "a735b148021cd81c551c0f94e3c5e7ce8776deaf2f584b4bc487659bcccdaa28", func := "signet/signetkeep.SealFixed", spec := "sealFixed", inPlace := ["math/bits.Add64"], unfollowed := true, recurses := true, apart := false }
def SealFixedSaid : Prop := sealFixedRow.holds Try.pinned (OpenSpec.ofChange sealFixedSpec)

/-- ITS FALSE NEIGHBOUR: 'it returns false'. Refute it at one input. -/
def sealFixedWrong : ChangeSpec := { name := "sealFixed", fn := fun _ => fun
  | [d1, d2, d3, d4, d5, d6] => { results := [.lit (.bool false)], args := [d1, d2, d3, d4, d5, d6] }
  | _ => none }
def SealFixedWrongFalsely : Prop := sealFixedRow.holds Try.pinned (OpenSpec.ofChange sealFixedWrong)

/- THE SECOND FORM. 'bulk': how many values and letters a reading holds, each counted each time it is reached (what is shared counts as often as it is met; a slice's spare places count too). A statement '..UptoSaid' is the law's where the arguments, and the package variables that the reading takes, are together of bulk at most 1048576: NARROWER than '..Said'. Prove '..Said' where nothing that the law and all that it calls make is longer than what came in: it says more and counts as full. Else prove '..UptoSaid'. A law counts once. -/
mutual
def uptoBulk {H : Type} : DataW H → Nat
  | .lit (.string bytes) => bytes.length + 1
  | .lit _ => 1
  | .nil => 1
  | .ptr d => uptoBulk d + 1
  | .slice elems spare => uptoBulkAll elems + uptoBulkAll spare + 1
  | .agg parts => uptoBulkAll parts + 1
  | .iface _ d => uptoBulk d + 1
  | .map entries => uptoBulkEntries entries + 1
  | .held _ => 1
def uptoBulkAll {H : Type} : List (DataW H) → Nat
  | [] => 0
  | d :: r => uptoBulk d + uptoBulkAll r
def uptoBulkEntries {H : Type} : List (Lit × DataW H) → Nat
  | [] => 0
  | x :: r => uptoBulkEntry x + uptoBulkEntries r
def uptoBulkEntry {H : Type} : Lit × DataW H → Nat
  | (.string bytes, d) => bytes.length + uptoBulk d + 1
  | (_, d) => uptoBulk d + 1
 end
def uptoSmall : (H : Type) → List (DataW H) → Bool := fun _ ds => decide (uptoBulkAll ds ≤ 1048576)
def OpenSpec.upto (s : _root_.Go.ChangeSpec) : _root_.Go.OpenSpec := { _root_.Go.OpenSpec.ofChange s with cond := some uptoSmall }

/-- 'signetkeep.ChachaKnown', WHERE WHAT IT READS IS OF BULK AT MOST 1048576: true; the input reads as it did. -/
def chachaKnownUptoRow : OpenClaim := { program := "ythoddhfiiilibaa", sum := "a735b148021cd81c551c0f94e3c5e7ce8776deaf2f584b4bc487659bcccdaa28", func := "signet/signetkeep.ChachaKnown", spec := "chachaKnown", unfollowed := true, recurses := true, apart := false, narrowed := true }
def ChachaKnownUptoSaid : Prop := chachaKnownUptoRow.holds Try.pinned (OpenSpec.upto chachaKnownSpec)

/-- 'signetkeep.StreamTwice', WHERE WHAT IT READS IS OF BULK AT MOST 1048576: true; the input reads as it did. -/
def streamTwiceUptoRow : OpenClaim := { program := "ythoddhfiiilibaa", sum := "a735b148021cd81c551c0f94e3c5e7ce8776deaf2f584b4bc487659bcccdaa28", func := "signet/signetkeep.StreamTwice", spec := "streamTwice", unfollowed := true, recurses := true, apart := false, narrowed := true }
def StreamTwiceUptoSaid : Prop := streamTwiceUptoRow.holds Try.pinned (OpenSpec.upto streamTwiceSpec)

/-- 'signetkeep.StreamOver', WHERE WHAT IT READS IS OF BULK AT MOST 1048576: true; the input reads as it did. -/
def streamOverUptoRow : OpenClaim := { program := "ythoddhfiiilibaa", sum := "a735b148021cd81c551c0f94e3c5e7ce8776deaf2f584b4bc487659bcccdaa28", func := "signet/signetkeep.StreamOver", spec := "streamOver", unfollowed := true, recurses := true, apart := false, narrowed := true }
def StreamOverUptoSaid : Prop := streamOverUptoRow.holds Try.pinned (OpenSpec.upto streamOverSpec)

/-- 'signetkeep.PolyParts', WHERE WHAT IT READS IS OF BULK AT MOST 1048576: true; the input reads as it did. -/
def polyPartsUptoRow : OpenClaim := { program := "ythoddhfiiilibaa", sum := "a735b148021cd81c551c0f94e3c5e7ce8776deaf2f584b4bc487659bcccdaa28", func := "signet/signetkeep.PolyParts", spec := "polyParts", inPlace := ["math/bits.Add64"], apart := false, narrowed := true }
def PolyPartsUptoSaid : Prop := polyPartsUptoRow.holds Try.pinned (OpenSpec.upto polyPartsSpec)

/-- 'signetkeep.PolyKnown', WHERE WHAT IT READS IS OF BULK AT MOST 1048576: true; the input reads as it did. -/
def polyKnownUptoRow : OpenClaim := { program := "ythoddhfiiilibaa", sum := "a735b148021cd81c551c0f94e3c5e7ce8776deaf2f584b4bc487659bcccdaa28", func := "signet/signetkeep.PolyKnown", spec := "polyKnown", inPlace := ["math/bits.Add64"], apart := false, narrowed := true }
def PolyKnownUptoSaid : Prop := polyKnownUptoRow.holds Try.pinned (OpenSpec.upto polyKnownSpec)

/-- 'signetkeep.SealBack', WHERE WHAT IT READS IS OF BULK AT MOST 1048576: true; the input reads as it did. -/
def sealBackUptoRow : OpenClaim := { program := "ythoddhfiiilibaa", sum := "a735b148021cd81c551c0f94e3c5e7ce8776deaf2f584b4bc487659bcccdaa28", func := "signet/signetkeep.SealBack", spec := "sealBack", inPlace := ["math/bits.Add64"], unfollowed := true, recurses := true, apart := false, narrowed := true }
def SealBackUptoSaid : Prop := sealBackUptoRow.holds Try.pinned (OpenSpec.upto sealBackSpec)

/-- 'signetkeep.SealFixed', WHERE WHAT IT READS IS OF BULK AT MOST 1048576: true; the input reads as it did. -/
def sealFixedUptoRow : OpenClaim := { program := "ythoddhfiiilibaa", sum := "a735b148021cd81c551c0f94e3c5e7ce8776deaf2f584b4bc487659bcccdaa28", func := "signet/signetkeep.SealFixed", spec := "sealFixed", inPlace := ["math/bits.Add64"], unfollowed := true, recurses := true, apart := false, narrowed := true }
def SealFixedUptoSaid : Prop := sealFixedUptoRow.holds Try.pinned (OpenSpec.upto sealFixedSpec)

end Rows
end Go.Proofs.Ythoddhfiiilibaa
