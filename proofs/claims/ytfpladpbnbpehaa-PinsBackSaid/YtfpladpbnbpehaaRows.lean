/-
  No cell of these rows narrows 'for every input' (looked for: loops, veiled, ifaces, maps, wideKeys, modest, calm, conditions, laid).
  DERIVED. THE GIVEN ROWS OF THIS SEAT. 5 by the template 'for every input the law returns true; each argument reads behind the call as it read before'; 0 by the template 'total and deterministic' (their statements: YtfpladpbnbpehaaTotals.lean).
  GIVEN WITH THE SEED: the statements are not yours to turn. If you find one false, say at which input.
  Laid BY PROGRAM, IN A SANDBOX (cutbox-rows.mjs): the forced cells as the released guide's own fill.sh prints them over the translation f2ca82bd4b26dca9… (all of the seat's roots in one cut). By AI agents, Wed Nov 11 2026. No macro, syntax, notation, axiom, sorry.
-/
import Derived.Test.YtfpladpbnbpehaaChecked
import GoSem.Claim
import GoSem.ClaimJoined
import GoSem.ClaimMapViews
import Derived.JoinedTies
import Derived.KernelRfl
namespace Go.Proofs.Ytfpladpbnbpehaa
/- THE CELL 'sum', in the pinned program and in every row, IS THE sha256 OF THE DUMP (.gsa) THAT YtfpladpbnbpehaaProg.lean LOADS. Nothing in Lean hashes anything: it is a label: what it is worth is what the hold of that sum in a sandbox is worth. -/
noncomputable def Try.pinned : Pinned := { name := "ytfpladpbnbpehaa", sum := "f2ca82bd4b26dca9b824b6798f4ee2b49c2fce71f53eb4b505f3a3769c0b7afc", checked := Try.checked }
namespace Rows
def none {H : Type} : Left H := { results := [], args := [] }

/-- 'signetkeep.FrameBack': WHATEVER THE INPUT: true; the input reads as it did. -/
def frameBackSpec : ChangeSpec := { name := "frameBack", fn := fun _ => fun
  | [d1, d2] => { results := [.lit (.bool true)], args := [d1, d2] }
  | _ => none }
def frameBackRow : OpenClaim := { program := "ytfpladpbnbpehaa", sum := "f2ca82bd4b26dca9b824b6798f4ee2b49c2fce71f53eb4b505f3a3769c0b7afc", func := "signet/signetkeep.FrameBack", spec := "frameBack", apart := false }
def FrameBackSaid : Prop := frameBackRow.holds Try.pinned (OpenSpec.ofChange frameBackSpec)

/-- ITS FALSE NEIGHBOUR: 'it returns false'. Refute it at one input. -/
def frameBackWrong : ChangeSpec := { name := "frameBack", fn := fun _ => fun
  | [d1, d2] => { results := [.lit (.bool false)], args := [d1, d2] }
  | _ => none }
def FrameBackWrongFalsely : Prop := frameBackRow.holds Try.pinned (OpenSpec.ofChange frameBackWrong)

/-- 'signetkeep.FrameChunks': WHATEVER THE INPUT: true; the input reads as it did. -/
def frameChunksSpec : ChangeSpec := { name := "frameChunks", fn := fun _ => fun
  | [d1, d2] => { results := [.lit (.bool true)], args := [d1, d2] }
  | _ => none }
def frameChunksRow : OpenClaim := { program := "ytfpladpbnbpehaa", sum := "f2ca82bd4b26dca9b824b6798f4ee2b49c2fce71f53eb4b505f3a3769c0b7afc", func := "signet/signetkeep.FrameChunks", spec := "frameChunks", apart := false }
def FrameChunksSaid : Prop := frameChunksRow.holds Try.pinned (OpenSpec.ofChange frameChunksSpec)

/-- ITS FALSE NEIGHBOUR: 'it returns false'. Refute it at one input. -/
def frameChunksWrong : ChangeSpec := { name := "frameChunks", fn := fun _ => fun
  | [d1, d2] => { results := [.lit (.bool false)], args := [d1, d2] }
  | _ => none }
def FrameChunksWrongFalsely : Prop := frameChunksRow.holds Try.pinned (OpenSpec.ofChange frameChunksWrong)

/-- 'signetkeep.PinStays': WHATEVER THE INPUT: true; the input reads as it did. -/
def pinStaysSpec : ChangeSpec := { name := "pinStays", fn := fun _ => fun
  | [d1, d2, d3] => { results := [.lit (.bool true)], args := [d1, d2, d3] }
  | _ => none }
def pinStaysRow : OpenClaim := { program := "ytfpladpbnbpehaa", sum := "f2ca82bd4b26dca9b824b6798f4ee2b49c2fce71f53eb4b505f3a3769c0b7afc", func := "signet/signetkeep.PinStays", spec := "pinStays", unfollowed := true, recurses := true, apart := false }
def PinStaysSaid : Prop := pinStaysRow.holds Try.pinned (OpenSpec.ofChange pinStaysSpec)

/-- ITS FALSE NEIGHBOUR: 'it returns false'. Refute it at one input. -/
def pinStaysWrong : ChangeSpec := { name := "pinStays", fn := fun _ => fun
  | [d1, d2, d3] => { results := [.lit (.bool false)], args := [d1, d2, d3] }
  | _ => none }
def PinStaysWrongFalsely : Prop := pinStaysRow.holds Try.pinned (OpenSpec.ofChange pinStaysWrong)

/-- 'signetkeep.PinsFixed': WHATEVER THE INPUT: true; the input reads as it did. -/
def pinsFixedSpec : ChangeSpec := { name := "pinsFixed", fn := fun _ => fun
  | [d] => { results := [.lit (.bool true)], args := [d] }
  | _ => none }
def pinsFixedRow : OpenClaim := { program := "ytfpladpbnbpehaa", sum := "f2ca82bd4b26dca9b824b6798f4ee2b49c2fce71f53eb4b505f3a3769c0b7afc", func := "signet/signetkeep.PinsFixed", spec := "pinsFixed", unfollowed := true, recurses := true, apart := false }
def PinsFixedSaid : Prop := pinsFixedRow.holds Try.pinned (OpenSpec.ofChange pinsFixedSpec)

/-- ITS FALSE NEIGHBOUR: 'it returns false'. Refute it at one input. -/
def pinsFixedWrong : ChangeSpec := { name := "pinsFixed", fn := fun _ => fun
  | [d] => { results := [.lit (.bool false)], args := [d] }
  | _ => none }
def PinsFixedWrongFalsely : Prop := pinsFixedRow.holds Try.pinned (OpenSpec.ofChange pinsFixedWrong)

/-- 'signetkeep.PinsBack': WHATEVER THE INPUT: true; the input reads as it did. -/
def pinsBackSpec : ChangeSpec := { name := "pinsBack", fn := fun _ => fun
  | [d1, d2, d3] => { results := [.lit (.bool true)], args := [d1, d2, d3] }
  | _ => none }
def pinsBackRow : OpenClaim := { program := "ytfpladpbnbpehaa", sum := "f2ca82bd4b26dca9b824b6798f4ee2b49c2fce71f53eb4b505f3a3769c0b7afc", func := "signet/signetkeep.PinsBack", spec := "pinsBack", unfollowed := true, recurses := true, apart := false }
def PinsBackSaid : Prop := pinsBackRow.holds Try.pinned (OpenSpec.ofChange pinsBackSpec)

/-- ITS FALSE NEIGHBOUR: 'it returns false'. Refute it at one input. -/
def pinsBackWrong : ChangeSpec := { name := "pinsBack", fn := fun _ => fun
  | [d1, d2, d3] => { results := [.lit (.bool false)], args := [d1, d2, d3] }
  | _ => none }
def PinsBackWrongFalsely : Prop := pinsBackRow.holds Try.pinned (OpenSpec.ofChange pinsBackWrong)

/- THE SECOND FORM. 'bulk': how many values and letters a reading holds, each counted each time it is reached (what is shared counts as often as it is met; a slice's spare places count too). A statement '..UptoSaid' is the law's where the arguments, and the package variables that the reading takes, are together of bulk at most 1048576: NARROWER than '..Said'. Prove '..Said' where nothing that the law and all that it calls make is longer than what came in: it says more and counts as full. Else prove '..UptoSaid'. A law counts once. -/
mutual
def uptoBulk {H : Type} : DataW H → Nat
  | .lit (.string bytes) => bytes.length + 1
  | .lit _ => 1
  | .nil => 1
  | .ptr d => uptoBulk d + 1
  | .slice elems spare => uptoBulkAll elems + uptoBulkAll spare + 1
  | .agg parts => uptoBulkAll parts + 1
  | .iface _ d => uptoBulk d + 1
  | .map entries => uptoBulkEntries entries + 1
  | .held _ => 1
def uptoBulkAll {H : Type} : List (DataW H) → Nat
  | [] => 0
  | d :: r => uptoBulk d + uptoBulkAll r
def uptoBulkEntries {H : Type} : List (Lit × DataW H) → Nat
  | [] => 0
  | x :: r => uptoBulkEntry x + uptoBulkEntries r
def uptoBulkEntry {H : Type} : Lit × DataW H → Nat
  | (.string bytes, d) => bytes.length + uptoBulk d + 1
  | (_, d) => uptoBulk d + 1
 end
def uptoSmall : (H : Type) → List (DataW H) → Bool := fun _ ds => decide (uptoBulkAll ds ≤ 1048576)
def OpenSpec.upto (s : _root_.Go.ChangeSpec) : _root_.Go.OpenSpec := { _root_.Go.OpenSpec.ofChange s with cond := some uptoSmall }

/-- 'signetkeep.FrameBack', WHERE WHAT IT READS IS OF BULK AT MOST 1048576: true; the input reads as it did. -/
def frameBackUptoRow : OpenClaim := { program := "ytfpladpbnbpehaa", sum := "f2ca82bd4b26dca9b824b6798f4ee2b49c2fce71f53eb4b505f3a3769c0b7afc", func := "signet/signetkeep.FrameBack", spec := "frameBack", apart := false, narrowed := true }
def FrameBackUptoSaid : Prop := frameBackUptoRow.holds Try.pinned (OpenSpec.upto frameBackSpec)

/-- 'signetkeep.FrameChunks', WHERE WHAT IT READS IS OF BULK AT MOST 1048576: true; the input reads as it did. -/
def frameChunksUptoRow : OpenClaim := { program := "ytfpladpbnbpehaa", sum := "f2ca82bd4b26dca9b824b6798f4ee2b49c2fce71f53eb4b505f3a3769c0b7afc", func := "signet/signetkeep.FrameChunks", spec := "frameChunks", apart := false, narrowed := true }
def FrameChunksUptoSaid : Prop := frameChunksUptoRow.holds Try.pinned (OpenSpec.upto frameChunksSpec)

/-- 'signetkeep.PinStays', WHERE WHAT IT READS IS OF BULK AT MOST 1048576: true; the input reads as it did. -/
def pinStaysUptoRow : OpenClaim := { program := "ytfpladpbnbpehaa", sum := "f2ca82bd4b26dca9b824b6798f4ee2b49c2fce71f53eb4b505f3a3769c0b7afc", func := "signet/signetkeep.PinStays", spec := "pinStays", unfollowed := true, recurses := true, apart := false, narrowed := true }
def PinStaysUptoSaid : Prop := pinStaysUptoRow.holds Try.pinned (OpenSpec.upto pinStaysSpec)

/-- 'signetkeep.PinsFixed', WHERE WHAT IT READS IS OF BULK AT MOST 1048576: true; the input reads as it did. -/
def pinsFixedUptoRow : OpenClaim := { program := "ytfpladpbnbpehaa", sum := "f2ca82bd4b26dca9b824b6798f4ee2b49c2fce71f53eb4b505f3a3769c0b7afc", func := "signet/signetkeep.PinsFixed", spec := "pinsFixed", unfollowed := true, recurses := true, apart := false, narrowed := true }
def PinsFixedUptoSaid : Prop := pinsFixedUptoRow.holds Try.pinned (OpenSpec.upto pinsFixedSpec)

/-- 'signetkeep.PinsBack', WHERE WHAT IT READS IS OF BULK AT MOST 1048576: true; the input reads as it did. -/
def pinsBackUptoRow : OpenClaim := { program := "ytfpladpbnbpehaa", sum := "f2ca82bd4b26dca9b824b6798f4ee2b49c2fce71f53eb4b505f3a3769c0b7afc", func := "signet/signetkeep.PinsBack", spec := "pinsBack", unfollowed := true, recurses := true, apart := false, narrowed := true }
def PinsBackUptoSaid : Prop := pinsBackUptoRow.holds Try.pinned (OpenSpec.upto pinsBackSpec)

end Rows
end Go.Proofs.Ytfpladpbnbpehaa
