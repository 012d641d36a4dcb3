/-
  No cell of these rows narrows 'for every input' (looked for: loops, veiled, ifaces, maps, wideKeys, modest, calm, conditions, laid).
  DERIVED. THE GIVEN ROWS OF THIS SEAT. 4 by the template 'for every input the law returns true; each argument reads behind the call as it read before'; 0 by the template 'total and deterministic' (their statements: YtcnnogimaikicaaTotals.lean).
  GIVEN WITH THE SEED: the statements are not yours to turn. If you find one false, say at which input.
  Laid BY PROGRAM, IN A SANDBOX (cutbox-rows.mjs): the forced cells as the released guide's own fill.sh prints them over the translation ab4219890828e990… (all of the seat's roots in one cut). By AI agents, Wed Nov 11 2026. No macro, syntax, notation, axiom, sorry.
-/
import Derived.Test.YtcnnogimaikicaaChecked
import GoSem.Claim
import GoSem.ClaimJoined
import GoSem.ClaimMapViews
import Derived.JoinedTies
import Derived.KernelRfl
namespace Go.Proofs.Ytcnnogimaikicaa
/- THE CELL 'sum', in the pinned program and in every row, IS THE sha256 OF THE DUMP (.gsa) THAT YtcnnogimaikicaaProg.lean LOADS. Nothing in Lean hashes anything: it is a label: what it is worth is what the hold of that sum in a sandbox is worth. -/
noncomputable def Try.pinned : Pinned := { name := "ytcnnogimaikicaa", sum := "ab4219890828e990eb4e0edb8e54fa9201d974d419c18e955b8f920ee43d595f", checked := Try.checked }
namespace Rows
def none {H : Type} : Left H := { results := [], args := [] }

/-- 'signetkeep.KnowsMore': WHATEVER THE INPUT: true; the input reads as it did. -/
def knowsMoreSpec : ChangeSpec := { name := "knowsMore", fn := fun _ => fun
  | [d1, d2, d3] => { results := [.lit (.bool true)], args := [d1, d2, d3] }
  | _ => none }
def knowsMoreRow : OpenClaim := { program := "ytcnnogimaikicaa", sum := "ab4219890828e990eb4e0edb8e54fa9201d974d419c18e955b8f920ee43d595f", func := "signet/signetkeep.KnowsMore", spec := "knowsMore", unfollowed := true, recurses := true, apart := false }
def KnowsMoreSaid : Prop := knowsMoreRow.holds Try.pinned (OpenSpec.ofChange knowsMoreSpec)

/-- ITS FALSE NEIGHBOUR: 'it returns false'. Refute it at one input. -/
def knowsMoreWrong : ChangeSpec := { name := "knowsMore", fn := fun _ => fun
  | [d1, d2, d3] => { results := [.lit (.bool false)], args := [d1, d2, d3] }
  | _ => none }
def KnowsMoreWrongFalsely : Prop := knowsMoreRow.holds Try.pinned (OpenSpec.ofChange knowsMoreWrong)

/-- 'signetkeep.KnowsAll': WHATEVER THE INPUT: true; the input reads as it did. -/
def knowsAllSpec : ChangeSpec := { name := "knowsAll", fn := fun _ => fun
  | [d1, d2, d3] => { results := [.lit (.bool true)], args := [d1, d2, d3] }
  | _ => none }
def knowsAllRow : OpenClaim := { program := "ytcnnogimaikicaa", sum := "ab4219890828e990eb4e0edb8e54fa9201d974d419c18e955b8f920ee43d595f", func := "signet/signetkeep.KnowsAll", spec := "knowsAll", unfollowed := true, recurses := true, apart := false }
def KnowsAllSaid : Prop := knowsAllRow.holds Try.pinned (OpenSpec.ofChange knowsAllSpec)

/-- ITS FALSE NEIGHBOUR: 'it returns false'. Refute it at one input. -/
def knowsAllWrong : ChangeSpec := { name := "knowsAll", fn := fun _ => fun
  | [d1, d2, d3] => { results := [.lit (.bool false)], args := [d1, d2, d3] }
  | _ => none }
def KnowsAllWrongFalsely : Prop := knowsAllRow.holds Try.pinned (OpenSpec.ofChange knowsAllWrong)

/-- 'signetkeep.KnowsParts': WHATEVER THE INPUT: true; the input reads as it did. -/
def knowsPartsSpec : ChangeSpec := { name := "knowsParts", fn := fun _ => fun
  | [d1, d2, d3, d4, d5] => { results := [.lit (.bool true)], args := [d1, d2, d3, d4, d5] }
  | _ => none }
def knowsPartsRow : OpenClaim := { program := "ytcnnogimaikicaa", sum := "ab4219890828e990eb4e0edb8e54fa9201d974d419c18e955b8f920ee43d595f", func := "signet/signetkeep.KnowsParts", spec := "knowsParts", unfollowed := true, recurses := true, apart := false }
def KnowsPartsSaid : Prop := knowsPartsRow.holds Try.pinned (OpenSpec.ofChange knowsPartsSpec)

/-- ITS FALSE NEIGHBOUR: 'it returns false'. Refute it at one input. -/
def knowsPartsWrong : ChangeSpec := { name := "knowsParts", fn := fun _ => fun
  | [d1, d2, d3, d4, d5] => { results := [.lit (.bool false)], args := [d1, d2, d3, d4, d5] }
  | _ => none }
def KnowsPartsWrongFalsely : Prop := knowsPartsRow.holds Try.pinned (OpenSpec.ofChange knowsPartsWrong)

/-- 'signetkeep.KnowsLocked': WHATEVER THE INPUT: true; the input reads as it did. -/
def knowsLockedSpec : ChangeSpec := { name := "knowsLocked", fn := fun _ => fun
  | [d1, d2] => { results := [.lit (.bool true)], args := [d1, d2] }
  | _ => none }
def knowsLockedRow : OpenClaim := { program := "ytcnnogimaikicaa", sum := "ab4219890828e990eb4e0edb8e54fa9201d974d419c18e955b8f920ee43d595f", func := "signet/signetkeep.KnowsLocked", spec := "knowsLocked", unfollowed := true, recurses := true, apart := false }
def KnowsLockedSaid : Prop := knowsLockedRow.holds Try.pinned (OpenSpec.ofChange knowsLockedSpec)

/-- ITS FALSE NEIGHBOUR: 'it returns false'. Refute it at one input. -/
def knowsLockedWrong : ChangeSpec := { name := "knowsLocked", fn := fun _ => fun
  | [d1, d2] => { results := [.lit (.bool false)], args := [d1, d2] }
  | _ => none }
def KnowsLockedWrongFalsely : Prop := knowsLockedRow.holds Try.pinned (OpenSpec.ofChange knowsLockedWrong)

/- THE SECOND FORM. 'bulk': how many values and letters a reading holds, each counted each time it is reached (what is shared counts as often as it is met; a slice's spare places count too). A statement '..UptoSaid' is the law's where the arguments, and the package variables that the reading takes, are together of bulk at most 1048576: NARROWER than '..Said'. Prove '..Said' where nothing that the law and all that it calls make is longer than what came in: it says more and counts as full. Else prove '..UptoSaid'. A law counts once. -/
mutual
def uptoBulk {H : Type} : DataW H → Nat
  | .lit (.string bytes) => bytes.length + 1
  | .lit _ => 1
  | .nil => 1
  | .ptr d => uptoBulk d + 1
  | .slice elems spare => uptoBulkAll elems + uptoBulkAll spare + 1
  | .agg parts => uptoBulkAll parts + 1
  | .iface _ d => uptoBulk d + 1
  | .map entries => uptoBulkEntries entries + 1
  | .held _ => 1
def uptoBulkAll {H : Type} : List (DataW H) → Nat
  | [] => 0
  | d :: r => uptoBulk d + uptoBulkAll r
def uptoBulkEntries {H : Type} : List (Lit × DataW H) → Nat
  | [] => 0
  | x :: r => uptoBulkEntry x + uptoBulkEntries r
def uptoBulkEntry {H : Type} : Lit × DataW H → Nat
  | (.string bytes, d) => bytes.length + uptoBulk d + 1
  | (_, d) => uptoBulk d + 1
 end
def uptoSmall : (H : Type) → List (DataW H) → Bool := fun _ ds => decide (uptoBulkAll ds ≤ 1048576)
def OpenSpec.upto (s : _root_.Go.ChangeSpec) : _root_.Go.OpenSpec := { _root_.Go.OpenSpec.ofChange s with cond := some uptoSmall }

/-- 'signetkeep.KnowsMore', WHERE WHAT IT READS IS OF BULK AT MOST 1048576: true; the input reads as it did. -/
def knowsMoreUptoRow : OpenClaim := { program := "ytcnnogimaikicaa", sum := "ab4219890828e990eb4e0edb8e54fa9201d974d419c18e955b8f920ee43d595f", func := "signet/signetkeep.KnowsMore", spec := "knowsMore", unfollowed := true, recurses := true, apart := false, narrowed := true }
def KnowsMoreUptoSaid : Prop := knowsMoreUptoRow.holds Try.pinned (OpenSpec.upto knowsMoreSpec)

/-- 'signetkeep.KnowsAll', WHERE WHAT IT READS IS OF BULK AT MOST 1048576: true; the input reads as it did. -/
def knowsAllUptoRow : OpenClaim := { program := "ytcnnogimaikicaa", sum := "ab4219890828e990eb4e0edb8e54fa9201d974d419c18e955b8f920ee43d595f", func := "signet/signetkeep.KnowsAll", spec := "knowsAll", unfollowed := true, recurses := true, apart := false, narrowed := true }
def KnowsAllUptoSaid : Prop := knowsAllUptoRow.holds Try.pinned (OpenSpec.upto knowsAllSpec)

/-- 'signetkeep.KnowsParts', WHERE WHAT IT READS IS OF BULK AT MOST 1048576: true; the input reads as it did. -/
def knowsPartsUptoRow : OpenClaim := { program := "ytcnnogimaikicaa", sum := "ab4219890828e990eb4e0edb8e54fa9201d974d419c18e955b8f920ee43d595f", func := "signet/signetkeep.KnowsParts", spec := "knowsParts", unfollowed := true, recurses := true, apart := false, narrowed := true }
def KnowsPartsUptoSaid : Prop := knowsPartsUptoRow.holds Try.pinned (OpenSpec.upto knowsPartsSpec)

/-- 'signetkeep.KnowsLocked', WHERE WHAT IT READS IS OF BULK AT MOST 1048576: true; the input reads as it did. -/
def knowsLockedUptoRow : OpenClaim := { program := "ytcnnogimaikicaa", sum := "ab4219890828e990eb4e0edb8e54fa9201d974d419c18e955b8f920ee43d595f", func := "signet/signetkeep.KnowsLocked", spec := "knowsLocked", unfollowed := true, recurses := true, apart := false, narrowed := true }
def KnowsLockedUptoSaid : Prop := knowsLockedUptoRow.holds Try.pinned (OpenSpec.upto knowsLockedSpec)

end Rows
end Go.Proofs.Ytcnnogimaikicaa
