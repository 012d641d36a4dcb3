/-
  No cell of these rows narrows 'for every input' (looked for: loops, veiled, ifaces, maps, wideKeys, modest, calm, conditions, laid).
  DERIVED. THE GIVEN ROWS OF THIS SEAT. 2 by the template 'for every input the law returns true; each argument reads behind the call as it read before'; 0 by the template 'total and deterministic' (their statements: YtdipeoacmapehaaTotals.lean).
  GIVEN WITH THE SEED: the statements are not yours to turn. If you find one false, say at which input.
  Laid BY PROGRAM, IN A SANDBOX (cutbox-rows.mjs): the forced cells as the released guide's own fill.sh prints them over the translation 4a772721282e8f00… (all of the seat's roots in one cut). By AI agents, Wed Nov 11 2026. No macro, syntax, notation, axiom, sorry.
-/
import Derived.Test.YtdipeoacmapehaaChecked
import GoSem.Claim
import GoSem.ClaimJoined
import GoSem.ClaimMapViews
import Derived.JoinedTies
import Derived.KernelRfl
namespace Go.Proofs.Ytdipeoacmapehaa
/- THE CELL 'sum', in the pinned program and in every row, IS THE sha256 OF THE DUMP (.gsa) THAT YtdipeoacmapehaaProg.lean LOADS. Nothing in Lean hashes anything: it is a label: what it is worth is what the hold of that sum in a sandbox is worth. -/
noncomputable def Try.pinned : Pinned := { name := "ytdipeoacmapehaa", sum := "4a772721282e8f00edf22b45f61bb14da3829a40d430af8b39680d91d31727b3", checked := Try.checked }
namespace Rows
def none {H : Type} : Left H := { results := [], args := [] }

/-- 'signetkeep.CipherEnds': WHATEVER THE INPUT: true; the input reads as it did. -/
def cipherEndsSpec : ChangeSpec := { name := "cipherEnds", fn := fun _ => fun
  | [d1, d2, d3] => { results := [.lit (.bool true)], args := [d1, d2, d3] }
  | _ => none }
def cipherEndsRow : OpenClaim := { program := "ytdipeoacmapehaa", sum := "4a772721282e8f00edf22b45f61bb14da3829a40d430af8b39680d91d31727b3", func := "signet/signetkeep.CipherEnds", spec := "cipherEnds", inPlace := ["math/bits.Add64"], unfollowed := true, recurses := true, apart := false }
def CipherEndsSaid : Prop := cipherEndsRow.holds Try.pinned (OpenSpec.ofChange cipherEndsSpec)

/-- ITS FALSE NEIGHBOUR: 'it returns false'. Refute it at one input. -/
def cipherEndsWrong : ChangeSpec := { name := "cipherEnds", fn := fun _ => fun
  | [d1, d2, d3] => { results := [.lit (.bool false)], args := [d1, d2, d3] }
  | _ => none }
def CipherEndsWrongFalsely : Prop := cipherEndsRow.holds Try.pinned (OpenSpec.ofChange cipherEndsWrong)

/-- 'signetkeep.CipherTalk': WHATEVER THE INPUT: true; the input reads as it did. -/
def cipherTalkSpec : ChangeSpec := { name := "cipherTalk", fn := fun _ => fun
  | [d1, d2, d3] => { results := [.lit (.bool true)], args := [d1, d2, d3] }
  | _ => none }
def cipherTalkRow : OpenClaim := { program := "ytdipeoacmapehaa", sum := "4a772721282e8f00edf22b45f61bb14da3829a40d430af8b39680d91d31727b3", func := "signet/signetkeep.CipherTalk", spec := "cipherTalk", inPlace := ["math/bits.Add64"], unfollowed := true, recurses := true, apart := false }
def CipherTalkSaid : Prop := cipherTalkRow.holds Try.pinned (OpenSpec.ofChange cipherTalkSpec)

/-- ITS FALSE NEIGHBOUR: 'it returns false'. Refute it at one input. -/
def cipherTalkWrong : ChangeSpec := { name := "cipherTalk", fn := fun _ => fun
  | [d1, d2, d3] => { results := [.lit (.bool false)], args := [d1, d2, d3] }
  | _ => none }
def CipherTalkWrongFalsely : Prop := cipherTalkRow.holds Try.pinned (OpenSpec.ofChange cipherTalkWrong)

/- THE SECOND FORM. 'bulk': how many values and letters a reading holds, each counted each time it is reached (what is shared counts as often as it is met; a slice's spare places count too). A statement '..UptoSaid' is the law's where the arguments, and the package variables that the reading takes, are together of bulk at most 1048576: NARROWER than '..Said'. Prove '..Said' where nothing that the law and all that it calls make is longer than what came in: it says more and counts as full. Else prove '..UptoSaid'. A law counts once. -/
mutual
def uptoBulk {H : Type} : DataW H → Nat
  | .lit (.string bytes) => bytes.length + 1
  | .lit _ => 1
  | .nil => 1
  | .ptr d => uptoBulk d + 1
  | .slice elems spare => uptoBulkAll elems + uptoBulkAll spare + 1
  | .agg parts => uptoBulkAll parts + 1
  | .iface _ d => uptoBulk d + 1
  | .map entries => uptoBulkEntries entries + 1
  | .held _ => 1
def uptoBulkAll {H : Type} : List (DataW H) → Nat
  | [] => 0
  | d :: r => uptoBulk d + uptoBulkAll r
def uptoBulkEntries {H : Type} : List (Lit × DataW H) → Nat
  | [] => 0
  | x :: r => uptoBulkEntry x + uptoBulkEntries r
def uptoBulkEntry {H : Type} : Lit × DataW H → Nat
  | (.string bytes, d) => bytes.length + uptoBulk d + 1
  | (_, d) => uptoBulk d + 1
 end
def uptoSmall : (H : Type) → List (DataW H) → Bool := fun _ ds => decide (uptoBulkAll ds ≤ 1048576)
def OpenSpec.upto (s : _root_.Go.ChangeSpec) : _root_.Go.OpenSpec := { _root_.Go.OpenSpec.ofChange s with cond := some uptoSmall }

/-- 'signetkeep.CipherEnds', WHERE WHAT IT READS IS OF BULK AT MOST 1048576: true; the input reads as it did. -/
def cipherEndsUptoRow : OpenClaim := { program := "ytdipeoacmapehaa", sum := "4a772721282e8f00edf22b45f61bb14da3829a40d430af8b39680d91d31727b3", func := "signet/signetkeep.CipherEnds", spec := "cipherEnds", inPlace := ["math/bits.Add64"], unfollowed := true, recurses := true, apart := false, narrowed := true }
def CipherEndsUptoSaid : Prop := cipherEndsUptoRow.holds Try.pinned (OpenSpec.upto cipherEndsSpec)

/-- 'signetkeep.CipherTalk', WHERE WHAT IT READS IS OF BULK AT MOST 1048576: true; the input reads as it did. -/
def cipherTalkUptoRow : OpenClaim := { program := "ytdipeoacmapehaa", sum := "4a772721282e8f00edf22b45f61bb14da3829a40d430af8b39680d91d31727b3", func := "signet/signetkeep.CipherTalk", spec := "cipherTalk", inPlace := ["math/bits.Add64"], unfollowed := true, recurses := true, apart := false, narrowed := true }
def CipherTalkUptoSaid : Prop := cipherTalkUptoRow.holds Try.pinned (OpenSpec.upto cipherTalkSpec)

end Rows
end Go.Proofs.Ytdipeoacmapehaa
