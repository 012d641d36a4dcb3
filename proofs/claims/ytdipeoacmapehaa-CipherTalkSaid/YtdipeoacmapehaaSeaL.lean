import Derived.Test.YtdipeoacmapehaaSeaC
set_option linter.unusedSimpArgs false
set_option linter.unusedVariables false
namespace Go.Proofs.Ytdipeoacmapehaa
open Go Go.V Go.Fld Go.Pol Go.Cha
theorem bad_seal (k n a t : List UInt8) : badS k n a (sealS k n a t) = false := by
  rw [badS_eq]; unfold badF
  rw [length_sealS, Nat.add_sub_cancel, sealS_eq]; unfold sealF
  rw [List.drop_left' (length_streamS ..), List.take_left' (length_streamS ..), beq_self_eq_true]; rfl
theorem plain_seal (k n a t : List UInt8) : plainS k n (sealS k n a t) = t := by
  rw [plainS_eq]; unfold plainF
  rw [length_sealS, Nat.add_sub_cancel, sealS_eq]; unfold sealF
  rw [List.take_left' (length_streamS ..), streamS_twice]
end Go.Proofs.Ytdipeoacmapehaa
