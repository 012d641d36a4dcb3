/- ChaCha20's block and stream, as functions of lists. -/
import Derived.Test.YthoddhfiiilibaaV1

set_option linter.unusedSimpArgs false
set_option linter.unusedVariables false
namespace Go.Cha
open Go Go.V

def rotS (x : UInt32) (n m : Nat) : UInt32 := shl32 x n ||| shr32 x m
def turnS (a b d n m : Nat) (l : List UInt32) : List UInt32 :=
  (l.set a (l.getD a 0 + l.getD b 0)).set d (rotS ((l.set a (l.getD a 0 + l.getD b 0)).getD d 0 ^^^ (l.set a (l.getD a 0 + l.getD b 0)).getD a 0) n m)
def quarterS (a b c d : Nat) (l : List UInt32) : List UInt32 := turnS c d b 7 25 (turnS a b d 8 24 (turnS c d b 12 20 (turnS a b d 16 16 l)))
def droundS (l : List UInt32) : List UInt32 :=
  quarterS 3 4 9 14 (quarterS 2 7 8 13 (quarterS 1 6 11 12 (quarterS 0 5 10 15 (quarterS 3 7 11 15 (quarterS 2 6 10 14 (quarterS 1 5 9 13 (quarterS 0 4 8 12 l)))))))
def roundsS (w : List UInt32) : Nat → List UInt32
  | 0 => w
  | n + 1 => droundS (roundsS w n)
def wordS (b : List UInt8) (i : Nat) : UInt32 := (((b.getD i 0).toUInt32 ||| shl32 (b.getD (i + 1) 0).toUInt32 8) ||| shl32 (b.getD (i + 2) 0).toUInt32 16) ||| shl32 (b.getD (i + 3) 0).toUInt32 24
def startS (key : List UInt8) (c : UInt32) (nonce : List UInt8) : List UInt32 :=
  [0x61707865, 0x3320646e, 0x79622d32, 0x6b206574, wordS key 0, wordS key 4, wordS key 8, wordS key 12, wordS key 16, wordS key 20, wordS key 24, wordS key 28, c, wordS nonce 0, wordS nonce 4, wordS nonce 8]
def outS (w f : List UInt32) : List UInt8 := (List.range 16).flatMap fun i => (List.range 4).map fun k => (shr32 (w.getD i 0 + f.getD i 0) (8 * k)).toUInt8
def blockF (key : List UInt8) (c : UInt32) (nonce : List UInt8) : List UInt8 := outS (roundsS (startS key c nonce) 10) (startS key c nonce)
noncomputable def blockS : List UInt8 → UInt32 → List UInt8 → List UInt8 := (sealed blockF).val
theorem blockS_eq (key : List UInt8) (c : UInt32) (nonce : List UInt8) : blockS key c nonce = blockF key c nonce := by rw [blockS, (sealed blockF).property]
theorem length_blockS (key : List UInt8) (c : UInt32) (nonce : List UInt8) : (blockS key c nonce).length = 64 := by rw [blockS_eq]; rfl
end Go.Cha
