import Derived.Test.YthoddhfiiilibaaChaA
set_option linter.unusedSimpArgs false
set_option linter.unusedVariables false
namespace Go.Proofs.Ythoddhfiiilibaa
open Go Go.V Go.Cha
set_option maxHeartbeats 0
set_option maxRecDepth 100000

def blockT1 (key nonce : List UInt8) (c : UInt32) (n : Nat) : List AV :=
  [.b8 32 key, .u32 c, .b8 12 nonce, .ptr 0 0, .any, .ptr 1 0, .ptr 2 0, .ptr 3 0, .any, .any, .ptr 4 0] ++ List.replicate 31 .any ++ [.int .i64 (IntKind.i64.wrap ((n : Int) + 1))] ++ List.replicate 58 .any
def blockH1 (key nonce : List UInt8) (c : UInt32) (n : Nat) : Heap :=
  [.blk [.b8 32 key] [], .blk [.b8 12 nonce] [], .blk [.b8 64 (List.replicate 64 0)] [], .blk [.w32 16 (droundS (roundsS (startS key c nonce) n))] [], .blk [.w32 16 (startS key c nonce)] []]

theorem block_w (key nonce : List UInt8) (c : UInt32) (K : AV → Heap → Prop) : walk Try.E RS T1.C (fun f l => bif f == 10 && l == 14 then .inv Nat (fun n => n ≤ 10) (fun n => 10 - n) (blockT key nonce c) (blockH key nonce c) else .unroll 17) 5 10 [.b8 32 key, .u32 c, .b8 12 nonce] K =
    ((∃ a : Nat, a ≤ 10 ∧ leS 5 ⟨blockT key nonce c 0, blockH key nonce c 0⟩ (blockT key nonce c a) (blockH key nonce c a)) ∧
      ∀ a : Nat, a ≤ 10 → ite2 (decide ((a : Int) < 10)) (∃ b : Nat, (10 - b < 10 - a ∧ b ≤ 10) ∧ leS 5 ⟨blockT1 key nonce c a, blockH1 key nonce c a⟩ (blockT key nonce c b) (blockH key nonce c b))
        (K (.b8 64 (outS (roundsS (startS key c nonce) a) (startS key c nonce))) [])) := by kernel_rfl
end Go.Proofs.Ythoddhfiiilibaa
