import Derived.Test.YthoddhfiiilibaaPicked
set_option linter.unusedSimpArgs false
set_option linter.unusedVariables false
namespace Go.Proofs.Ythoddhfiiilibaa
open Go Go.V Go.Cha
set_option maxHeartbeats 0
set_option maxRecDepth 100000

theorem chaKnown_eq (n : Int) (K : AV → Heap → Prop) : walk Try.E RS T3.C (fun _ _ => .unroll 33) 5 3 [.int .i64 n] K = (
 let x0 : List UInt8 := [0, 0, 0, 0, 0, 0, 0, 0, 0, 0, 0, 0]
 cnd (inB (n % 8) 64)
 (cnd (inB (n % 8) 8)
 (K (AV.bool ((((UInt8.toNat (List.getD (Cha.blockS (List.set (List.set (List.set (List.set (List.set (List.set (List.set (List.set (List.set (List.set (List.set (List.set (List.set (List.set (List.set (List.set (List.set (List.set (List.set (List.set (List.set (List.set (List.set (List.set (List.set (List.set (List.set (List.set (List.set (List.set (List.set (List.set [0, 0, 0, 0, 0, 0, 0, 0, 0, 0, 0, 0, 0, 0, 0, 0, 0, 0, 0, 0, 0, 0, 0, 0, 0, 0, 0, 0, 0, 0, 0, 0] 0 0) 1 1) 2 2) 3 3) 4 4) 5 5) 6 6) 7 7) 8 8) 9 9) 10 10) 11 11) 12 12) 13 13) 14 14) 15 15) 16 16) 17 17) 18 18) 19 19) 20 20) 21 21) 22 22) 23 23) 24 24) 25 25) 26 26) 27 27) 28 28) 29 29) 30 30) 31 31) 1 (List.set (List.set x0 3 9) 7 74)) (ofs 0 (n % 8)) 0)) : Nat) : Int) == (((UInt8.toNat (List.getD (Array.toList (ByteArray.data (ByteArray.mk (List.toArray [16, 241, 231, 228, 209, 59, 89, 21])))) (Int.toNat (n % 8)) 0)) : Nat) : Int))) []))) := by kernel_rfl

end Go.Proofs.Ythoddhfiiilibaa
