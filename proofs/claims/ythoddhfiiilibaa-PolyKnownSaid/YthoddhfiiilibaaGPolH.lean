import Derived.Test.YthoddhfiiilibaaPly
set_option linter.unusedSimpArgs false
set_option linter.unusedVariables false
namespace Go.Proofs.Ythoddhfiiilibaa
open Go Go.V Go.Fld Go.Pol
set_option maxHeartbeats 0
set_option maxRecDepth 100000

theorem polyKnown_eq (n : Int) (K : AV → Heap → Prop) : walk Try.E RS P5.C (fun _ _ => .unroll 17) 5 7 [.int .i64 n] K = (

 cnd (inB (n % 8) 16)
 (cnd (inB (n % 8) 8)
 (K (AV.bool ((((UInt8.toNat (List.getD (tagS (List.set (List.set (List.set (List.set (List.set (List.set (List.set (List.set (List.set (List.set (List.set (List.set (List.set (List.set (List.set (List.set (List.set (List.set (List.set (List.set (List.set (List.set (List.set (List.set (List.set (List.set (List.set (List.set (List.set (List.set (List.set (List.set [0, 0, 0, 0, 0, 0, 0, 0, 0, 0, 0, 0, 0, 0, 0, 0, 0, 0, 0, 0, 0, 0, 0, 0, 0, 0, 0, 0, 0, 0, 0, 0] 0 133) 1 214) 2 190) 3 120) 4 87) 5 85) 6 109) 7 51) 8 127) 9 68) 10 82) 11 254) 12 66) 13 213) 14 6) 15 168) 16 1) 17 3) 18 128) 19 138) 20 251) 21 13) 22 178) 23 253) 24 74) 25 191) 26 246) 27 175) 28 65) 29 73) 30 245) 31 27) (List.take 34 (List.drop 0 (List.set (List.set (List.set (List.set (List.set (List.set (List.set (List.set (List.set (List.set (List.set (List.set (List.set (List.set (List.set (List.set (List.set (List.set (List.set (List.set (List.set (List.set (List.set (List.set (List.set (List.set (List.set (List.set (List.set (List.set (List.set (List.set (List.set (List.set (List.replicate 34 0) 0 67) 1 114) 2 121) 3 112) 4 116) 5 111) 6 103) 7 114) 8 97) 9 112) 10 104) 11 105) 12 99) 13 32) 14 70) 15 111) 16 114) 17 117) 18 109) 19 32) 20 82) 21 101) 22 115) 23 101) 24 97) 25 114) 26 99) 27 104) 28 32) 29 71) 30 114) 31 111) 32 117) 33 112)))) (ofs 0 (n % 8)) 0)) : Nat) : Int) == (((UInt8.toNat (List.getD (Array.toList (ByteArray.data (ByteArray.mk (List.toArray [168, 6, 29, 193, 48, 81, 54, 198])))) (Int.toNat (n % 8)) 0)) : Nat) : Int))) []))) := by kernel_rfl

end Go.Proofs.Ythoddhfiiilibaa
