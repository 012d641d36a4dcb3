import Derived.Test.YtfpladpbnbpehaaPnsG
set_option linter.unusedSimpArgs false
set_option linter.unusedVariables false
namespace Go.Proofs.Ytfpladpbnbpehaa
open Go Go.V Go.Pin
set_option maxHeartbeats 0
set_option maxRecDepth 100000

theorem ptells_eq (K : AV → Heap → Prop) : walk Try.E R1 P5.C (fun _ _ => .unroll 3) 6 20 [] K = (
 let x0 : List Pn := (Pin.pnsOf 0 noRows)
 let x1 : List UInt8 := (Array.toList (ByteArray.data (ByteArray.mk (List.toArray [97]))))
 let x2 : List UInt8 := [0, 0, 0, 0, 0, 0, 0, 0, 0, 0, 0, 0, 0, 0, 0, 0, 0, 0, 0, 0, 0, 0, 0, 0, 0, 0, 0, 0, 0, 0, 0, 0]
 let x3 : List Pn := (Prod.fst (Pin.trustS x0 x1 (List.set x2 ((Prod.fst (0, Operand.const (Value.int IntKind.u8 1))) * (TI.size Try.ti5)) (UInt8.ofNat (Int.toNat 1)))))
 let x4 : Nat := (List.length x3)
 let x5 : List UInt8 := (List.set x2 0 1)
 cnd (Bool.true && (Pin.isPns 0 noRows))
 (cnd ((leB x4 1000000000) && (Pin.isPns x4 (Pin.pcs x3)))
 (ite2 ((Prod.snd (Pin.trustS x0 x1 x5)) == 0)
 -- THEN
 (ite2 (cond Bool.true ((Prod.snd (Pin.findS (Pin.pnsOf x4 (Pin.pcs x3)) x1)) == 0) Bool.false)
 -- THEN
 (K (AV.bool (cond Bool.true ((Pin.Pn.key (Prod.fst (Pin.findS (Pin.pnsOf x4 (Pin.pcs x3)) x1))) == x5) Bool.false)) [])
 -- ELSE
 (K (AV.bool Bool.false) []))
 -- ELSE
 (K (AV.bool Bool.false) [])))) := by kernel_rfl

end Go.Proofs.Ytfpladpbnbpehaa
