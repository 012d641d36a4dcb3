import Derived.Test.YtfpladpbnbpehaaPnsI
set_option linter.unusedSimpArgs false
set_option linter.unusedVariables false
namespace Go.Proofs.Ytfpladpbnbpehaa
open Go Go.V Go.Pin
set_option maxHeartbeats 0
set_option maxRecDepth 100000

theorem stays_eq (l : List Raw3) (n k : Int) (K : AV → Heap → Prop) : walk Try.E R1 P6.C (fun _ _ => .unroll 3) 6 5 [.vecr false 4 l.length (rawsF l), .int .i64 n, .int .i64 k] K = (
 let x0 : Nat := (List.length l)
 let x1 : List Pn := (Pin.pinnedN (Frm.rawsOf x0 (rawsF l)) (Min.min x0 20))
 let x2 : Nat := (List.length x1)
 let x3 : Bool := (leB x2 1000000000) && (Pin.isPns x2 (Pin.pcs x1))
 let x4 : List Pn := (Pin.pnsOf x2 (Pin.pcs x1))
 let x5 : List UInt8 := (Pin.namedS n)
 let x6 : Int := (Prod.snd (Pin.findS x4 x5))
 let x7 : List UInt8 := (Pin.keyS (k % 3))
 let x8 : List Pn := (Prod.fst (Pin.trustS x4 x5 x7))
 let x9 : Nat := (List.length x8)
 let x10 : Int := (Prod.snd (Pin.trustS x4 x5 x7))
 let x11 : List Pn := (Prod.fst (Pin.rotateS x4 x5 x7))
 let x12 : Nat := (List.length x11)
 let x13 : Bool := cond Bool.true ((Pin.faultPS x4) == 0) Bool.false
 let x14 : Bool := cond Bool.true ((Pin.Pn.key (Prod.fst (Pin.findS x4 x5))) == x7) Bool.false
 cnd (Frm.isRaws x0 (rawsF l))
 (cnd (x3)
 (cnd (x3)
 (ite2 (x6 != 0)
 -- THEN
 (cnd ((leB x9 1000000000) && (Pin.isPns x9 (Pin.pcs x8)))
 (ite2 (cond Bool.true (x6 == 5) Bool.false)
 -- THEN
 (ite2 (x10 == 8)
 -- THEN
 (ite2 (cond Bool.true (((x2 : Nat) : Int) == 8) Bool.false)
 -- THEN
 (K (AV.bool Bool.true) [])
 -- ELSE
 (ite2 (x10 == 0)
 -- THEN
 (ite2 (cond Bool.true ((Prod.snd (Pin.findS (Pin.pnsOf x9 (Pin.pcs x8)) x5)) == 0) Bool.false)
 -- THEN
 (K (AV.bool (cond Bool.true (cond Bool.false Bool.true (cond Bool.true (((Pin.Pn.name (Prod.fst (Pin.findS (Pin.pnsOf x9 (Pin.pcs x8)) x5))) == x5) && (((Pin.Pn.key (Prod.fst (Pin.findS (Pin.pnsOf x9 (Pin.pcs x8)) x5))) == x7) && (((Pin.Pn.gone (Prod.fst (Pin.findS (Pin.pnsOf x9 (Pin.pcs x8)) x5))) == Bool.false) && Bool.true))) Bool.false)) Bool.false)) [])
 -- ELSE
 (K (AV.bool Bool.false) []))
 -- ELSE
 (K (AV.bool Bool.false) [])))
 -- ELSE
 (ite2 (x10 == 0)
 -- THEN
 (ite2 (cond Bool.true ((Prod.snd (Pin.findS (Pin.pnsOf x9 (Pin.pcs x8)) x5)) == 0) Bool.false)
 -- THEN
 (K (AV.bool (cond Bool.true (cond Bool.false Bool.true (cond Bool.true (((Pin.Pn.name (Prod.fst (Pin.findS (Pin.pnsOf x9 (Pin.pcs x8)) x5))) == x5) && (((Pin.Pn.key (Prod.fst (Pin.findS (Pin.pnsOf x9 (Pin.pcs x8)) x5))) == x7) && (((Pin.Pn.gone (Prod.fst (Pin.findS (Pin.pnsOf x9 (Pin.pcs x8)) x5))) == Bool.false) && Bool.true))) Bool.false)) Bool.false)) [])
 -- ELSE
 (K (AV.bool Bool.false) []))
 -- ELSE
 (K (AV.bool Bool.false) [])))
 -- ELSE
 (K (AV.bool Bool.false) [])))
 -- ELSE
 (cnd (x3)
 (cnd ((leB x12 1000000000) && (Pin.isPns x12 (Pin.pcs x11)))
 (ite2 (Bool.not (Pin.Pn.gone (Prod.fst (Pin.findS x4 x5))))
 -- THEN
 (cnd (x3)
 (ite2 (x13)
 -- THEN
 (ite2 (x14)
 -- THEN
 (ite2 (cond Bool.true (x10 == 0) Bool.false)
 -- THEN
 (ite2 (cond Bool.true ((Prod.snd (Pin.rotateS x4 x5 x7)) == 0) Bool.false)
 -- THEN
 (K (AV.bool (cond Bool.true ((Prod.snd (Pin.trustS (Pin.pnsOf x12 (Pin.pcs x11)) x5 x7)) == 0) Bool.false)) [])
 -- ELSE
 (K (AV.bool Bool.false) []))
 -- ELSE
 (ite2 (Bool.not x14)
 -- THEN
 (ite2 (cond Bool.true (cond Bool.false Bool.true (cond Bool.true (x10 == 13) Bool.false)) Bool.false)
 -- THEN
 (ite2 (cond Bool.true ((Prod.snd (Pin.rotateS x4 x5 x7)) == 0) Bool.false)
 -- THEN
 (K (AV.bool (cond Bool.true ((Prod.snd (Pin.trustS (Pin.pnsOf x12 (Pin.pcs x11)) x5 x7)) == 0) Bool.false)) [])
 -- ELSE
 (K (AV.bool Bool.false) []))
 -- ELSE
 (K (AV.bool Bool.false) []))
 -- ELSE
 (K (AV.bool Bool.false) [])))
 -- ELSE
 (ite2 (Bool.not x14)
 -- THEN
 (ite2 (cond Bool.true (cond Bool.false Bool.true (cond Bool.true (x10 == 13) Bool.false)) Bool.false)
 -- THEN
 (ite2 (cond Bool.true ((Prod.snd (Pin.rotateS x4 x5 x7)) == 0) Bool.false)
 -- THEN
 (K (AV.bool (cond Bool.true ((Prod.snd (Pin.trustS (Pin.pnsOf x12 (Pin.pcs x11)) x5 x7)) == 0) Bool.false)) [])
 -- ELSE
 (K (AV.bool Bool.false) []))
 -- ELSE
 (K (AV.bool Bool.false) []))
 -- ELSE
 (K (AV.bool Bool.false) [])))
 -- ELSE
 (K (AV.bool Bool.false) [])))
 -- ELSE
 (cnd (x3)
 (ite2 (x13)
 -- THEN
 (ite2 (cond Bool.true (cond Bool.false Bool.true (cond Bool.true (x10 == 13) Bool.false)) Bool.false)
 -- THEN
 (ite2 (cond Bool.true ((Prod.snd (Pin.rotateS x4 x5 x7)) == 0) Bool.false)
 -- THEN
 (K (AV.bool (cond Bool.true ((Prod.snd (Pin.trustS (Pin.pnsOf x12 (Pin.pcs x11)) x5 x7)) == 0) Bool.false)) [])
 -- ELSE
 (K (AV.bool Bool.false) []))
 -- ELSE
 (K (AV.bool Bool.false) []))
 -- ELSE
 (K (AV.bool Bool.false) [])))))))))) := by kernel_rfl

end Go.Proofs.Ytfpladpbnbpehaa
