import Derived.Test.YtdipeoacmapehaaStr
import Derived.Test.YtdipeoacmapehaaNums
import Derived.Test.YtdipeoacmapehaaWU
set_option linter.unusedSimpArgs false
set_option linter.unusedVariables false
namespace Go.Proofs.Ytdipeoacmapehaa
open Go Go.V Go.Cha
set_option maxHeartbeats 0
set_option maxRecDepth 100000

theorem half_eq (full : Bool) (b : List UInt8) (K : AV → Heap → Prop) : walk Try.E RS T0.C (fun _ _ => .unroll 10) 5 32 [.vec8 full b] K = (
 let x0 : Nat := (List.length b)
 let x1 : Bool := leB (0 + x0) x0
 cnd ((inB 7 x0) && Bool.true)
 (cnd (x1)
 (cnd ((inB 6 x0) && Bool.true)
 (cnd (x1)
 (cnd ((inB 5 x0) && Bool.true)
 (cnd (x1)
 (cnd ((inB 4 x0) && Bool.true)
 (cnd (x1)
 (cnd ((inB 3 x0) && Bool.true)
 (cnd (x1)
 (cnd ((inB 2 x0) && Bool.true)
 (cnd (x1)
 (cnd ((inB 1 x0) && Bool.true)
 (cnd (x1)
 (cnd ((inB 0 x0) && Bool.true)
 (cnd (x1)
 (K (AV.u64 ((shl64 ((shl64 ((shl64 ((shl64 ((shl64 ((shl64 ((shl64 (0 ||| (UInt8.toUInt64 (List.getD b 7 0))) 8) ||| (UInt8.toUInt64 (List.getD b 6 0))) 8) ||| (UInt8.toUInt64 (List.getD b 5 0))) 8) ||| (UInt8.toUInt64 (List.getD b 4 0))) 8) ||| (UInt8.toUInt64 (List.getD b 3 0))) 8) ||| (UInt8.toUInt64 (List.getD b 2 0))) 8) ||| (UInt8.toUInt64 (List.getD b 1 0))) 8) ||| (UInt8.toUInt64 (List.getD b 0 0)))) []))))))))))))))))) := by kernel_rfl

theorem plus3_eq (a0 a1 a2 b0 b1 b2 : UInt64) (K : AV → Heap → Prop) : walk Try.E RS T0.C (fun _ _ => .unroll 10) 5 35 [.w64 3 [a0, a1, a2], .w64 3 [b0, b1, b2]] K = (
 let x0 : UInt64 := (List.getD [a0, a1, a2] 0 0)
 let x1 : UInt64 := (List.getD [b0, b1, b2] 0 0)
 let x2 : UInt64 := (carry64 x0 x1 0)
 let x3 : List UInt64 := (List.set [a0, a1, a2] 0 ((x0 + x1) + 0))
 let x4 : UInt64 := (List.getD x3 1 0)
 let x5 : UInt64 := (List.getD [b0, b1, b2] 1 0)
 let x6 : UInt64 := (carry64 x4 x5 x2)
 let x7 : List UInt64 := (List.set x3 1 ((x4 + x5) + x2))
 cnd (bit1 x2)
 (cnd (bit1 x6)
 (K (AV.w64 3 (List.set x7 2 (((List.getD x7 2 0) + (List.getD [b0, b1, b2] 2 0)) + x6))) []))) := by kernel_rfl

theorem mul64_eq (x y : UInt64) (K : AV → Heap → Prop) : walk Try.E RS T0.C (fun _ _ => .unroll 10) 5 36 [.u64 x, .u64 y] K = (
 let x0 : UInt64 := (y &&& 4294967295)
 let x1 : UInt64 := (x &&& 4294967295)
 let x2 : UInt64 := (((shr64 x 32) * x0) + (shr64 (x1 * x0) 32))
 K (AV.tup [AV.u64 ((((shr64 x 32) * (shr64 y 32)) + (shr64 x2 32)) + (shr64 ((x2 &&& 4294967295) + (x1 * (shr64 y 32))) 32)), AV.u64 (x * y)]) []) := by kernel_rfl

end Go.Proofs.Ytdipeoacmapehaa

set_option linter.unusedSimpArgs false
set_option linter.unusedVariables false
namespace Go.Proofs.Ytdipeoacmapehaa
open Go Go.V Go.Fld Go.Pol
set_option maxRecDepth 100000

theorem half_c (full : Bool) (b : List UInt8) (h : b.length = 8) : HCall Try.E 32 [.vec8 full b] (.ret (.u64 (halfS b)) []) := by
  refine HCall.of_walk (R := RS) (T := T0) (fun _ _ => .unroll 10) 5 rfl rfl ?_
  rw [half_eq, halfS_eq, h]
  exact ⟨rfl, rfl⟩

theorem plus3_c (a b : List UInt64) : HCall Try.E 35 [.w64 3 a, .w64 3 b] (.ret (.w64 3 (w3 (v3 a + v3 b))) []) := by
  refine HCall.of_len rfl rfl fun hl => ?_
  have ha : a.length = 3 := hl _ (List.mem_cons_self ..)
  have hb : b.length = 3 := hl (.w64 3 b) (by simp)
  rw [eta3 ha, eta3 hb]
  generalize a.getD 0 0 = a0; generalize a.getD 1 0 = a1; generalize a.getD 2 0 = a2
  generalize b.getD 0 0 = b0; generalize b.getD 1 0 = b1; generalize b.getD 2 0 = b2
  refine HCall.of_walk (R := RS) (T := T0) (fun _ _ => .unroll 10) 5 rfl rfl ?_
  rw [plus3_eq]
  simp only [List.getD_cons_zero, List.getD_cons_succ, List.set_cons_zero, List.set_cons_succ, bit1, bit1_carry, cnd_true]
  refine ⟨?_, rfl⟩
  congr 1
  symm
  have z : (0 : UInt64).toNat = 0 := rfl
  have p0 := add_part a0 b0 0 (by decide)
  have p1 := add_part a1 b1 _ p0.2
  have p2 := add_part a2 b2 _ p1.2
  generalize carry64 a0 b0 0 = c0 at *
  generalize carry64 a1 b1 c0 = c1 at *
  generalize carry64 a2 b2 c1 = c2 at *
  apply w3_mk
  rw [v3_mk, v3_mk]
  have := lt64 (a2 + b2 + c1)
  have := lt64 (a1 + b1 + c0)
  have := lt64 (a0 + b0 + 0)
  have := lt64 a2
  have := lt64 b2
  omega

theorem mul64_c (x y : UInt64) : HCall Try.E 36 [.u64 x, .u64 y] (.ret (.tup [.u64 (mulhi x y), .u64 (x * y)]) []) := by
  refine HCall.of_walk (R := RS) (T := T0) (fun _ _ => .unroll 10) 5 rfl rfl ?_
  rw [mul64_eq]
  refine ⟨?_, rfl⟩
  rw [mulhi_eq, ← mul64_hi]

noncomputable def P1 : Ctr Try.E := ((T0.add 32 (fun
    | [.vec8 _ b] => some (b.length == 8, .ret (.u64 (halfS b)) [])
    | _ => none) (by
      intro args pre out h hp
      split at h
      · simp only [Option.some.injEq, Prod.mk.injEq] at h
        obtain ⟨rfl, rfl⟩ := h
        exact half_c _ _ (by simpa using hp)
      · simp at h)).add 35 (fun
    | [.w64 3 a, .w64 3 b] => some (true, .ret (.w64 3 (w3 (v3 a + v3 b))) [])
    | _ => none) (by
      intro args pre out h hp
      split at h
      · simp only [Option.some.injEq, Prod.mk.injEq] at h
        obtain ⟨rfl, rfl⟩ := h
        exact plus3_c _ _
      · simp at h)).add 36 (fun
    | [.u64 x, .u64 y] => some (true, .ret (.tup [.u64 (mulhi x y), .u64 (x * y)]) [])
    | _ => none) (by
      intro args pre out h hp
      split at h
      · simp only [Option.some.injEq, Prod.mk.injEq] at h
        obtain ⟨rfl, rfl⟩ := h
        exact mul64_c _ _
      · simp at h)
end Go.Proofs.Ytdipeoacmapehaa

set_option linter.unusedSimpArgs false
set_option linter.unusedVariables false
namespace Go.Proofs.Ytdipeoacmapehaa
open Go Go.V Go.Fld Go.Pol
set_option maxHeartbeats 0
set_option maxRecDepth 100000

theorem times_eq (a0 a1 a2 r0 r1 : UInt64) (K : AV → Heap → Prop) : walk Try.E RS P1.C (fun _ l => bif l == 23 then .unroll 3 else .unroll 10) 5 34 [.w64 3 [a0, a1, a2], .w64 2 [r0, r1]] K = (
 let x0 : UInt64 := (List.getD [a0, a1, a2] 0 0)
 let x1 : UInt64 := (List.getD [r0, r1] 0 0)
 let x2 : UInt64 := (((x0 * x1) + 0) + 0)
 let x3 : List UInt64 := (List.set [0, 0, 0, 0, 0] 0 ((x2 + 0) + 0))
 let x4 : UInt64 := (List.getD [r0, r1] 1 0)
 let x5 : UInt64 := (List.getD x3 1 0)
 let x6 : UInt64 := (((x0 * x4) + x5) + 0)
 let x7 : UInt64 := (((Fld.mulhi x0 x1) + (carry64 (x0 * x1) 0 0)) + (carry64 x2 0 0))
 let x8 : List UInt64 := (List.set (List.set x3 1 ((x6 + x7) + 0)) 2 (((Fld.mulhi x0 x4) + (carry64 (x0 * x4) x5 0)) + (carry64 x6 x7 0)))
 let x9 : UInt64 := (List.getD [a0, a1, a2] 1 0)
 let x10 : UInt64 := (List.getD x8 1 0)
 let x11 : UInt64 := (((x9 * x1) + x10) + 0)
 let x12 : List UInt64 := (List.set x8 1 ((x11 + 0) + 0))
 let x13 : UInt64 := (List.getD x12 2 0)
 let x14 : UInt64 := (((x9 * x4) + x13) + 0)
 let x15 : UInt64 := (((Fld.mulhi x9 x1) + (carry64 (x9 * x1) x10 0)) + (carry64 x11 0 0))
 let x16 : List UInt64 := (List.set (List.set x12 2 ((x14 + x15) + 0)) 3 (((Fld.mulhi x9 x4) + (carry64 (x9 * x4) x13 0)) + (carry64 x14 x15 0)))
 let x17 : UInt64 := (List.getD [a0, a1, a2] 2 0)
 let x18 : UInt64 := (List.getD x16 2 0)
 let x19 : UInt64 := (((x17 * x1) + x18) + 0)
 let x20 : List UInt64 := (List.set x16 2 ((x19 + 0) + 0))
 let x21 : UInt64 := (List.getD x20 3 0)
 let x22 : UInt64 := (((x17 * x4) + x21) + 0)
 let x23 : UInt64 := (((Fld.mulhi x17 x1) + (carry64 (x17 * x1) x18 0)) + (carry64 x19 0 0))
 let x24 : List UInt64 := (List.set (List.set x20 3 ((x22 + x23) + 0)) 4 (((Fld.mulhi x17 x4) + (carry64 (x17 * x4) x21 0)) + (carry64 x22 x23 0)))
 let x25 : UInt64 := (List.getD x24 2 0)
 let x26 : UInt64 := (List.getD x24 3 0)
 let x27 : UInt64 := (List.getD x24 4 0)
 let x28 : Nat := (Pol.v3 (List.set (List.set (List.set [0, 0, 0] 0 ((shr64 x25 2) ||| (shl64 x26 62))) 1 ((shr64 x26 2) ||| (shl64 x27 62))) 2 (shr64 x27 2)))
 let x29 : List UInt64 := (Pol.w3 ((Pol.v3 (Pol.w3 ((Pol.v3 (Pol.w3 ((Pol.v3 (Pol.w3 ((Pol.v3 (Pol.w3 ((Pol.v3 (List.set (List.set (List.set [0, 0, 0] 0 (List.getD x24 0 0)) 1 (List.getD x24 1 0)) 2 (x25 &&& 3))) + x28))) + x28))) + x28))) + x28))) + x28))
 let x30 : UInt64 := (List.getD x29 2 0)
 let x31 : List UInt64 := (Pol.w3 ((Pol.v3 (List.set x29 2 (x30 &&& 3))) + (Pol.v3 (List.set [0, 0, 0] 0 (5 * (shr64 x30 2))))))
 let x32 : UInt64 := (List.getD x31 2 0)
 let x33 : List UInt64 := (Pol.w3 ((Pol.v3 (List.set x31 2 (x32 &&& 3))) + (Pol.v3 (List.set [0, 0, 0] 0 (5 * (shr64 x32 2))))))
 let x34 : Nat := (Pol.v3 (List.set [0, 0, 0] 0 5))
 let x35 : List UInt64 := (Pol.w3 ((Pol.v3 x33) + x34))
 let x36 : UInt64 := (List.getD x35 2 0)
 let x37 : List UInt64 := (Pol.w3 ((Pol.v3 x31) + x34))
 let x38 : UInt64 := (List.getD x37 2 0)
 let x39 : List UInt64 := (Pol.w3 ((Pol.v3 x29) + x34))
 let x40 : UInt64 := (List.getD x39 2 0)
 ite2 (ltI 3 (((UInt64.toNat x30) : Nat) : Int))
 -- THEN
 (ite2 (ltI 3 (((UInt64.toNat x32) : Nat) : Int))
 -- THEN
 (ite2 (ltI 3 (((UInt64.toNat (List.getD x33 2 0)) : Nat) : Int))
 -- THEN
 (False)
 -- ELSE
 (ite2 (ltI 3 (((UInt64.toNat x36) : Nat) : Int))
 -- THEN
 (K (AV.w64 3 (List.set x35 2 (x36 &&& 3))) [])
 -- ELSE
 (K (AV.w64 3 x33) [])))
 -- ELSE
 (ite2 (ltI 3 (((UInt64.toNat x38) : Nat) : Int))
 -- THEN
 (K (AV.w64 3 (List.set x37 2 (x38 &&& 3))) [])
 -- ELSE
 (K (AV.w64 3 x31) [])))
 -- ELSE
 (ite2 (ltI 3 (((UInt64.toNat x40) : Nat) : Int))
 -- THEN
 (K (AV.w64 3 (List.set x39 2 (x40 &&& 3))) [])
 -- ELSE
 (K (AV.w64 3 x29) []))) := by kernel_rfl

end Go.Proofs.Ytdipeoacmapehaa

set_option linter.unusedSimpArgs false
set_option linter.unusedVariables false
namespace Go.Proofs.Ytdipeoacmapehaa
open Go Go.V Go.Fld Go.Pol
set_option maxRecDepth 100000


theorem times_c (a r : List UInt64) (ha : v3 a < 2722258935367507707706996859454145691648) (hr : v2 r < 21267647932558653966460912964485513216) : HCall Try.E 34 [.w64 3 a, .w64 2 r] (.ret (.w64 3 (w3 (v3 a * v2 r % q))) []) := by
  refine HCall.of_len rfl rfl fun hl => ?_
  have hla : a.length = 3 := hl _ (List.mem_cons_self ..)
  have hlr : r.length = 2 := hl (.w64 2 r) (by simp)
  rw [eta3 hla] at ha ⊢
  rw [eta2 hlr] at hr ⊢
  generalize a.getD 0 0 = a0 at *; generalize a.getD 1 0 = a1 at *; generalize a.getD 2 0 = a2 at *
  generalize r.getD 0 0 = r0 at *; generalize r.getD 1 0 = r1 at *
  refine HCall.of_walk (R := RS) (T := P1) (fun _ l => bif l == 23 then .unroll 3 else .unroll 10) 5 rfl rfl ?_
  rw [times_eq]
  rw [v3_mk] at ha ⊢
  rw [v2_mk] at hr ⊢
  intro x0 x1 x2 x3 x4 x5 x6 x7 x8 x9 x10 x11 x12 x13 x14 x15 x16 x17 x18 x19 x20 x21 x22 x23 x24 x25 x26 x27 x28 x29 x30 x31 x32 x33 x34 x35 x36 x37 x38 x39 x40
  have hV : (a0.toNat + 18446744073709551616 * a1.toNat + 340282366920938463463374607431768211456 * a2.toNat) * (r0.toNat + 18446744073709551616 * r1.toNat) < 57896044618658097711785492504343953926634992332820282019728792003956564819968 :=
    Nat.lt_of_lt_of_le (Nat.mul_lt_mul'' ha hr) (by decide)
  have z : (0 : UInt64).toNat = 0 := rfl
  have c0 : (x24.getD 0 0).toNat + 18446744073709551616 * x7.toNat = a0.toNat * r0.toNat + (0 : UInt64).toNat + (0 : UInt64).toNat := cell a0 r0 0 0
  have c1 : x10.toNat + 18446744073709551616 * x13.toNat = a0.toNat * r1.toNat + (0 : UInt64).toNat + x7.toNat := cell a0 r1 0 x7
  have c2 : (x24.getD 1 0).toNat + 18446744073709551616 * x15.toNat = a1.toNat * r0.toNat + x10.toNat + (0 : UInt64).toNat := cell a1 r0 x10 0
  have c3 : x18.toNat + 18446744073709551616 * x21.toNat = a1.toNat * r1.toNat + x13.toNat + x15.toNat := cell a1 r1 x13 x15
  have c4 : x25.toNat + 18446744073709551616 * x23.toNat = a2.toNat * r0.toNat + x18.toNat + (0 : UInt64).toNat := cell a2 r0 x18 0
  have c5 : x26.toNat + 18446744073709551616 * x27.toNat = a2.toNat * r1.toNat + x21.toNat + x23.toNat := cell a2 r1 x21 x23
  rw [z] at c0 c1 c2 c4
  have hp := prod6 c0 c1 c2 c3 c4 c5
  have e29 : x29 = w3 (v3 (w3 (v3 (w3 (v3 (w3 (v3 (w3 (v3 [x24.getD 0 0, x24.getD 1 0, x25 &&& 3] + x28)) + x28)) + x28)) + x28)) + x28) := rfl
  have e28 : x28 = v3 [shr64 x25 2 ||| shl64 x26 62, shr64 x26 2 ||| shl64 x27 62, shr64 x27 2] := rfl
  have e31 : x31 = w3 (v3 (x29.set 2 (x29.getD 2 0 &&& 3)) + v3 [5 * shr64 (x29.getD 2 0) 2, 0, 0]) := rfl
  have e34 : x34 = v3 [5, 0, 0] := rfl
  have e37 : x37 = w3 (v3 x31 + x34) := rfl
  have e39 : x39 = w3 (v3 x29 + x34) := rfl
  have e30 : x30 = x29.getD 2 0 := rfl
  have e32 : x32 = x31.getD 2 0 := rfl
  have e38 : x38 = x37.getD 2 0 := rfl
  have e40 : x40 = x39.getD 2 0 := rfl
  clear_value x40 x39 x38 x37 x36 x35 x34 x33 x32 x31 x30 x29 x28 x27 x26 x25
  generalize x24.getD 0 0 = l0 at c0 hp e29
  generalize x24.getD 1 0 = l1 at c2 hp e29
  clear c0 c1 c2 c3 c4 c5 z
  clear x24 x23 x22 x21 x20 x19 x18 x17 x16 x15 x14 x13 x12 x11 x10 x9 x8 x7 x6 x5 x4 x3 x2 x1 x0
  rw [← hp] at hV ⊢
  have b0 := lt64 l0; have b1 := lt64 l1; have b2 := lt64 x25; have b3 := lt64 x26; have b4 := lt64 x27
  clear hp ha hr
  rw [v3_mk, join, join, shr2, hi_of (l3 := x26.toNat) (l4 := x27.toNat) b0 b1] at e28
  rw [v3_mk, and3, lo_of (l3 := x26.toNat) (l4 := x27.toNat) b0 b1] at e29
  subst e30 e32 e38 e40
  generalize l0.toNat + 18446744073709551616 * l1.toNat + 340282366920938463463374607431768211456 * x25.toNat + 6277101735386680763835789423207666416102355444464034512896 * x26.toNat + 115792089237316195423570985008687907853269984665640564039457584007913129639936 * x27.toNat = V at *
  have key := last e28 e29 e31 e34 e37 e39 hV
  rcases key with ⟨k1, k2, k3⟩ | ⟨k1, k2, k3⟩ | ⟨k1, k2, k3⟩
  · rw [k1, k2]
    exact ⟨by rw [k3], rfl⟩
  · rw [k1, k2]
    exact ⟨by rw [k3], rfl⟩
  · rw [k1, k2.1, k2.2]
    exact ⟨by rw [k3], rfl⟩

noncomputable def P2 : Ctr Try.E := P1.add 34 (fun
    | [.w64 3 a, .w64 2 r] => some (ltQ (v3 a) 2722258935367507707706996859454145691648 && ltQ (v2 r) 21267647932558653966460912964485513216, .ret (.w64 3 (w3 (v3 a * v2 r % q))) [])
    | _ => none) (by
      intro args pre out h hp
      split at h
      · simp only [Option.some.injEq, Prod.mk.injEq] at h
        obtain ⟨rfl, rfl⟩ := h
        rw [Bool.and_eq_true, ltQ_iff, ltQ_iff] at hp
        exact times_c _ _ hp.1 hp.2
      · simp at h)
end Go.Proofs.Ytdipeoacmapehaa

set_option linter.unusedSimpArgs false
set_option linter.unusedVariables false
namespace Go.Proofs.Ytdipeoacmapehaa
open Go Go.V Go.Fld Go.Pol
set_option maxHeartbeats 0
set_option maxRecDepth 100000

theorem soak_eq (r p a : List UInt64) (h : List UInt8) (n : Int) (K : AV → Heap → Prop) : walk Try.E RS P2.C (fun _ _ => .unroll 17) 5 31 [.agg [.w64 2 r, .w64 2 p, .w64 3 a, .b8 16 h, .int .i64 n]] K = (
 let x0 : List UInt8 := (List.take 8 h)
 let x1 : List UInt8 := (List.drop 8 h)
 let x2 : Int := (wr IntKind.i64 (Int.tdiv n 8))
 let x3 : Int := (wr IntKind.i64 (8 * (Int.tmod n 8)))
 let x4 : List UInt64 := (List.set (List.set (List.set [0, 0, 0] 0 (Pol.halfS x0)) 1 (Pol.halfS x1)) 2 1)
 let x5 : List UInt64 := (List.set x4 2 0)
 let x6 : Nat := (Pol.v3 (Pol.w3 ((Pol.v3 a) + (Pol.v3 (List.set x5 (ofs 0 x2) ((List.getD x5 (ofs 0 x2) 0) ||| (shl64 1 (Int.toNat x3))))))))
 let x7 : Nat := 2722258935367507707706996859454145691648
 let x8 : Bool := (Pol.ltQ (Pol.v2 r) 21267647932558653966460912964485513216)
 let x9 : Nat := 1361129467683753853853498429727072845819
 let x10 : Nat := (Pol.v3 (Pol.w3 ((Pol.v3 a) + (Pol.v3 x4))))
 cnd ((List.length x0) == 8)
 (cnd ((List.length x1) == 8)
 (ite2 (ltI n 16)
 -- THEN
 (cnd (inB x2 3)
 (cnd (nnB x3)
 (cnd (inB x2 3)
 (cnd ((Pol.ltQ x6 x7) && x8)
 (K (AV.agg [AV.w64 2 r, AV.w64 2 p, AV.w64 3 (Pol.w3 ((x6 * (Pol.v2 r)) % x9)), AV.b8 16 [0, 0, 0, 0, 0, 0, 0, 0, 0, 0, 0, 0, 0, 0, 0, 0], AV.int IntKind.i64 0]) [])))))
 -- ELSE
 (cnd ((Pol.ltQ x10 x7) && x8)
 (K (AV.agg [AV.w64 2 r, AV.w64 2 p, AV.w64 3 (Pol.w3 ((x10 * (Pol.v2 r)) % x9)), AV.b8 16 [0, 0, 0, 0, 0, 0, 0, 0, 0, 0, 0, 0, 0, 0, 0, 0], AV.int IntKind.i64 0]) []))))) := by kernel_rfl

theorem begin_eq (k : List UInt8) (K : AV → Heap → Prop) : walk Try.E RS P2.C (fun _ _ => .unroll 17) 5 26 [.b8 32 k] K = (
 let x0 : List UInt8 := (List.take 8 k)
 let x1 : List UInt8 := (List.take 8 (List.drop 8 k))
 let x2 : List UInt8 := (List.take 8 (List.drop 16 k))
 let x3 : List UInt8 := (List.drop 24 k)
 cnd ((List.length x0) == 8)
 (cnd ((List.length x1) == 8)
 (cnd ((List.length x2) == 8)
 (cnd ((List.length x3) == 8)
 (K (AV.agg [AV.w64 2 (List.set (List.set [0, 0] 0 ((Pol.halfS x0) &&& 1152921487695413247)) 1 ((Pol.halfS x1) &&& 1152921487695413244)), AV.w64 2 (List.set (List.set [0, 0] 0 (Pol.halfS x2)) 1 (Pol.halfS x3)), AV.w64 3 [0, 0, 0], AV.b8 16 [0, 0, 0, 0, 0, 0, 0, 0, 0, 0, 0, 0, 0, 0, 0, 0], AV.int IntKind.i64 0]) []))))) := by kernel_rfl

end Go.Proofs.Ytdipeoacmapehaa

set_option linter.unusedSimpArgs false
set_option linter.unusedVariables false
namespace Go.Proofs.Ytdipeoacmapehaa
open Go Go.V Go.Fld Go.Pol
set_option maxHeartbeats 0
set_option maxRecDepth 100000

theorem check0_eq (r p a : List UInt64) (K : AV → Heap → Prop) : walk Try.E RS P2.C (fun _ _ => .unroll 17) 5 30 [.agg [.w64 2 r, .w64 2 p, .w64 3 a, .b8 16 [0, 0, 0, 0, 0, 0, 0, 0, 0, 0, 0, 0, 0, 0, 0, 0], .int .i64 0]] K = (
 let x0 : Int := (((UInt64.toNat (List.getD a 2 0)) : Nat) : Int)
 ite2 ((((UInt64.toNat ((List.getD r 0 0) &&& 17293822586014138368)) : Nat) : Int) != 0)
 -- THEN
 (K (AV.int IntKind.i64 9) [])
 -- ELSE
 (ite2 (cond Bool.false Bool.true ((((UInt64.toNat ((List.getD r 1 0) &&& 17293822586014138371)) : Nat) : Int) != 0))
 -- THEN
 (K (AV.int IntKind.i64 9) [])
 -- ELSE
 (ite2 (cond Bool.false Bool.true (ltI 3 x0))
 -- THEN
 (K (AV.int IntKind.i64 9) [])
 -- ELSE
 (ite2 (x0 == 3)
 -- THEN
 (ite2 (cond Bool.true ((((UInt64.toNat (List.getD a 1 0)) : Nat) : Int) == 18446744073709551615) Bool.false)
 -- THEN
 (ite2 (cond Bool.false Bool.true (cond Bool.true (Bool.not (ltI (((UInt64.toNat (List.getD a 0 0)) : Nat) : Int) 18446744073709551611)) Bool.false))
 -- THEN
 (K (AV.int IntKind.i64 9) [])
 -- ELSE
 (K (AV.int IntKind.i64 0) []))
 -- ELSE
 (K (AV.int IntKind.i64 0) []))
 -- ELSE
 (K (AV.int IntKind.i64 0) []))))) := by kernel_rfl

theorem check1_eq (r p a : List UInt64) (h0 : UInt8) (K : AV → Heap → Prop) : walk Try.E RS P2.C (fun _ _ => .unroll 17) 5 30 [.agg [.w64 2 r, .w64 2 p, .w64 3 a, .b8 16 [h0, 0, 0, 0, 0, 0, 0, 0, 0, 0, 0, 0, 0, 0, 0, 0], .int .i64 1]] K = (
 let x0 : Int := (((UInt64.toNat (List.getD a 2 0)) : Nat) : Int)
 ite2 ((((UInt64.toNat ((List.getD r 0 0) &&& 17293822586014138368)) : Nat) : Int) != 0)
 -- THEN
 (K (AV.int IntKind.i64 9) [])
 -- ELSE
 (ite2 (cond Bool.false Bool.true ((((UInt64.toNat ((List.getD r 1 0) &&& 17293822586014138371)) : Nat) : Int) != 0))
 -- THEN
 (K (AV.int IntKind.i64 9) [])
 -- ELSE
 (ite2 (cond Bool.false Bool.true (ltI 3 x0))
 -- THEN
 (K (AV.int IntKind.i64 9) [])
 -- ELSE
 (ite2 (x0 == 3)
 -- THEN
 (ite2 (cond Bool.true ((((UInt64.toNat (List.getD a 1 0)) : Nat) : Int) == 18446744073709551615) Bool.false)
 -- THEN
 (ite2 (cond Bool.false Bool.true (cond Bool.true (Bool.not (ltI (((UInt64.toNat (List.getD a 0 0)) : Nat) : Int) 18446744073709551611)) Bool.false))
 -- THEN
 (K (AV.int IntKind.i64 9) [])
 -- ELSE
 (K (AV.int IntKind.i64 0) []))
 -- ELSE
 (K (AV.int IntKind.i64 0) []))
 -- ELSE
 (K (AV.int IntKind.i64 0) []))))) := by kernel_rfl

theorem check2_eq (r p a : List UInt64) (h0 h1 : UInt8) (K : AV → Heap → Prop) : walk Try.E RS P2.C (fun _ _ => .unroll 17) 5 30 [.agg [.w64 2 r, .w64 2 p, .w64 3 a, .b8 16 [h0, h1, 0, 0, 0, 0, 0, 0, 0, 0, 0, 0, 0, 0, 0, 0], .int .i64 2]] K = (
 let x0 : Int := (((UInt64.toNat (List.getD a 2 0)) : Nat) : Int)
 ite2 ((((UInt64.toNat ((List.getD r 0 0) &&& 17293822586014138368)) : Nat) : Int) != 0)
 -- THEN
 (K (AV.int IntKind.i64 9) [])
 -- ELSE
 (ite2 (cond Bool.false Bool.true ((((UInt64.toNat ((List.getD r 1 0) &&& 17293822586014138371)) : Nat) : Int) != 0))
 -- THEN
 (K (AV.int IntKind.i64 9) [])
 -- ELSE
 (ite2 (cond Bool.false Bool.true (ltI 3 x0))
 -- THEN
 (K (AV.int IntKind.i64 9) [])
 -- ELSE
 (ite2 (x0 == 3)
 -- THEN
 (ite2 (cond Bool.true ((((UInt64.toNat (List.getD a 1 0)) : Nat) : Int) == 18446744073709551615) Bool.false)
 -- THEN
 (ite2 (cond Bool.false Bool.true (cond Bool.true (Bool.not (ltI (((UInt64.toNat (List.getD a 0 0)) : Nat) : Int) 18446744073709551611)) Bool.false))
 -- THEN
 (K (AV.int IntKind.i64 9) [])
 -- ELSE
 (K (AV.int IntKind.i64 0) []))
 -- ELSE
 (K (AV.int IntKind.i64 0) []))
 -- ELSE
 (K (AV.int IntKind.i64 0) []))))) := by kernel_rfl

theorem check3_eq (r p a : List UInt64) (h0 h1 h2 : UInt8) (K : AV → Heap → Prop) : walk Try.E RS P2.C (fun _ _ => .unroll 17) 5 30 [.agg [.w64 2 r, .w64 2 p, .w64 3 a, .b8 16 [h0, h1, h2, 0, 0, 0, 0, 0, 0, 0, 0, 0, 0, 0, 0, 0], .int .i64 3]] K = (
 let x0 : Int := (((UInt64.toNat (List.getD a 2 0)) : Nat) : Int)
 ite2 ((((UInt64.toNat ((List.getD r 0 0) &&& 17293822586014138368)) : Nat) : Int) != 0)
 -- THEN
 (K (AV.int IntKind.i64 9) [])
 -- ELSE
 (ite2 (cond Bool.false Bool.true ((((UInt64.toNat ((List.getD r 1 0) &&& 17293822586014138371)) : Nat) : Int) != 0))
 -- THEN
 (K (AV.int IntKind.i64 9) [])
 -- ELSE
 (ite2 (cond Bool.false Bool.true (ltI 3 x0))
 -- THEN
 (K (AV.int IntKind.i64 9) [])
 -- ELSE
 (ite2 (x0 == 3)
 -- THEN
 (ite2 (cond Bool.true ((((UInt64.toNat (List.getD a 1 0)) : Nat) : Int) == 18446744073709551615) Bool.false)
 -- THEN
 (ite2 (cond Bool.false Bool.true (cond Bool.true (Bool.not (ltI (((UInt64.toNat (List.getD a 0 0)) : Nat) : Int) 18446744073709551611)) Bool.false))
 -- THEN
 (K (AV.int IntKind.i64 9) [])
 -- ELSE
 (K (AV.int IntKind.i64 0) []))
 -- ELSE
 (K (AV.int IntKind.i64 0) []))
 -- ELSE
 (K (AV.int IntKind.i64 0) []))))) := by kernel_rfl

theorem check4_eq (r p a : List UInt64) (h0 h1 h2 h3 : UInt8) (K : AV → Heap → Prop) : walk Try.E RS P2.C (fun _ _ => .unroll 17) 5 30 [.agg [.w64 2 r, .w64 2 p, .w64 3 a, .b8 16 [h0, h1, h2, h3, 0, 0, 0, 0, 0, 0, 0, 0, 0, 0, 0, 0], .int .i64 4]] K = (
 let x0 : Int := (((UInt64.toNat (List.getD a 2 0)) : Nat) : Int)
 ite2 ((((UInt64.toNat ((List.getD r 0 0) &&& 17293822586014138368)) : Nat) : Int) != 0)
 -- THEN
 (K (AV.int IntKind.i64 9) [])
 -- ELSE
 (ite2 (cond Bool.false Bool.true ((((UInt64.toNat ((List.getD r 1 0) &&& 17293822586014138371)) : Nat) : Int) != 0))
 -- THEN
 (K (AV.int IntKind.i64 9) [])
 -- ELSE
 (ite2 (cond Bool.false Bool.true (ltI 3 x0))
 -- THEN
 (K (AV.int IntKind.i64 9) [])
 -- ELSE
 (ite2 (x0 == 3)
 -- THEN
 (ite2 (cond Bool.true ((((UInt64.toNat (List.getD a 1 0)) : Nat) : Int) == 18446744073709551615) Bool.false)
 -- THEN
 (ite2 (cond Bool.false Bool.true (cond Bool.true (Bool.not (ltI (((UInt64.toNat (List.getD a 0 0)) : Nat) : Int) 18446744073709551611)) Bool.false))
 -- THEN
 (K (AV.int IntKind.i64 9) [])
 -- ELSE
 (K (AV.int IntKind.i64 0) []))
 -- ELSE
 (K (AV.int IntKind.i64 0) []))
 -- ELSE
 (K (AV.int IntKind.i64 0) []))))) := by kernel_rfl

theorem check5_eq (r p a : List UInt64) (h0 h1 h2 h3 h4 : UInt8) (K : AV → Heap → Prop) : walk Try.E RS P2.C (fun _ _ => .unroll 17) 5 30 [.agg [.w64 2 r, .w64 2 p, .w64 3 a, .b8 16 [h0, h1, h2, h3, h4, 0, 0, 0, 0, 0, 0, 0, 0, 0, 0, 0], .int .i64 5]] K = (
 let x0 : Int := (((UInt64.toNat (List.getD a 2 0)) : Nat) : Int)
 ite2 ((((UInt64.toNat ((List.getD r 0 0) &&& 17293822586014138368)) : Nat) : Int) != 0)
 -- THEN
 (K (AV.int IntKind.i64 9) [])
 -- ELSE
 (ite2 (cond Bool.false Bool.true ((((UInt64.toNat ((List.getD r 1 0) &&& 17293822586014138371)) : Nat) : Int) != 0))
 -- THEN
 (K (AV.int IntKind.i64 9) [])
 -- ELSE
 (ite2 (cond Bool.false Bool.true (ltI 3 x0))
 -- THEN
 (K (AV.int IntKind.i64 9) [])
 -- ELSE
 (ite2 (x0 == 3)
 -- THEN
 (ite2 (cond Bool.true ((((UInt64.toNat (List.getD a 1 0)) : Nat) : Int) == 18446744073709551615) Bool.false)
 -- THEN
 (ite2 (cond Bool.false Bool.true (cond Bool.true (Bool.not (ltI (((UInt64.toNat (List.getD a 0 0)) : Nat) : Int) 18446744073709551611)) Bool.false))
 -- THEN
 (K (AV.int IntKind.i64 9) [])
 -- ELSE
 (K (AV.int IntKind.i64 0) []))
 -- ELSE
 (K (AV.int IntKind.i64 0) []))
 -- ELSE
 (K (AV.int IntKind.i64 0) []))))) := by kernel_rfl

theorem check6_eq (r p a : List UInt64) (h0 h1 h2 h3 h4 h5 : UInt8) (K : AV → Heap → Prop) : walk Try.E RS P2.C (fun _ _ => .unroll 17) 5 30 [.agg [.w64 2 r, .w64 2 p, .w64 3 a, .b8 16 [h0, h1, h2, h3, h4, h5, 0, 0, 0, 0, 0, 0, 0, 0, 0, 0], .int .i64 6]] K = (
 let x0 : Int := (((UInt64.toNat (List.getD a 2 0)) : Nat) : Int)
 ite2 ((((UInt64.toNat ((List.getD r 0 0) &&& 17293822586014138368)) : Nat) : Int) != 0)
 -- THEN
 (K (AV.int IntKind.i64 9) [])
 -- ELSE
 (ite2 (cond Bool.false Bool.true ((((UInt64.toNat ((List.getD r 1 0) &&& 17293822586014138371)) : Nat) : Int) != 0))
 -- THEN
 (K (AV.int IntKind.i64 9) [])
 -- ELSE
 (ite2 (cond Bool.false Bool.true (ltI 3 x0))
 -- THEN
 (K (AV.int IntKind.i64 9) [])
 -- ELSE
 (ite2 (x0 == 3)
 -- THEN
 (ite2 (cond Bool.true ((((UInt64.toNat (List.getD a 1 0)) : Nat) : Int) == 18446744073709551615) Bool.false)
 -- THEN
 (ite2 (cond Bool.false Bool.true (cond Bool.true (Bool.not (ltI (((UInt64.toNat (List.getD a 0 0)) : Nat) : Int) 18446744073709551611)) Bool.false))
 -- THEN
 (K (AV.int IntKind.i64 9) [])
 -- ELSE
 (K (AV.int IntKind.i64 0) []))
 -- ELSE
 (K (AV.int IntKind.i64 0) []))
 -- ELSE
 (K (AV.int IntKind.i64 0) []))))) := by kernel_rfl

theorem check7_eq (r p a : List UInt64) (h0 h1 h2 h3 h4 h5 h6 : UInt8) (K : AV → Heap → Prop) : walk Try.E RS P2.C (fun _ _ => .unroll 17) 5 30 [.agg [.w64 2 r, .w64 2 p, .w64 3 a, .b8 16 [h0, h1, h2, h3, h4, h5, h6, 0, 0, 0, 0, 0, 0, 0, 0, 0], .int .i64 7]] K = (
 let x0 : Int := (((UInt64.toNat (List.getD a 2 0)) : Nat) : Int)
 ite2 ((((UInt64.toNat ((List.getD r 0 0) &&& 17293822586014138368)) : Nat) : Int) != 0)
 -- THEN
 (K (AV.int IntKind.i64 9) [])
 -- ELSE
 (ite2 (cond Bool.false Bool.true ((((UInt64.toNat ((List.getD r 1 0) &&& 17293822586014138371)) : Nat) : Int) != 0))
 -- THEN
 (K (AV.int IntKind.i64 9) [])
 -- ELSE
 (ite2 (cond Bool.false Bool.true (ltI 3 x0))
 -- THEN
 (K (AV.int IntKind.i64 9) [])
 -- ELSE
 (ite2 (x0 == 3)
 -- THEN
 (ite2 (cond Bool.true ((((UInt64.toNat (List.getD a 1 0)) : Nat) : Int) == 18446744073709551615) Bool.false)
 -- THEN
 (ite2 (cond Bool.false Bool.true (cond Bool.true (Bool.not (ltI (((UInt64.toNat (List.getD a 0 0)) : Nat) : Int) 18446744073709551611)) Bool.false))
 -- THEN
 (K (AV.int IntKind.i64 9) [])
 -- ELSE
 (K (AV.int IntKind.i64 0) []))
 -- ELSE
 (K (AV.int IntKind.i64 0) []))
 -- ELSE
 (K (AV.int IntKind.i64 0) []))))) := by kernel_rfl

theorem check8_eq (r p a : List UInt64) (h0 h1 h2 h3 h4 h5 h6 h7 : UInt8) (K : AV → Heap → Prop) : walk Try.E RS P2.C (fun _ _ => .unroll 17) 5 30 [.agg [.w64 2 r, .w64 2 p, .w64 3 a, .b8 16 [h0, h1, h2, h3, h4, h5, h6, h7, 0, 0, 0, 0, 0, 0, 0, 0], .int .i64 8]] K = (
 let x0 : Int := (((UInt64.toNat (List.getD a 2 0)) : Nat) : Int)
 ite2 ((((UInt64.toNat ((List.getD r 0 0) &&& 17293822586014138368)) : Nat) : Int) != 0)
 -- THEN
 (K (AV.int IntKind.i64 9) [])
 -- ELSE
 (ite2 (cond Bool.false Bool.true ((((UInt64.toNat ((List.getD r 1 0) &&& 17293822586014138371)) : Nat) : Int) != 0))
 -- THEN
 (K (AV.int IntKind.i64 9) [])
 -- ELSE
 (ite2 (cond Bool.false Bool.true (ltI 3 x0))
 -- THEN
 (K (AV.int IntKind.i64 9) [])
 -- ELSE
 (ite2 (x0 == 3)
 -- THEN
 (ite2 (cond Bool.true ((((UInt64.toNat (List.getD a 1 0)) : Nat) : Int) == 18446744073709551615) Bool.false)
 -- THEN
 (ite2 (cond Bool.false Bool.true (cond Bool.true (Bool.not (ltI (((UInt64.toNat (List.getD a 0 0)) : Nat) : Int) 18446744073709551611)) Bool.false))
 -- THEN
 (K (AV.int IntKind.i64 9) [])
 -- ELSE
 (K (AV.int IntKind.i64 0) []))
 -- ELSE
 (K (AV.int IntKind.i64 0) []))
 -- ELSE
 (K (AV.int IntKind.i64 0) []))))) := by kernel_rfl

theorem check9_eq (r p a : List UInt64) (h0 h1 h2 h3 h4 h5 h6 h7 h8 : UInt8) (K : AV → Heap → Prop) : walk Try.E RS P2.C (fun _ _ => .unroll 17) 5 30 [.agg [.w64 2 r, .w64 2 p, .w64 3 a, .b8 16 [h0, h1, h2, h3, h4, h5, h6, h7, h8, 0, 0, 0, 0, 0, 0, 0], .int .i64 9]] K = (
 let x0 : Int := (((UInt64.toNat (List.getD a 2 0)) : Nat) : Int)
 ite2 ((((UInt64.toNat ((List.getD r 0 0) &&& 17293822586014138368)) : Nat) : Int) != 0)
 -- THEN
 (K (AV.int IntKind.i64 9) [])
 -- ELSE
 (ite2 (cond Bool.false Bool.true ((((UInt64.toNat ((List.getD r 1 0) &&& 17293822586014138371)) : Nat) : Int) != 0))
 -- THEN
 (K (AV.int IntKind.i64 9) [])
 -- ELSE
 (ite2 (cond Bool.false Bool.true (ltI 3 x0))
 -- THEN
 (K (AV.int IntKind.i64 9) [])
 -- ELSE
 (ite2 (x0 == 3)
 -- THEN
 (ite2 (cond Bool.true ((((UInt64.toNat (List.getD a 1 0)) : Nat) : Int) == 18446744073709551615) Bool.false)
 -- THEN
 (ite2 (cond Bool.false Bool.true (cond Bool.true (Bool.not (ltI (((UInt64.toNat (List.getD a 0 0)) : Nat) : Int) 18446744073709551611)) Bool.false))
 -- THEN
 (K (AV.int IntKind.i64 9) [])
 -- ELSE
 (K (AV.int IntKind.i64 0) []))
 -- ELSE
 (K (AV.int IntKind.i64 0) []))
 -- ELSE
 (K (AV.int IntKind.i64 0) []))))) := by kernel_rfl

theorem check10_eq (r p a : List UInt64) (h0 h1 h2 h3 h4 h5 h6 h7 h8 h9 : UInt8) (K : AV → Heap → Prop) : walk Try.E RS P2.C (fun _ _ => .unroll 17) 5 30 [.agg [.w64 2 r, .w64 2 p, .w64 3 a, .b8 16 [h0, h1, h2, h3, h4, h5, h6, h7, h8, h9, 0, 0, 0, 0, 0, 0], .int .i64 10]] K = (
 let x0 : Int := (((UInt64.toNat (List.getD a 2 0)) : Nat) : Int)
 ite2 ((((UInt64.toNat ((List.getD r 0 0) &&& 17293822586014138368)) : Nat) : Int) != 0)
 -- THEN
 (K (AV.int IntKind.i64 9) [])
 -- ELSE
 (ite2 (cond Bool.false Bool.true ((((UInt64.toNat ((List.getD r 1 0) &&& 17293822586014138371)) : Nat) : Int) != 0))
 -- THEN
 (K (AV.int IntKind.i64 9) [])
 -- ELSE
 (ite2 (cond Bool.false Bool.true (ltI 3 x0))
 -- THEN
 (K (AV.int IntKind.i64 9) [])
 -- ELSE
 (ite2 (x0 == 3)
 -- THEN
 (ite2 (cond Bool.true ((((UInt64.toNat (List.getD a 1 0)) : Nat) : Int) == 18446744073709551615) Bool.false)
 -- THEN
 (ite2 (cond Bool.false Bool.true (cond Bool.true (Bool.not (ltI (((UInt64.toNat (List.getD a 0 0)) : Nat) : Int) 18446744073709551611)) Bool.false))
 -- THEN
 (K (AV.int IntKind.i64 9) [])
 -- ELSE
 (K (AV.int IntKind.i64 0) []))
 -- ELSE
 (K (AV.int IntKind.i64 0) []))
 -- ELSE
 (K (AV.int IntKind.i64 0) []))))) := by kernel_rfl

theorem check11_eq (r p a : List UInt64) (h0 h1 h2 h3 h4 h5 h6 h7 h8 h9 h10 : UInt8) (K : AV → Heap → Prop) : walk Try.E RS P2.C (fun _ _ => .unroll 17) 5 30 [.agg [.w64 2 r, .w64 2 p, .w64 3 a, .b8 16 [h0, h1, h2, h3, h4, h5, h6, h7, h8, h9, h10, 0, 0, 0, 0, 0], .int .i64 11]] K = (
 let x0 : Int := (((UInt64.toNat (List.getD a 2 0)) : Nat) : Int)
 ite2 ((((UInt64.toNat ((List.getD r 0 0) &&& 17293822586014138368)) : Nat) : Int) != 0)
 -- THEN
 (K (AV.int IntKind.i64 9) [])
 -- ELSE
 (ite2 (cond Bool.false Bool.true ((((UInt64.toNat ((List.getD r 1 0) &&& 17293822586014138371)) : Nat) : Int) != 0))
 -- THEN
 (K (AV.int IntKind.i64 9) [])
 -- ELSE
 (ite2 (cond Bool.false Bool.true (ltI 3 x0))
 -- THEN
 (K (AV.int IntKind.i64 9) [])
 -- ELSE
 (ite2 (x0 == 3)
 -- THEN
 (ite2 (cond Bool.true ((((UInt64.toNat (List.getD a 1 0)) : Nat) : Int) == 18446744073709551615) Bool.false)
 -- THEN
 (ite2 (cond Bool.false Bool.true (cond Bool.true (Bool.not (ltI (((UInt64.toNat (List.getD a 0 0)) : Nat) : Int) 18446744073709551611)) Bool.false))
 -- THEN
 (K (AV.int IntKind.i64 9) [])
 -- ELSE
 (K (AV.int IntKind.i64 0) []))
 -- ELSE
 (K (AV.int IntKind.i64 0) []))
 -- ELSE
 (K (AV.int IntKind.i64 0) []))))) := by kernel_rfl

theorem check12_eq (r p a : List UInt64) (h0 h1 h2 h3 h4 h5 h6 h7 h8 h9 h10 h11 : UInt8) (K : AV → Heap → Prop) : walk Try.E RS P2.C (fun _ _ => .unroll 17) 5 30 [.agg [.w64 2 r, .w64 2 p, .w64 3 a, .b8 16 [h0, h1, h2, h3, h4, h5, h6, h7, h8, h9, h10, h11, 0, 0, 0, 0], .int .i64 12]] K = (
 let x0 : Int := (((UInt64.toNat (List.getD a 2 0)) : Nat) : Int)
 ite2 ((((UInt64.toNat ((List.getD r 0 0) &&& 17293822586014138368)) : Nat) : Int) != 0)
 -- THEN
 (K (AV.int IntKind.i64 9) [])
 -- ELSE
 (ite2 (cond Bool.false Bool.true ((((UInt64.toNat ((List.getD r 1 0) &&& 17293822586014138371)) : Nat) : Int) != 0))
 -- THEN
 (K (AV.int IntKind.i64 9) [])
 -- ELSE
 (ite2 (cond Bool.false Bool.true (ltI 3 x0))
 -- THEN
 (K (AV.int IntKind.i64 9) [])
 -- ELSE
 (ite2 (x0 == 3)
 -- THEN
 (ite2 (cond Bool.true ((((UInt64.toNat (List.getD a 1 0)) : Nat) : Int) == 18446744073709551615) Bool.false)
 -- THEN
 (ite2 (cond Bool.false Bool.true (cond Bool.true (Bool.not (ltI (((UInt64.toNat (List.getD a 0 0)) : Nat) : Int) 18446744073709551611)) Bool.false))
 -- THEN
 (K (AV.int IntKind.i64 9) [])
 -- ELSE
 (K (AV.int IntKind.i64 0) []))
 -- ELSE
 (K (AV.int IntKind.i64 0) []))
 -- ELSE
 (K (AV.int IntKind.i64 0) []))))) := by kernel_rfl

theorem check13_eq (r p a : List UInt64) (h0 h1 h2 h3 h4 h5 h6 h7 h8 h9 h10 h11 h12 : UInt8) (K : AV → Heap → Prop) : walk Try.E RS P2.C (fun _ _ => .unroll 17) 5 30 [.agg [.w64 2 r, .w64 2 p, .w64 3 a, .b8 16 [h0, h1, h2, h3, h4, h5, h6, h7, h8, h9, h10, h11, h12, 0, 0, 0], .int .i64 13]] K = (
 let x0 : Int := (((UInt64.toNat (List.getD a 2 0)) : Nat) : Int)
 ite2 ((((UInt64.toNat ((List.getD r 0 0) &&& 17293822586014138368)) : Nat) : Int) != 0)
 -- THEN
 (K (AV.int IntKind.i64 9) [])
 -- ELSE
 (ite2 (cond Bool.false Bool.true ((((UInt64.toNat ((List.getD r 1 0) &&& 17293822586014138371)) : Nat) : Int) != 0))
 -- THEN
 (K (AV.int IntKind.i64 9) [])
 -- ELSE
 (ite2 (cond Bool.false Bool.true (ltI 3 x0))
 -- THEN
 (K (AV.int IntKind.i64 9) [])
 -- ELSE
 (ite2 (x0 == 3)
 -- THEN
 (ite2 (cond Bool.true ((((UInt64.toNat (List.getD a 1 0)) : Nat) : Int) == 18446744073709551615) Bool.false)
 -- THEN
 (ite2 (cond Bool.false Bool.true (cond Bool.true (Bool.not (ltI (((UInt64.toNat (List.getD a 0 0)) : Nat) : Int) 18446744073709551611)) Bool.false))
 -- THEN
 (K (AV.int IntKind.i64 9) [])
 -- ELSE
 (K (AV.int IntKind.i64 0) []))
 -- ELSE
 (K (AV.int IntKind.i64 0) []))
 -- ELSE
 (K (AV.int IntKind.i64 0) []))))) := by kernel_rfl

theorem check14_eq (r p a : List UInt64) (h0 h1 h2 h3 h4 h5 h6 h7 h8 h9 h10 h11 h12 h13 : UInt8) (K : AV → Heap → Prop) : walk Try.E RS P2.C (fun _ _ => .unroll 17) 5 30 [.agg [.w64 2 r, .w64 2 p, .w64 3 a, .b8 16 [h0, h1, h2, h3, h4, h5, h6, h7, h8, h9, h10, h11, h12, h13, 0, 0], .int .i64 14]] K = (
 let x0 : Int := (((UInt64.toNat (List.getD a 2 0)) : Nat) : Int)
 ite2 ((((UInt64.toNat ((List.getD r 0 0) &&& 17293822586014138368)) : Nat) : Int) != 0)
 -- THEN
 (K (AV.int IntKind.i64 9) [])
 -- ELSE
 (ite2 (cond Bool.false Bool.true ((((UInt64.toNat ((List.getD r 1 0) &&& 17293822586014138371)) : Nat) : Int) != 0))
 -- THEN
 (K (AV.int IntKind.i64 9) [])
 -- ELSE
 (ite2 (cond Bool.false Bool.true (ltI 3 x0))
 -- THEN
 (K (AV.int IntKind.i64 9) [])
 -- ELSE
 (ite2 (x0 == 3)
 -- THEN
 (ite2 (cond Bool.true ((((UInt64.toNat (List.getD a 1 0)) : Nat) : Int) == 18446744073709551615) Bool.false)
 -- THEN
 (ite2 (cond Bool.false Bool.true (cond Bool.true (Bool.not (ltI (((UInt64.toNat (List.getD a 0 0)) : Nat) : Int) 18446744073709551611)) Bool.false))
 -- THEN
 (K (AV.int IntKind.i64 9) [])
 -- ELSE
 (K (AV.int IntKind.i64 0) []))
 -- ELSE
 (K (AV.int IntKind.i64 0) []))
 -- ELSE
 (K (AV.int IntKind.i64 0) []))))) := by kernel_rfl

theorem check15_eq (r p a : List UInt64) (h0 h1 h2 h3 h4 h5 h6 h7 h8 h9 h10 h11 h12 h13 h14 : UInt8) (K : AV → Heap → Prop) : walk Try.E RS P2.C (fun _ _ => .unroll 17) 5 30 [.agg [.w64 2 r, .w64 2 p, .w64 3 a, .b8 16 [h0, h1, h2, h3, h4, h5, h6, h7, h8, h9, h10, h11, h12, h13, h14, 0], .int .i64 15]] K = (
 let x0 : Int := (((UInt64.toNat (List.getD a 2 0)) : Nat) : Int)
 ite2 ((((UInt64.toNat ((List.getD r 0 0) &&& 17293822586014138368)) : Nat) : Int) != 0)
 -- THEN
 (K (AV.int IntKind.i64 9) [])
 -- ELSE
 (ite2 (cond Bool.false Bool.true ((((UInt64.toNat ((List.getD r 1 0) &&& 17293822586014138371)) : Nat) : Int) != 0))
 -- THEN
 (K (AV.int IntKind.i64 9) [])
 -- ELSE
 (ite2 (cond Bool.false Bool.true (ltI 3 x0))
 -- THEN
 (K (AV.int IntKind.i64 9) [])
 -- ELSE
 (ite2 (x0 == 3)
 -- THEN
 (ite2 (cond Bool.true ((((UInt64.toNat (List.getD a 1 0)) : Nat) : Int) == 18446744073709551615) Bool.false)
 -- THEN
 (ite2 (cond Bool.false Bool.true (cond Bool.true (Bool.not (ltI (((UInt64.toNat (List.getD a 0 0)) : Nat) : Int) 18446744073709551611)) Bool.false))
 -- THEN
 (K (AV.int IntKind.i64 9) [])
 -- ELSE
 (K (AV.int IntKind.i64 0) []))
 -- ELSE
 (K (AV.int IntKind.i64 0) []))
 -- ELSE
 (K (AV.int IntKind.i64 0) []))))) := by kernel_rfl

theorem check16_eq (r p a : List UInt64) (h : List UInt8) (K : AV → Heap → Prop) : walk Try.E RS P2.C (fun _ _ => .unroll 17) 5 30 [.agg [.w64 2 r, .w64 2 p, .w64 3 a, .b8 16 h, .int .i64 16]] K = (
 let x0 : Int := (((UInt64.toNat (List.getD a 2 0)) : Nat) : Int)
 ite2 ((((UInt64.toNat ((List.getD r 0 0) &&& 17293822586014138368)) : Nat) : Int) != 0)
 -- THEN
 (K (AV.int IntKind.i64 9) [])
 -- ELSE
 (ite2 (cond Bool.false Bool.true ((((UInt64.toNat ((List.getD r 1 0) &&& 17293822586014138371)) : Nat) : Int) != 0))
 -- THEN
 (K (AV.int IntKind.i64 9) [])
 -- ELSE
 (ite2 (cond Bool.false Bool.true (ltI 3 x0))
 -- THEN
 (K (AV.int IntKind.i64 9) [])
 -- ELSE
 (ite2 (x0 == 3)
 -- THEN
 (ite2 (cond Bool.true ((((UInt64.toNat (List.getD a 1 0)) : Nat) : Int) == 18446744073709551615) Bool.false)
 -- THEN
 (ite2 (cond Bool.false Bool.true (cond Bool.true (Bool.not (ltI (((UInt64.toNat (List.getD a 0 0)) : Nat) : Int) 18446744073709551611)) Bool.false))
 -- THEN
 (K (AV.int IntKind.i64 9) [])
 -- ELSE
 (K (AV.int IntKind.i64 9) []))
 -- ELSE
 (K (AV.int IntKind.i64 9) []))
 -- ELSE
 (K (AV.int IntKind.i64 9) []))))) := by kernel_rfl

end Go.Proofs.Ytdipeoacmapehaa

set_option linter.unusedSimpArgs false
set_option linter.unusedVariables false
namespace Go.Proofs.Ytdipeoacmapehaa
open Go Go.V Go.Fld Go.Pol
set_option maxRecDepth 100000

theorem soak_c (r p a : List UInt64) (h : List UInt8) (n : Int) (hr : v2 r < 21267647932558653966460912964485513216) (ha : v3 a < q) (h0 : 0 ≤ n) (h1 : n ≤ 16) :
    HCall Try.E 31 [.agg [.w64 2 r, .w64 2 p, .w64 3 a, .b8 16 h, .int .i64 n]] (.ret (.agg [.w64 2 r, .w64 2 p, .w64 3 (w3 (soakN (v2 r) (v3 a) h n.toNat)), .b8 16 zeros, .int .i64 0]) []) := by
  refine HCall.of_lens rfl rfl fun hl => ?_
  have hh : h.length = 16 := hl (.agg _) (List.mem_cons_self ..) (.b8 16 h) (by simp)
  clear hl
  obtain ⟨m, rfl⟩ : ∃ m : Nat, n = m := ⟨n.toNat, by omega⟩
  refine HCall.of_walk (R := RS) (T := P2) (fun _ _ => .unroll 17) 5 rfl rfl ?_
  rw [soak_eq]
  intro x0 x1 x2 x3 x4 x5 x6 x7 x8 x9 x10
  have l0 : x0.length = 8 := by show (List.take 8 h).length = 8; rw [List.length_take]; omega
  have l1 : x1.length = 8 := by show (List.drop 8 h).length = 8; rw [List.length_drop]; omega
  have hp := part_lt h (n := m) (by omega)
  have hp16 := part_lt h (n := 16) (by omega)
  have e2 : x2 = ((m / 8 : Nat) : Int) := by
    show wr .i64 (Int.tdiv (m : Int) 8) = _
    rw [show Int.tdiv (m : Int) 8 = ((m / 8 : Nat) : Int) from rfl, wr_of (by omega) (by omega)]
  have e3 : x3 = ((8 * (m % 8) : Nat) : Int) := by
    show wr .i64 (8 * (Int.tmod (m : Int) 8)) = _
    rw [show Int.tmod (m : Int) 8 = ((m % 8 : Nat) : Int) from rfl, wr_of (by omega) (by omega)]
    omega
  have eq1 : x4 = rowsF h := rfl
  have e8 : x8 = true := ltQ_of hr
  have hq : q = 1361129467683753853853498429727072845819 := rfl
  rw [l0, l1]
  clear_value x2 x3
  subst e2 e3
  rw [cnd_eq, cnd_eq]
  refine ⟨rfl, rfl, ?_⟩
  rcases Nat.lt_or_ge m 16 with hm | hm
  · rw [ltI_of (by omega)]
    have e6 : x6 = v3 a + Pol.part h m := by
      rw [part_eq]; unfold partF
      rw [if_pos hm]
      show v3 (w3 (v3 a + v3 _)) = _
      rw [v3_w3']
      · rfl
      · have : v3 (List.set x5 (ofs 0 ((m / 8 : Nat) : Int)) (List.getD x5 (ofs 0 ((m / 8 : Nat) : Int)) 0 ||| shl64 1 (Int.toNat ((8 * (m % 8) : Nat) : Int)))) = Pol.part h m := by
          rw [part_eq]; unfold partF
          rw [if_pos hm]; rfl
        rw [this]
        omega
    clear_value x6
    subst e6
    have e9 : ltQ (v3 a + Pol.part h m) x7 = true := ltQ_of (show v3 a + Pol.part h m < 2722258935367507707706996859454145691648 by omega)
    rw [e9, e8, inB_of (by omega) (by omega), nnB_iff.2 (by omega)]
    refine ⟨?_, rfl⟩
    rfl
  · have hm : m = 16 := by omega
    subst hm
    rw [ltI_no (by omega)]
    have e6 : x10 = v3 a + Pol.part h 16 := by
      rw [part_eq]; unfold partF
      rw [if_neg (by omega)]
      show v3 (w3 (v3 a + v3 _)) = _
      rw [v3_w3']
      · rfl
      · have : v3 x4 = Pol.part h 16 := by
          rw [part_eq]; unfold partF
          rw [if_neg (by omega)]
          rfl
        rw [this]
        omega
    clear_value x10
    subst e6
    have e9 : ltQ (v3 a + Pol.part h 16) x7 = true := ltQ_of (show v3 a + Pol.part h 16 < 2722258935367507707706996859454145691648 by omega)
    rw [e9, e8]
    refine ⟨?_, rfl⟩
    rfl

noncomputable def rOf (k : List UInt8) : List UInt64 := List.set (List.set [0, 0] 0 (halfS (List.take 8 k) &&& 1152921487695413247)) 1 (halfS (List.take 8 (List.drop 8 k)) &&& 1152921487695413244)
noncomputable def padOf (k : List UInt8) : List UInt64 := List.set (List.set [0, 0] 0 (halfS (List.take 8 (List.drop 16 k)))) 1 (halfS (List.drop 24 k))

theorem w3_zero : w3 0 = [0, 0, 0] := by rw [w3_eq]; rfl

theorem begin_c (k : List UInt8) : HCall Try.E 26 [.b8 32 k] (.ret (.agg [.w64 2 (rOf k), .w64 2 (padOf k), .w64 3 (w3 0), .b8 16 zeros, .int .i64 0]) []) := by
  refine HCall.of_len rfl rfl fun hl => ?_
  have hk : k.length = 32 := hl _ (List.mem_cons_self ..)
  refine HCall.of_walk (R := RS) (T := P2) (fun _ _ => .unroll 17) 5 rfl rfl ?_
  rw [begin_eq, w3_zero]
  dsimp only
  simp only [List.length_take, List.length_drop, hk]
  exact ⟨rfl, rfl⟩

theorem chk_of {r a : List UInt64} {h : List UInt8} {n : Int} (o : okP r a h n) (E O : Prop) (hO : O) :
  (let x0 : Int := (((UInt64.toNat (List.getD a 2 0)) : Nat) : Int)
 ite2 ((((UInt64.toNat ((List.getD r 0 0) &&& 17293822586014138368)) : Nat) : Int) != 0)
 E
 (ite2 (cond Bool.false Bool.true ((((UInt64.toNat ((List.getD r 1 0) &&& 17293822586014138371)) : Nat) : Int) != 0))
 E
 (ite2 (cond Bool.false Bool.true (ltI 3 x0))
 E
 (ite2 (x0 == 3)
 (ite2 (cond Bool.true ((((UInt64.toNat (List.getD a 1 0)) : Nat) : Int) == 18446744073709551615) Bool.false)
 (ite2 (cond Bool.false Bool.true (cond Bool.true (Bool.not (ltI (((UInt64.toNat (List.getD a 0 0)) : Nat) : Int) 18446744073709551611)) Bool.false))
 E
 O)
 O)
 O)))) := by
  intro x0
  obtain ⟨o1, o2, o3, _⟩ := o
  rw [v3_eq] at o3
  unfold v3F q at o3
  have hA : ltI 3 x0 = false := ltI_no (show ((List.getD a 2 0).toNat : Int) ≤ 3 by omega)
  rw [o1, o2, hA]
  show ite2 (x0 == 3) _ O
  rw [ite2_eq]
  refine ⟨fun h3 => ?_, fun _ => hO⟩
  rw [ite2_eq]
  refine ⟨fun h4 => ?_, fun _ => hO⟩
  have h3 : (((List.getD a 2 0).toNat : Nat) : Int) = 3 := eq_of_beq h3
  have h4 : (((List.getD a 1 0).toNat : Nat) : Int) = 18446744073709551615 := eq_of_beq h4
  rw [ltI_of (show (((List.getD a 0 0).toNat : Nat) : Int) < 18446744073709551611 by omega)]
  exact hO

theorem check_c (r p a : List UInt64) (h : List UInt8) (n : Int) (o : okP r a h n) : HCall Try.E 30 [.agg [.w64 2 r, .w64 2 p, .w64 3 a, .b8 16 h, .int .i64 n]] (.ret (.int .i64 0) []) := by
  refine HCall.of_lens rfl rfl fun hl => ?_
  have hh : h.length = 16 := hl (.agg _) (List.mem_cons_self ..) (.b8 16 h) (by simp)
  clear hl
  have h0 := o.2.2.2.1
  have h1 := o.2.2.2.2.1
  have z := o.2.2.2.2.2
  have he := eta16 hh
  obtain ⟨m, rfl⟩ : ∃ m : Nat, n = m := ⟨n.toNat, by omega⟩
  have z : ∀ i, m ≤ i → h.getD i 0 = 0 := fun i hi => z i (by simpa using hi)
  have hm : m < 16 := by omega
  clear h0 h1 hh
  match m, hm with
  | 0, _ =>
    rw [z 0 (by decide), z 1 (by decide), z 2 (by decide), z 3 (by decide), z 4 (by decide), z 5 (by decide), z 6 (by decide), z 7 (by decide), z 8 (by decide), z 9 (by decide), z 10 (by decide), z 11 (by decide), z 12 (by decide), z 13 (by decide), z 14 (by decide), z 15 (by decide)] at he
    generalize o' : o = oo; clear o'
    rw [he]
    refine HCall.of_walk (R := RS) (T := P2) (fun _ _ => .unroll 17) 5 rfl rfl ?_
    have e := check0_eq r p a 
    exact (e _).symm ▸ chk_of oo _ _ ⟨rfl, rfl⟩
  | 1, _ =>
    rw [z 1 (by decide), z 2 (by decide), z 3 (by decide), z 4 (by decide), z 5 (by decide), z 6 (by decide), z 7 (by decide), z 8 (by decide), z 9 (by decide), z 10 (by decide), z 11 (by decide), z 12 (by decide), z 13 (by decide), z 14 (by decide), z 15 (by decide)] at he
    generalize o' : o = oo; clear o'
    rw [he]
    refine HCall.of_walk (R := RS) (T := P2) (fun _ _ => .unroll 17) 5 rfl rfl ?_
    have e := check1_eq r p a (h.getD 0 0)
    exact (e _).symm ▸ chk_of oo _ _ ⟨rfl, rfl⟩
  | 2, _ =>
    rw [z 2 (by decide), z 3 (by decide), z 4 (by decide), z 5 (by decide), z 6 (by decide), z 7 (by decide), z 8 (by decide), z 9 (by decide), z 10 (by decide), z 11 (by decide), z 12 (by decide), z 13 (by decide), z 14 (by decide), z 15 (by decide)] at he
    generalize o' : o = oo; clear o'
    rw [he]
    refine HCall.of_walk (R := RS) (T := P2) (fun _ _ => .unroll 17) 5 rfl rfl ?_
    have e := check2_eq r p a (h.getD 0 0) (h.getD 1 0)
    exact (e _).symm ▸ chk_of oo _ _ ⟨rfl, rfl⟩
  | 3, _ =>
    rw [z 3 (by decide), z 4 (by decide), z 5 (by decide), z 6 (by decide), z 7 (by decide), z 8 (by decide), z 9 (by decide), z 10 (by decide), z 11 (by decide), z 12 (by decide), z 13 (by decide), z 14 (by decide), z 15 (by decide)] at he
    generalize o' : o = oo; clear o'
    rw [he]
    refine HCall.of_walk (R := RS) (T := P2) (fun _ _ => .unroll 17) 5 rfl rfl ?_
    have e := check3_eq r p a (h.getD 0 0) (h.getD 1 0) (h.getD 2 0)
    exact (e _).symm ▸ chk_of oo _ _ ⟨rfl, rfl⟩
  | 4, _ =>
    rw [z 4 (by decide), z 5 (by decide), z 6 (by decide), z 7 (by decide), z 8 (by decide), z 9 (by decide), z 10 (by decide), z 11 (by decide), z 12 (by decide), z 13 (by decide), z 14 (by decide), z 15 (by decide)] at he
    generalize o' : o = oo; clear o'
    rw [he]
    refine HCall.of_walk (R := RS) (T := P2) (fun _ _ => .unroll 17) 5 rfl rfl ?_
    have e := check4_eq r p a (h.getD 0 0) (h.getD 1 0) (h.getD 2 0) (h.getD 3 0)
    exact (e _).symm ▸ chk_of oo _ _ ⟨rfl, rfl⟩
  | 5, _ =>
    rw [z 5 (by decide), z 6 (by decide), z 7 (by decide), z 8 (by decide), z 9 (by decide), z 10 (by decide), z 11 (by decide), z 12 (by decide), z 13 (by decide), z 14 (by decide), z 15 (by decide)] at he
    generalize o' : o = oo; clear o'
    rw [he]
    refine HCall.of_walk (R := RS) (T := P2) (fun _ _ => .unroll 17) 5 rfl rfl ?_
    have e := check5_eq r p a (h.getD 0 0) (h.getD 1 0) (h.getD 2 0) (h.getD 3 0) (h.getD 4 0)
    exact (e _).symm ▸ chk_of oo _ _ ⟨rfl, rfl⟩
  | 6, _ =>
    rw [z 6 (by decide), z 7 (by decide), z 8 (by decide), z 9 (by decide), z 10 (by decide), z 11 (by decide), z 12 (by decide), z 13 (by decide), z 14 (by decide), z 15 (by decide)] at he
    generalize o' : o = oo; clear o'
    rw [he]
    refine HCall.of_walk (R := RS) (T := P2) (fun _ _ => .unroll 17) 5 rfl rfl ?_
    have e := check6_eq r p a (h.getD 0 0) (h.getD 1 0) (h.getD 2 0) (h.getD 3 0) (h.getD 4 0) (h.getD 5 0)
    exact (e _).symm ▸ chk_of oo _ _ ⟨rfl, rfl⟩
  | 7, _ =>
    rw [z 7 (by decide), z 8 (by decide), z 9 (by decide), z 10 (by decide), z 11 (by decide), z 12 (by decide), z 13 (by decide), z 14 (by decide), z 15 (by decide)] at he
    generalize o' : o = oo; clear o'
    rw [he]
    refine HCall.of_walk (R := RS) (T := P2) (fun _ _ => .unroll 17) 5 rfl rfl ?_
    have e := check7_eq r p a (h.getD 0 0) (h.getD 1 0) (h.getD 2 0) (h.getD 3 0) (h.getD 4 0) (h.getD 5 0) (h.getD 6 0)
    exact (e _).symm ▸ chk_of oo _ _ ⟨rfl, rfl⟩
  | 8, _ =>
    rw [z 8 (by decide), z 9 (by decide), z 10 (by decide), z 11 (by decide), z 12 (by decide), z 13 (by decide), z 14 (by decide), z 15 (by decide)] at he
    generalize o' : o = oo; clear o'
    rw [he]
    refine HCall.of_walk (R := RS) (T := P2) (fun _ _ => .unroll 17) 5 rfl rfl ?_
    have e := check8_eq r p a (h.getD 0 0) (h.getD 1 0) (h.getD 2 0) (h.getD 3 0) (h.getD 4 0) (h.getD 5 0) (h.getD 6 0) (h.getD 7 0)
    exact (e _).symm ▸ chk_of oo _ _ ⟨rfl, rfl⟩
  | 9, _ =>
    rw [z 9 (by decide), z 10 (by decide), z 11 (by decide), z 12 (by decide), z 13 (by decide), z 14 (by decide), z 15 (by decide)] at he
    generalize o' : o = oo; clear o'
    rw [he]
    refine HCall.of_walk (R := RS) (T := P2) (fun _ _ => .unroll 17) 5 rfl rfl ?_
    have e := check9_eq r p a (h.getD 0 0) (h.getD 1 0) (h.getD 2 0) (h.getD 3 0) (h.getD 4 0) (h.getD 5 0) (h.getD 6 0) (h.getD 7 0) (h.getD 8 0)
    exact (e _).symm ▸ chk_of oo _ _ ⟨rfl, rfl⟩
  | 10, _ =>
    rw [z 10 (by decide), z 11 (by decide), z 12 (by decide), z 13 (by decide), z 14 (by decide), z 15 (by decide)] at he
    generalize o' : o = oo; clear o'
    rw [he]
    refine HCall.of_walk (R := RS) (T := P2) (fun _ _ => .unroll 17) 5 rfl rfl ?_
    have e := check10_eq r p a (h.getD 0 0) (h.getD 1 0) (h.getD 2 0) (h.getD 3 0) (h.getD 4 0) (h.getD 5 0) (h.getD 6 0) (h.getD 7 0) (h.getD 8 0) (h.getD 9 0)
    exact (e _).symm ▸ chk_of oo _ _ ⟨rfl, rfl⟩
  | 11, _ =>
    rw [z 11 (by decide), z 12 (by decide), z 13 (by decide), z 14 (by decide), z 15 (by decide)] at he
    generalize o' : o = oo; clear o'
    rw [he]
    refine HCall.of_walk (R := RS) (T := P2) (fun _ _ => .unroll 17) 5 rfl rfl ?_
    have e := check11_eq r p a (h.getD 0 0) (h.getD 1 0) (h.getD 2 0) (h.getD 3 0) (h.getD 4 0) (h.getD 5 0) (h.getD 6 0) (h.getD 7 0) (h.getD 8 0) (h.getD 9 0) (h.getD 10 0)
    exact (e _).symm ▸ chk_of oo _ _ ⟨rfl, rfl⟩
  | 12, _ =>
    rw [z 12 (by decide), z 13 (by decide), z 14 (by decide), z 15 (by decide)] at he
    generalize o' : o = oo; clear o'
    rw [he]
    refine HCall.of_walk (R := RS) (T := P2) (fun _ _ => .unroll 17) 5 rfl rfl ?_
    have e := check12_eq r p a (h.getD 0 0) (h.getD 1 0) (h.getD 2 0) (h.getD 3 0) (h.getD 4 0) (h.getD 5 0) (h.getD 6 0) (h.getD 7 0) (h.getD 8 0) (h.getD 9 0) (h.getD 10 0) (h.getD 11 0)
    exact (e _).symm ▸ chk_of oo _ _ ⟨rfl, rfl⟩
  | 13, _ =>
    rw [z 13 (by decide), z 14 (by decide), z 15 (by decide)] at he
    generalize o' : o = oo; clear o'
    rw [he]
    refine HCall.of_walk (R := RS) (T := P2) (fun _ _ => .unroll 17) 5 rfl rfl ?_
    have e := check13_eq r p a (h.getD 0 0) (h.getD 1 0) (h.getD 2 0) (h.getD 3 0) (h.getD 4 0) (h.getD 5 0) (h.getD 6 0) (h.getD 7 0) (h.getD 8 0) (h.getD 9 0) (h.getD 10 0) (h.getD 11 0) (h.getD 12 0)
    exact (e _).symm ▸ chk_of oo _ _ ⟨rfl, rfl⟩
  | 14, _ =>
    rw [z 14 (by decide), z 15 (by decide)] at he
    generalize o' : o = oo; clear o'
    rw [he]
    refine HCall.of_walk (R := RS) (T := P2) (fun _ _ => .unroll 17) 5 rfl rfl ?_
    have e := check14_eq r p a (h.getD 0 0) (h.getD 1 0) (h.getD 2 0) (h.getD 3 0) (h.getD 4 0) (h.getD 5 0) (h.getD 6 0) (h.getD 7 0) (h.getD 8 0) (h.getD 9 0) (h.getD 10 0) (h.getD 11 0) (h.getD 12 0) (h.getD 13 0)
    exact (e _).symm ▸ chk_of oo _ _ ⟨rfl, rfl⟩
  | 15, _ =>
    rw [z 15 (by decide)] at he
    generalize o' : o = oo; clear o'
    rw [he]
    refine HCall.of_walk (R := RS) (T := P2) (fun _ _ => .unroll 17) 5 rfl rfl ?_
    have e := check15_eq r p a (h.getD 0 0) (h.getD 1 0) (h.getD 2 0) (h.getD 3 0) (h.getD 4 0) (h.getD 5 0) (h.getD 6 0) (h.getD 7 0) (h.getD 8 0) (h.getD 9 0) (h.getD 10 0) (h.getD 11 0) (h.getD 12 0) (h.getD 13 0) (h.getD 14 0)
    exact (e _).symm ▸ chk_of oo _ _ ⟨rfl, rfl⟩

theorem check16_c (r p a : List UInt64) (h : List UInt8) : HCall Try.E 30 [.agg [.w64 2 r, .w64 2 p, .w64 3 a, .b8 16 h, .int .i64 16]] (.ret (.int .i64 9) []) := by
  refine HCall.of_walk (R := RS) (T := P2) (fun _ _ => .unroll 17) 5 rfl rfl ?_
  rw [check16_eq]
  simp only [ite2_eq, has_ret, and_self, implies_true]

noncomputable def P3 : Ctr Try.E := ((P2.add 31 (fun
    | [.agg [.w64 2 r, .w64 2 p, .w64 3 a, .b8 16 h, .int .i64 n]] => some (ltQ (v2 r) 21267647932558653966460912964485513216 && (ltQ (v3 a) q && inB n 17), .ret (.agg [.w64 2 r, .w64 2 p, .w64 3 (w3 (soakN (v2 r) (v3 a) h n.toNat)), .b8 16 zeros, .int .i64 0]) [])
    | _ => none) (by
      intro args pre out h hp
      split at h
      · simp only [Option.some.injEq, Prod.mk.injEq] at h
        obtain ⟨rfl, rfl⟩ := h
        simp only [Bool.and_eq_true, ltQ_iff, inB_iff] at hp
        exact soak_c _ _ _ _ _ hp.1 hp.2.1 (by omega) (by omega)
      · simp at h)).add 26 (fun
    | [.b8 32 k] => some (true, .ret (.agg [.w64 2 (rOf k), .w64 2 (padOf k), .w64 3 (w3 0), .b8 16 zeros, .int .i64 0]) [])
    | _ => none) (by
      intro args pre out h hp
      split at h
      · simp only [Option.some.injEq, Prod.mk.injEq] at h
        obtain ⟨rfl, rfl⟩ := h
        exact begin_c _
      · simp at h)).add 30 (fun
    | [.agg [.w64 2 r, .w64 2 p, .w64 3 a, .b8 16 h, .int .i64 n]] => some (n == 16 || okS r a h n, .alt (n == 16) (.ret (.int .i64 9) []) (.ret (.int .i64 0) []))
    | _ => none) (by
      intro args pre out h hp
      split at h
      · simp only [Option.some.injEq, Prod.mk.injEq] at h
        obtain ⟨rfl, rfl⟩ := h
        simp only [Bool.or_eq_true, okS_iff, beq_iff_eq] at hp
        rename_i r p a h n
        by_cases e : n = 16
        · subst e
          exact HCall.alt_l rfl rfl (check16_c _ _ _ _)
        · exact HCall.alt_r (by simpa using e) rfl (check_c _ _ _ _ _ (hp.resolve_left e))
      · simp at h)
end Go.Proofs.Ytdipeoacmapehaa

set_option linter.unusedSimpArgs false
set_option linter.unusedVariables false
namespace Go.Proofs.Ytdipeoacmapehaa
open Go Go.V Go.Fld Go.Pol
/-- Bytes put to a sum. -/
noncomputable def addS : Nat → PS → List UInt8 → PS := (sealed addP).val
theorem addS_eq (r : Nat) (s : PS) (b : List UInt8) : addS r s b = addP r s b := by rw [addS, (sealed addP).property]
noncomputable def psB (r p : List UInt64) (s : PS) : AV := .agg [.w64 2 r, .w64 2 p, .w64 3 (w3 s.a), .b8 16 s.h, .int .i64 ((s.n : Nat) : Int)]
noncomputable def addL (r p : List UInt64) (s : PS) (b : List UInt8) : LPlan := .rel [2, 4, 15, 16, 17] [16] Nat Inv.upTo Inv.up (fun i => [(17, .int .i64 (i : Nat))])
  (fun i => [(0, .blk [.w64 2 r, .w64 2 p, .w64 3 (w3 (addS (v2 r) s (b.take i)).a), .b8 16 (addS (v2 r) s (b.take i)).h, .int .i64 (((addS (v2 r) s (b.take i)).n : Nat) : Int)] [])])
end Go.Proofs.Ytdipeoacmapehaa

set_option linter.unusedSimpArgs false
set_option linter.unusedVariables false
namespace Go.Proofs.Ytdipeoacmapehaa
open Go Go.V Go.Fld Go.Pol
set_option maxHeartbeats 0
set_option maxRecDepth 100000

theorem add_eq (r p : List UInt64) (s : PS) (full : Bool) (b : List UInt8) (K : AV → Heap → Prop) : walk Try.E RS P3.C (fun _ _ => addL r p s b) 5 25 [.agg [.w64 2 r, .w64 2 p, .w64 3 (w3 s.a), .b8 16 s.h, .int .i64 ((s.n : Nat) : Int)], .vec8 full b] K = (
 let x0 : Int := (((Pol.PS.n s) : Nat) : Int)
 let x1 : List UInt64 := (Pol.w3 (Pol.PS.a s))
 let x2 : Nat := (List.length b)
 let x3 : Int := ((x2 : Nat) : Int)
 cnd ((x0 == 16) || (Pol.okS r x1 (Pol.PS.h s) x0))
 (ite2 (x0 == 16)
 -- THEN
 (K (AV.tup [AV.agg [AV.w64 2 [0, 0], AV.w64 2 [0, 0], AV.w64 3 [0, 0, 0], AV.b8 16 [0, 0, 0, 0, 0, 0, 0, 0, 0, 0, 0, 0, 0, 0, 0, 0], AV.int IntKind.i64 0], AV.int IntKind.i64 9]) [])
 -- ELSE
 ((∃ w0 : Nat, (Inv.upTo [AV.int IntKind.i64 x3] w0) ∧ ((AV.vec8 full b = AV.vec8 full b) ∧ ((AV.int IntKind.i64 x3 = AV.int IntKind.i64 x3) ∧ ((AV.int IntKind.i64 0 = AV.int IntKind.i64 ((w0 : Nat) : Int)) ∧ ((AV.w64 2 r = AV.w64 2 r) ∧ ((AV.w64 2 p = AV.w64 2 p) ∧ ((AV.w64 3 x1 = AV.w64 3 (Pol.w3 (Pol.PS.a (addS (Pol.v2 r) s (List.take w0 b))))) ∧ ((AV.b8 16 (Pol.PS.h s) = AV.b8 16 (Pol.PS.h (addS (Pol.v2 r) s (List.take w0 b)))) ∧ ((AV.int IntKind.i64 x0 = AV.int IntKind.i64 (((Pol.PS.n (addS (Pol.v2 r) s (List.take w0 b))) : Nat) : Int)) ∧ ((AV.w64 2 [0, 0] = AV.w64 2 [0, 0]) ∧ ((AV.w64 2 [0, 0] = AV.w64 2 [0, 0]) ∧ ((AV.w64 3 [0, 0, 0] = AV.w64 3 [0, 0, 0]) ∧ ((AV.b8 16 [0, 0, 0, 0, 0, 0, 0, 0, 0, 0, 0, 0, 0, 0, 0, 0] = AV.b8 16 [0, 0, 0, 0, 0, 0, 0, 0, 0, 0, 0, 0, 0, 0, 0, 0]) ∧ ((AV.int IntKind.i64 0 = AV.int IntKind.i64 0) ∧ True)))))))))))))) ∧ (∀ w1 : Nat, (Inv.upTo [AV.int IntKind.i64 x3] w1 → ite2 (ltI ((w1 : Nat) : Int) x3)
 -- THEN
 (cnd ((inB ((w1 : Nat) : Int) x2) && Bool.true)
 (cnd (leB (0 + x2) x2)
 (cnd (inB (((Pol.PS.n (addS (Pol.v2 r) s (List.take w1 b))) : Nat) : Int) 16)
 (ite2 ((wr IntKind.i64 ((((Pol.PS.n (addS (Pol.v2 r) s (List.take w1 b))) : Nat) : Int) + 1)) == 16)
 -- THEN
 (cnd ((Pol.ltQ (Pol.v2 r) 21267647932558653966460912964485513216) && ((Pol.ltQ (Pol.v3 (Pol.w3 (Pol.PS.a (addS (Pol.v2 r) s (List.take w1 b))))) 1361129467683753853853498429727072845819) && (inB (wr IntKind.i64 ((((Pol.PS.n (addS (Pol.v2 r) s (List.take w1 b))) : Nat) : Int) + 1)) 17)))
 ((∃ w2 : Nat, (((Inv.up w2) < (Inv.up w1)) ∧ (Inv.upTo [AV.int IntKind.i64 x3] w2)) ∧ ((AV.vec8 full b = AV.vec8 full b) ∧ ((AV.int IntKind.i64 x3 = AV.int IntKind.i64 x3) ∧ ((AV.int IntKind.i64 (wr IntKind.i64 (((w1 : Nat) : Int) + 1)) = AV.int IntKind.i64 ((w2 : Nat) : Int)) ∧ ((AV.w64 2 r = AV.w64 2 r) ∧ ((AV.w64 2 p = AV.w64 2 p) ∧ ((AV.w64 3 (Pol.w3 (Pol.soakN (Pol.v2 r) (Pol.v3 (Pol.w3 (Pol.PS.a (addS (Pol.v2 r) s (List.take w1 b))))) (List.set (Pol.PS.h (addS (Pol.v2 r) s (List.take w1 b))) (Int.toNat (((Pol.PS.n (addS (Pol.v2 r) s (List.take w1 b))) : Nat) : Int)) (List.getD b (ofs 0 ((w1 : Nat) : Int)) 0)) (Int.toNat (wr IntKind.i64 ((((Pol.PS.n (addS (Pol.v2 r) s (List.take w1 b))) : Nat) : Int) + 1))))) = AV.w64 3 (Pol.w3 (Pol.PS.a (addS (Pol.v2 r) s (List.take w2 b))))) ∧ ((AV.b8 16 Pol.zeros = AV.b8 16 (Pol.PS.h (addS (Pol.v2 r) s (List.take w2 b)))) ∧ ((AV.int IntKind.i64 0 = AV.int IntKind.i64 (((Pol.PS.n (addS (Pol.v2 r) s (List.take w2 b))) : Nat) : Int)) ∧ ((AV.w64 2 [0, 0] = AV.w64 2 [0, 0]) ∧ ((AV.w64 2 [0, 0] = AV.w64 2 [0, 0]) ∧ ((AV.w64 3 [0, 0, 0] = AV.w64 3 [0, 0, 0]) ∧ ((AV.b8 16 [0, 0, 0, 0, 0, 0, 0, 0, 0, 0, 0, 0, 0, 0, 0, 0] = AV.b8 16 [0, 0, 0, 0, 0, 0, 0, 0, 0, 0, 0, 0, 0, 0, 0, 0]) ∧ ((AV.int IntKind.i64 0 = AV.int IntKind.i64 0) ∧ True))))))))))))))))
 -- ELSE
 ((∃ w3 : Nat, (((Inv.up w3) < (Inv.up w1)) ∧ (Inv.upTo [AV.int IntKind.i64 x3] w3)) ∧ ((AV.vec8 full b = AV.vec8 full b) ∧ ((AV.int IntKind.i64 x3 = AV.int IntKind.i64 x3) ∧ ((AV.int IntKind.i64 (wr IntKind.i64 (((w1 : Nat) : Int) + 1)) = AV.int IntKind.i64 ((w3 : Nat) : Int)) ∧ ((AV.w64 2 r = AV.w64 2 r) ∧ ((AV.w64 2 p = AV.w64 2 p) ∧ ((AV.w64 3 (Pol.w3 (Pol.PS.a (addS (Pol.v2 r) s (List.take w1 b)))) = AV.w64 3 (Pol.w3 (Pol.PS.a (addS (Pol.v2 r) s (List.take w3 b))))) ∧ ((AV.b8 16 (List.set (Pol.PS.h (addS (Pol.v2 r) s (List.take w1 b))) (Int.toNat (((Pol.PS.n (addS (Pol.v2 r) s (List.take w1 b))) : Nat) : Int)) (List.getD b (ofs 0 ((w1 : Nat) : Int)) 0)) = AV.b8 16 (Pol.PS.h (addS (Pol.v2 r) s (List.take w3 b)))) ∧ ((AV.int IntKind.i64 (wr IntKind.i64 ((((Pol.PS.n (addS (Pol.v2 r) s (List.take w1 b))) : Nat) : Int) + 1)) = AV.int IntKind.i64 (((Pol.PS.n (addS (Pol.v2 r) s (List.take w3 b))) : Nat) : Int)) ∧ ((AV.w64 2 [0, 0] = AV.w64 2 [0, 0]) ∧ ((AV.w64 2 [0, 0] = AV.w64 2 [0, 0]) ∧ ((AV.w64 3 [0, 0, 0] = AV.w64 3 [0, 0, 0]) ∧ ((AV.b8 16 [0, 0, 0, 0, 0, 0, 0, 0, 0, 0, 0, 0, 0, 0, 0, 0] = AV.b8 16 [0, 0, 0, 0, 0, 0, 0, 0, 0, 0, 0, 0, 0, 0, 0, 0]) ∧ ((AV.int IntKind.i64 0 = AV.int IntKind.i64 0) ∧ True)))))))))))))))))))
 -- ELSE
 (K (AV.tup [AV.agg [AV.w64 2 r, AV.w64 2 p, AV.w64 3 (Pol.w3 (Pol.PS.a (addS (Pol.v2 r) s (List.take w1 b)))), AV.b8 16 (Pol.PS.h (addS (Pol.v2 r) s (List.take w1 b))), AV.int IntKind.i64 (((Pol.PS.n (addS (Pol.v2 r) s (List.take w1 b))) : Nat) : Int)], AV.int IntKind.i64 0]) [])))))) := by kernel_rfl

theorem theend_eq (r p : List UInt64) (s : PS) (K : AV → Heap → Prop) : walk Try.E RS P3.C (fun _ _ => .unroll 17) 5 27 [.agg [.w64 2 r, .w64 2 p, .w64 3 (w3 s.a), .b8 16 s.h, .int .i64 ((s.n : Nat) : Int)]] K = (
 let x0 : Int := (((Pol.PS.n s) : Nat) : Int)
 let x1 : List UInt64 := (Pol.w3 (Pol.PS.a s))
 let x2 : List UInt8 := [0, 0, 0, 0, 0, 0, 0, 0, 0, 0, 0, 0, 0, 0, 0, 0]
 let x3 : List UInt64 := (Pol.w3 (Pol.soakN (Pol.v2 r) (Pol.v3 x1) (Pol.PS.h s) (Int.toNat x0)))
 let x4 : UInt64 := (List.getD x3 0 0)
 let x5 : UInt64 := (List.getD p 0 0)
 let x6 : UInt64 := (carry64 x4 x5 0)
 let x7 : UInt64 := ((x4 + x5) + 0)
 let x8 : UInt64 := (List.getD p 1 0)
 let x9 : UInt64 := (((List.getD x3 1 0) + x8) + x6)
 let x10 : UInt64 := (List.getD x1 0 0)
 let x11 : UInt64 := (carry64 x10 x5 0)
 let x12 : UInt64 := ((x10 + x5) + 0)
 let x13 : UInt64 := (((List.getD x1 1 0) + x8) + x11)
 cnd ((x0 == 16) || (Pol.okS r x1 (Pol.PS.h s) x0))
 (ite2 (x0 == 16)
 -- THEN
 (K (AV.tup [AV.b8 16 x2, AV.int IntKind.i64 9]) [])
 -- ELSE
 (ite2 (ltI 0 x0)
 -- THEN
 (cnd ((Pol.ltQ (Pol.v2 r) 21267647932558653966460912964485513216) && ((Pol.ltQ (Pol.v3 x1) 1361129467683753853853498429727072845819) && (inB x0 17)))
 (cnd (bit1 x6)
 (K (AV.tup [AV.b8 16 (List.set (List.set (List.set (List.set (List.set (List.set (List.set (List.set (List.set (List.set (List.set (List.set (List.set (List.set (List.set (List.set x2 0 (UInt64.toUInt8 (shr64 x7 0))) 8 (UInt64.toUInt8 (shr64 x9 0))) 1 (UInt64.toUInt8 (shr64 x7 8))) 9 (UInt64.toUInt8 (shr64 x9 8))) 2 (UInt64.toUInt8 (shr64 x7 16))) 10 (UInt64.toUInt8 (shr64 x9 16))) 3 (UInt64.toUInt8 (shr64 x7 24))) 11 (UInt64.toUInt8 (shr64 x9 24))) 4 (UInt64.toUInt8 (shr64 x7 32))) 12 (UInt64.toUInt8 (shr64 x9 32))) 5 (UInt64.toUInt8 (shr64 x7 40))) 13 (UInt64.toUInt8 (shr64 x9 40))) 6 (UInt64.toUInt8 (shr64 x7 48))) 14 (UInt64.toUInt8 (shr64 x9 48))) 7 (UInt64.toUInt8 (shr64 x7 56))) 15 (UInt64.toUInt8 (shr64 x9 56))), AV.int IntKind.i64 0]) [])))
 -- ELSE
 (cnd (bit1 x11)
 (K (AV.tup [AV.b8 16 (List.set (List.set (List.set (List.set (List.set (List.set (List.set (List.set (List.set (List.set (List.set (List.set (List.set (List.set (List.set (List.set x2 0 (UInt64.toUInt8 (shr64 x12 0))) 8 (UInt64.toUInt8 (shr64 x13 0))) 1 (UInt64.toUInt8 (shr64 x12 8))) 9 (UInt64.toUInt8 (shr64 x13 8))) 2 (UInt64.toUInt8 (shr64 x12 16))) 10 (UInt64.toUInt8 (shr64 x13 16))) 3 (UInt64.toUInt8 (shr64 x12 24))) 11 (UInt64.toUInt8 (shr64 x13 24))) 4 (UInt64.toUInt8 (shr64 x12 32))) 12 (UInt64.toUInt8 (shr64 x13 32))) 5 (UInt64.toUInt8 (shr64 x12 40))) 13 (UInt64.toUInt8 (shr64 x13 40))) 6 (UInt64.toUInt8 (shr64 x12 48))) 14 (UInt64.toUInt8 (shr64 x13 48))) 7 (UInt64.toUInt8 (shr64 x12 56))) 15 (UInt64.toUInt8 (shr64 x13 56))), AV.int IntKind.i64 0]) []))))) := by kernel_rfl

end Go.Proofs.Ytdipeoacmapehaa

set_option linter.unusedSimpArgs false
set_option linter.unusedVariables false
namespace Go.Proofs.Ytdipeoacmapehaa
open Go Go.V Go.Fld Go.Pol
set_option maxRecDepth 100000

theorem take_addS {r : Nat} {s : PS} {b : List UInt8} {i : Nat} (h : i < b.length) : addS r s (b.take (i + 1)) = stepP r (addS r s (b.take i)) (b.getD i 0) := by
  rw [addS_eq, addS_eq]
  have : b.take (i + 1) = b.take i ++ [b.getD i 0] := by
    rw [List.take_succ_eq_append_getElem h, List.getD_eq_getElem?_getD, List.getElem?_eq_getElem h]; rfl
  rw [this, addP_append]
  rfl
theorem addS_ok {r : Nat} {s : PS} (o : s.ok) (b : List UInt8) : (addS r s b).ok := by rw [addS_eq]; exact addP_ok o

theorem add_s (r p : List UInt64) (s : PS) (full : Bool) (b : List UInt8) (o : s.ok) (hb : b.length < 4611686018427387904) (hr : v2 r < 21267647932558653966460912964485513216) (ho : okS r (w3 s.a) s.h ((s.n : Nat) : Int) = true) :
    HCall Try.E 25 [.agg [.w64 2 r, .w64 2 p, .w64 3 (w3 s.a), .b8 16 s.h, .int .i64 ((s.n : Nat) : Int)], .vec8 full b]
      (.ret (.tup [.agg [.w64 2 r, .w64 2 p, .w64 3 (w3 (addS (v2 r) s b).a), .b8 16 (addS (v2 r) s b).h, .int .i64 (((addS (v2 r) s b).n : Nat) : Int)], .int .i64 0]) []) := by
  refine HCall.of_walk (R := RS) (T := P3) (fun _ _ => addL r p s b) 5 rfl rfl ?_
  rw [add_eq]
  have hn := o.n
  have e0 : (((s.n : Nat) : Int) == 16) = false := by rw [beq_eq_false_iff_ne]; omega
  dsimp only
  rw [e0, ho]
  simp only [Bool.false_or, cnd_true, ite2_false]
  refine ⟨⟨0, by rw [Inv.upTo_int]; omega, ?_⟩, ?_⟩
  · have e : addS (v2 r) s (b.take 0) = s := by rw [addS_eq]; rfl
    rw [e]
    simp only [true_and, and_true]
    rfl
  · intro i hi
    rw [Inv.upTo_int] at hi
    have os := addS_ok (r := v2 r) o (b.take i)
    have hsa := os.a; have hsn := os.n
    unfold q at hsa
    generalize hS : addS (v2 r) s (b.take i) = S at *
    rcases Nat.lt_or_ge i b.length with h | h
    · have hstep := take_addS (r := v2 r) (s := s) h
      rw [hS] at hstep
      rw [ltI_of (by omega), inB_of (by omega) (by omega), leB_of (by omega), inB_of (by omega) (by omega), wr_of (z := (i : Int) + 1) (by omega) (by omega), wr_of (z := ((S.n : Nat) : Int) + 1) (by omega) (by omega)]
      simp only [Bool.and_true, cnd_true, ite2_true]
      rw [show ofs 0 ((i : Nat) : Int) = i from rfl, Int.toNat_natCast, v3_w3' (by omega)]
      rw [ite2_eq]
      constructor
      · intro h15
        have h15 : ((S.n : Nat) : Int) + 1 = 16 := eq_of_beq h15
        have e15 : S.n = 15 := by omega
        rw [h15, ltQ_of hr, ltQ_of hsa]
        refine ⟨i + 1, ⟨Inv.up_lt (by omega), by rw [Inv.upTo_int]; omega⟩, ?_⟩
        rw [hstep]
        unfold stepP
        rw [if_pos e15]
        simp only [and_self, true_and, and_true]
        exact ⟨rfl, rfl, rfl⟩
      · intro h15
        have e15 : ¬ S.n = 15 := by
          intro e; rw [e] at h15; exact absurd h15 (by decide)
        refine ⟨i + 1, ⟨Inv.up_lt (by omega), by rw [Inv.upTo_int]; omega⟩, ?_⟩
        rw [hstep]
        unfold stepP
        rw [if_neg e15]
        simp only [and_self, true_and, and_true]
        exact ⟨rfl, rfl⟩
    · rw [ltI_no (by omega), ite2_false]
      rw [List.take_of_length_le h] at hS
      rw [hS]
      exact ⟨rfl, rfl⟩

theorem add_c (r p a : List UInt64) (h : List UInt8) (n : Int) (full : Bool) (b : List UInt8) (ok : okP r a h n) (hb : b.length < 4611686018427387904) :
    HCall Try.E 25 [.agg [.w64 2 r, .w64 2 p, .w64 3 a, .b8 16 h, .int .i64 n], .vec8 full b]
      (.ret (.tup [.agg [.w64 2 r, .w64 2 p, .w64 3 (w3 (addS (v2 r) ⟨v3 a, h, n.toNat⟩ b).a), .b8 16 (addS (v2 r) ⟨v3 a, h, n.toNat⟩ b).h, .int .i64 (((addS (v2 r) ⟨v3 a, h, n.toNat⟩ b).n : Nat) : Int)], .int .i64 0]) []) := by
  refine HCall.of_lens rfl rfl fun hl => ?_
  have hh : h.length = 16 := hl (.agg _) (List.mem_cons_self ..) (.b8 16 h) (by simp)
  have hr : r.length = 2 := hl (.agg _) (List.mem_cons_self ..) (.w64 2 r) (by simp)
  have ha : a.length = 3 := hl (.agg _) (List.mem_cons_self ..) (.w64 3 a) (by simp)
  have o : PS.ok ⟨v3 a, h, n.toNat⟩ := ⟨ok.2.2.1, hh, by have := ok.2.2.2.2.1; show n.toNat < 16; omega, ok.2.2.2.2.2⟩
  have h0 := ok.2.2.2.1
  have en : ((n.toNat : Nat) : Int) = n := by omega
  have := add_s r p ⟨v3 a, h, n.toNat⟩ full b o hb (ok.r2 hr) (by
    show okS r (w3 (v3 a)) h ((n.toNat : Nat) : Int) = true
    rw [w3_v3' ha, en]
    exact okS_iff.2 ok)
  dsimp only at this
  rw [w3_v3' ha, en] at this
  exact this

/-- The number at the end, and its bytes. -/
noncomputable def lastP (r : Nat) (s : PS) : Nat := if 0 < s.n then soakN r s.a s.h s.n else s.a
noncomputable def endF (acc : Nat) (p : List UInt64) : List UInt8 :=
  let x2 : List UInt8 := [0, 0, 0, 0, 0, 0, 0, 0, 0, 0, 0, 0, 0, 0, 0, 0]
  let x4 : UInt64 := (List.getD (w3 acc) 0 0)
  let x5 : UInt64 := (List.getD p 0 0)
  let x6 : UInt64 := (carry64 x4 x5 0)
  let x7 : UInt64 := ((x4 + x5) + 0)
  let x9 : UInt64 := (((List.getD (w3 acc) 1 0) + (List.getD p 1 0)) + x6)
  (List.set (List.set (List.set (List.set (List.set (List.set (List.set (List.set (List.set (List.set (List.set (List.set (List.set (List.set (List.set (List.set x2 0 (UInt64.toUInt8 (shr64 x7 0))) 8 (UInt64.toUInt8 (shr64 x9 0))) 1 (UInt64.toUInt8 (shr64 x7 8))) 9 (UInt64.toUInt8 (shr64 x9 8))) 2 (UInt64.toUInt8 (shr64 x7 16))) 10 (UInt64.toUInt8 (shr64 x9 16))) 3 (UInt64.toUInt8 (shr64 x7 24))) 11 (UInt64.toUInt8 (shr64 x9 24))) 4 (UInt64.toUInt8 (shr64 x7 32))) 12 (UInt64.toUInt8 (shr64 x9 32))) 5 (UInt64.toUInt8 (shr64 x7 40))) 13 (UInt64.toUInt8 (shr64 x9 40))) 6 (UInt64.toUInt8 (shr64 x7 48))) 14 (UInt64.toUInt8 (shr64 x9 48))) 7 (UInt64.toUInt8 (shr64 x7 56))) 15 (UInt64.toUInt8 (shr64 x9 56)))
noncomputable def endS : Nat → List UInt64 → List UInt8 := (sealed endF).val
theorem endS_eq (acc : Nat) (p : List UInt64) : endS acc p = endF acc p := by rw [endS, (sealed endF).property]

theorem end_s (r p : List UInt64) (s : PS) (o : s.ok) (hr : v2 r < 21267647932558653966460912964485513216) (ho : okS r (w3 s.a) s.h ((s.n : Nat) : Int) = true) :
    HCall Try.E 27 [.agg [.w64 2 r, .w64 2 p, .w64 3 (w3 s.a), .b8 16 s.h, .int .i64 ((s.n : Nat) : Int)]] (.ret (.tup [.b8 16 (endS (lastP (v2 r) s) p), .int .i64 0]) []) := by
  refine HCall.of_walk (R := RS) (T := P3) (fun _ _ => .unroll 17) 5 rfl rfl ?_
  rw [theend_eq]
  have hn := o.n
  have hsa := o.a
  unfold q at hsa
  have e0 : (((s.n : Nat) : Int) == 16) = false := by rw [beq_eq_false_iff_ne]; omega
  intro x0 x1 x2 x3 x4 x5 x6 x7 x8 x9 x10 x11 x12 x13
  have e0 : (x0 == 16) = false := e0
  have e1 : okS r x1 s.h x0 = true := ho
  have e2 : bit1 x6 = true := bit1_carry ..
  have e3 : bit1 x11 = true := bit1_carry ..
  have e4 : ltQ (v3 x1) 1361129467683753853853498429727072845819 = true := ltQ_of (by show v3 (w3 s.a) < _; rw [v3_w3' (by omega)]; exact hsa)
  have e5 : inB x0 17 = true := inB_of (show (0 : Int) ≤ ((s.n : Nat) : Int) by omega) (show ((s.n : Nat) : Int) < 17 by omega)
  rw [e0, e1, e2, e3, e4, e5, ltQ_of hr, endS_eq]
  unfold lastP
  rcases Nat.lt_or_ge 0 s.n with h | h
  · have e6 : ltI 0 x0 = true := ltI_of (show (0 : Int) < ((s.n : Nat) : Int) by omega)
    rw [e6, if_pos h]
    have e7 : x3 = w3 (soakN (v2 r) s.a s.h s.n) := by
      show w3 (soakN (v2 r) (v3 (w3 s.a)) s.h (Int.toNat ((s.n : Nat) : Int))) = _
      rw [v3_w3' (by omega), Int.toNat_natCast]
    refine ⟨?_, rfl⟩
    show AV.tup [AV.b8 16 _, AV.int IntKind.i64 0] = _
    unfold endF
    rw [← e7]
  · have e6 : ltI 0 x0 = false := ltI_no (show ((s.n : Nat) : Int) ≤ 0 by omega)
    rw [e6, if_neg (by omega)]
    exact ⟨rfl, rfl⟩

theorem end_c (r p a : List UInt64) (h : List UInt8) (n : Int) (ok : okP r a h n) :
    HCall Try.E 27 [.agg [.w64 2 r, .w64 2 p, .w64 3 a, .b8 16 h, .int .i64 n]] (.ret (.tup [.b8 16 (endS (lastP (v2 r) ⟨v3 a, h, n.toNat⟩) p), .int .i64 0]) []) := by
  refine HCall.of_lens rfl rfl fun hl => ?_
  have hh : h.length = 16 := hl (.agg _) (List.mem_cons_self ..) (.b8 16 h) (by simp)
  have hr : r.length = 2 := hl (.agg _) (List.mem_cons_self ..) (.w64 2 r) (by simp)
  have ha : a.length = 3 := hl (.agg _) (List.mem_cons_self ..) (.w64 3 a) (by simp)
  have o : PS.ok ⟨v3 a, h, n.toNat⟩ := ⟨ok.2.2.1, hh, by have := ok.2.2.2.2.1; show n.toNat < 16; omega, ok.2.2.2.2.2⟩
  have h0 := ok.2.2.2.1
  have en : ((n.toNat : Nat) : Int) = n := by omega
  have := end_s r p ⟨v3 a, h, n.toNat⟩ o (ok.r2 hr) (by
    show okS r (w3 (v3 a)) h ((n.toNat : Nat) : Int) = true
    rw [w3_v3' ha, en]
    exact okS_iff.2 ok)
  dsimp only at this
  rw [w3_v3' ha, en] at this
  exact this

noncomputable def P4 : Ctr Try.E := (P3.add 25 (fun
    | [.agg [.w64 2 r, .w64 2 p, .w64 3 a, .b8 16 h, .int .i64 n], .vec8 full b] => some (okS r a h n && ltB b.length 4611686018427387904,
        .ret (.tup [.agg [.w64 2 r, .w64 2 p, .w64 3 (w3 (addS (v2 r) ⟨v3 a, h, n.toNat⟩ b).a), .b8 16 (addS (v2 r) ⟨v3 a, h, n.toNat⟩ b).h, .int .i64 (((addS (v2 r) ⟨v3 a, h, n.toNat⟩ b).n : Nat) : Int)], .int .i64 0]) [])
    | _ => none) (by
      intro args pre out h hp
      split at h
      · simp only [Option.some.injEq, Prod.mk.injEq] at h
        obtain ⟨rfl, rfl⟩ := h
        simp only [Bool.and_eq_true, okS_iff, ltB_iff] at hp
        exact add_c _ _ _ _ _ _ _ hp.1 hp.2
      · simp at h)).add 27 (fun
    | [.agg [.w64 2 r, .w64 2 p, .w64 3 a, .b8 16 h, .int .i64 n]] => some (okS r a h n, .ret (.tup [.b8 16 (endS (lastP (v2 r) ⟨v3 a, h, n.toNat⟩) p), .int .i64 0]) [])
    | _ => none) (by
      intro args pre out h hp
      split at h
      · simp only [Option.some.injEq, Prod.mk.injEq] at h
        obtain ⟨rfl, rfl⟩ := h
        simp only [okS_iff] at hp
        exact end_c _ _ _ _ _ hp
      · simp at h)
end Go.Proofs.Ytdipeoacmapehaa

set_option linter.unusedSimpArgs false
set_option linter.unusedVariables false
namespace Go.Proofs.Ytdipeoacmapehaa
open Go Go.V Go.Fld Go.Pol
set_option maxHeartbeats 0
set_option maxRecDepth 100000

theorem tag_eq (k b : List UInt8) (full : Bool) (K : AV → Heap → Prop) : walk Try.E RS P4.C (fun _ _ => .unroll 17) 5 21 [.b8 32 k, .vec8 full b] K = (
 let x0 : Nat := (Pol.v2 (rOf k))
 let x1 : List UInt64 := (Pol.w3 (Pol.PS.a (addS x0 (Pol.PS.mk (Pol.v3 (Pol.w3 0)) Pol.zeros (Int.toNat 0)) b)))
 let x2 : List UInt8 := (Pol.PS.h (addS x0 (Pol.PS.mk (Pol.v3 (Pol.w3 0)) Pol.zeros (Int.toNat 0)) b))
 let x3 : Int := (((Pol.PS.n (addS x0 (Pol.PS.mk (Pol.v3 (Pol.w3 0)) Pol.zeros (Int.toNat 0)) b)) : Nat) : Int)
 cnd ((Pol.okS (rOf k) (Pol.w3 0) Pol.zeros 0) && (ltB (List.length b) 4611686018427387904))
 (cnd (Pol.okS (rOf k) x1 x2 x3)
 (K (AV.b8 16 (endS (lastP x0 (Pol.PS.mk (Pol.v3 x1) x2 (Int.toNat x3))) (padOf k))) []))) := by kernel_rfl

end Go.Proofs.Ytdipeoacmapehaa

set_option linter.unusedSimpArgs false
set_option linter.unusedVariables false
namespace Go.Proofs.Ytdipeoacmapehaa
open Go Go.V Go.Fld Go.Pol
set_option maxRecDepth 100000

theorem and_none (x a b : UInt64) (h : a &&& b = 0) : ((x &&& a) &&& b).toNat = 0 := by
  rw [UInt64.and_assoc, h, UInt64.and_zero]; rfl
theorem rOf_0 (k : List UInt8) : ((rOf k).getD 0 0 &&& 17293822586014138368).toNat = 0 := and_none _ _ _ (by decide)
theorem rOf_1 (k : List UInt8) : ((rOf k).getD 1 0 &&& 17293822586014138371).toNat = 0 := and_none _ _ _ (by decide)
theorem ok0 : PS.ok ⟨0, zeros, 0⟩ := ⟨by decide, rfl, by decide, fun i _ => zeros_getD i⟩
theorem okS_r {k : List UInt8} {s : PS} (o : s.ok) : okS (rOf k) (w3 s.a) s.h ((s.n : Nat) : Int) = true := okS_of o (rOf_0 k) (rOf_1 k)
theorem ps_eta {s : PS} (o : s.ok) : PS.mk (v3 (w3 s.a)) s.h (Int.toNat ((s.n : Nat) : Int)) = s := by
  have h := o.a
  unfold q at h
  rw [v3_w3' (by omega), Int.toNat_natCast]

/-- The tag of bytes by a key. -/
noncomputable def tagF (k b : List UInt8) : List UInt8 := endS (lastP (v2 (rOf k)) (addS (v2 (rOf k)) ⟨0, zeros, 0⟩ b)) (padOf k)
noncomputable def tagS : List UInt8 → List UInt8 → List UInt8 := (sealed tagF).val
theorem tagS_eq (k b : List UInt8) : tagS k b = tagF k b := by rw [tagS, (sealed tagF).property]

theorem tag_c (k b : List UInt8) (full : Bool) (hb : b.length < 4611686018427387904) : HCall Try.E 21 [.b8 32 k, .vec8 full b] (.ret (.b8 16 (tagS k b)) []) := by
  refine HCall.of_walk (R := RS) (T := P4) (fun _ _ => .unroll 17) 5 rfl rfl ?_
  rw [tag_eq]
  have e0 : PS.mk (v3 (w3 0)) zeros (Int.toNat 0) = ⟨0, zeros, 0⟩ := ps_eta ok0
  have e1 : okS (rOf k) (w3 0) zeros 0 = true := okS_r ok0
  rw [e0, e1]
  have o := addS_ok (r := v2 (rOf k)) ok0 b
  dsimp only
  rw [okS_r o, ltB_of hb, ps_eta o, tagS_eq]
  exact ⟨rfl, rfl⟩

noncomputable def P5 : Ctr Try.E := (P4.add 21 (fun
    | [.b8 32 k, .vec8 _ b] => some (ltB b.length 4611686018427387904, .ret (.b8 16 (tagS k b)) [])
    | _ => none) (by
      intro args pre out h hp
      split at h
      · simp only [Option.some.injEq, Prod.mk.injEq] at h
        obtain ⟨rfl, rfl⟩ := h
        exact tag_c _ _ _ (ltB_iff.1 hp)
      · simp at h)).add 6 (fun
    | [.int .i64 n, .int .i64 m] => some (decide (0 < m) && decide (m ≤ 9223372036854775807), .ret (.int .i64 (n % m)) [])
    | _ => none) (by
      intro args pre out h hp
      split at h
      · simp only [Option.some.injEq, Prod.mk.injEq] at h
        obtain ⟨rfl, rfl⟩ := h
        simp only [Bool.and_eq_true, decide_eq_true_eq] at hp
        exact picked_c _ _ hp.1 hp.2
      · simp at h)
end Go.Proofs.Ytdipeoacmapehaa
