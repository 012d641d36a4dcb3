import Derived.Test.YtfjmpdoidkblcaaDoorEnv
import Derived.Test.YtfjmpdoidkblcaaDoorNums
set_option linter.unusedSimpArgs false
set_option linter.unusedVariables false
namespace Go.Proofs.YtfjmpdoidkblcaaDoor
open Go Go.V Go.Fld
noncomputable abbrev RR := ROps.nil Tryd.E
noncomputable abbrev CC := (Ctr.nil Tryd.E).C
set_option maxHeartbeats 0
set_option maxRecDepth 100000

theorem less_eq (a0 a1 a2 a3 b0 b1 b2 b3 : UInt64) (K : AV → Heap → Prop) : walk Tryd.E RR CC (fun _ _ => .unroll 6) 3 32 [.w64 4 [a0, a1, a2, a3], .w64 4 [b0, b1, b2, b3]] K = (
 let x0 : List UInt64 := [a0, a1, a2, a3]
 let x1 : UInt64 := (List.getD x0 0 0)
 let x2 : List UInt64 := [b0, b1, b2, b3]
 let x3 : UInt64 := (List.getD x2 0 0)
 let x4 : UInt64 := (borrow64 x1 x3 0)
 let x5 : List UInt64 := (List.set x0 0 ((x1 - x3) - 0))
 let x6 : UInt64 := (List.getD x5 1 0)
 let x7 : UInt64 := (List.getD x2 1 0)
 let x8 : UInt64 := (borrow64 x6 x7 x4)
 let x9 : List UInt64 := (List.set x5 1 ((x6 - x7) - x4))
 let x10 : UInt64 := (List.getD x9 2 0)
 let x11 : UInt64 := (List.getD x2 2 0)
 let x12 : UInt64 := (borrow64 x10 x11 x8)
 let x13 : List UInt64 := (List.set x9 2 ((x10 - x11) - x8))
 let x14 : UInt64 := (List.getD x13 3 0)
 let x15 : UInt64 := (List.getD x2 3 0)
 cnd (bit1 x4)
 (cnd (bit1 x8)
 (cnd (bit1 x12)
 (K (AV.tup [AV.w64 4 (List.set x13 3 ((x14 - x15) - x12)), AV.bool ((((UInt64.toNat (borrow64 x14 x15 x12)) : Nat) : Int) == 1)]) [])))) := by kernel_rfl

theorem mul64_eq (x y : UInt64) (K : AV → Heap → Prop) : walk Tryd.E RR CC (fun _ _ => .unroll 6) 3 35 [.u64 x, .u64 y] K = (
 let x0 : UInt64 := (y &&& 4294967295)
 let x1 : UInt64 := (x &&& 4294967295)
 let x2 : UInt64 := (((shr64 x 32) * x0) + (shr64 (x1 * x0) 32))
 K (AV.tup [AV.u64 ((((shr64 x 32) * (shr64 y 32)) + (shr64 x2 32)) + (shr64 ((x2 &&& 4294967295) + (x1 * (shr64 y 32))) 32)), AV.u64 (x * y)]) []) := by kernel_rfl

theorem sub_eq (a0 a1 a2 a3 b0 b1 b2 b3 : UInt64) (K : AV → Heap → Prop) : walk Tryd.E RR CC (fun _ _ => .unroll 6) 3 28 [.w64 4 [a0, a1, a2, a3], .w64 4 [b0, b1, b2, b3]] K = (
 let x0 : List UInt64 := [a0, a1, a2, a3]
 let x1 : UInt64 := (List.getD x0 0 0)
 let x2 : List UInt64 := [b0, b1, b2, b3]
 let x3 : UInt64 := (List.getD x2 0 0)
 let x4 : UInt64 := (borrow64 x1 x3 0)
 let x5 : List UInt64 := (List.set x0 0 ((x1 - x3) - 0))
 let x6 : UInt64 := (List.getD x5 1 0)
 let x7 : UInt64 := (List.getD x2 1 0)
 let x8 : UInt64 := (borrow64 x6 x7 x4)
 let x9 : List UInt64 := (List.set x5 1 ((x6 - x7) - x4))
 let x10 : UInt64 := (List.getD x9 2 0)
 let x11 : UInt64 := (List.getD x2 2 0)
 let x12 : UInt64 := (borrow64 x10 x11 x8)
 let x13 : List UInt64 := (List.set x9 2 ((x10 - x11) - x8))
 let x14 : UInt64 := (List.getD x13 3 0)
 let x15 : UInt64 := (List.getD x2 3 0)
 let x16 : List UInt64 := (List.set x13 3 ((x14 - x15) - x12))
 let x17 : UInt64 := (List.getD x16 0 0)
 let x18 : UInt64 := 18446744073709551597
 let x19 : UInt64 := (carry64 x17 x18 0)
 let x20 : List UInt64 := (List.set x16 0 ((x17 + x18) + 0))
 let x21 : UInt64 := (List.getD x20 1 0)
 let x22 : UInt64 := 18446744073709551615
 let x23 : UInt64 := (carry64 x21 x22 x19)
 let x24 : List UInt64 := (List.set x20 1 ((x21 + x22) + x19))
 let x25 : UInt64 := (List.getD x24 2 0)
 let x26 : UInt64 := (carry64 x25 x22 x23)
 let x27 : List UInt64 := (List.set x24 2 ((x25 + x22) + x23))
 cnd (bit1 x4)
 (cnd (bit1 x8)
 (cnd (bit1 x12)
 (ite2 ((((UInt64.toNat (borrow64 x14 x15 x12)) : Nat) : Int) == 1)
 -- THEN
 (cnd (bit1 x19)
 (cnd (bit1 x23)
 (cnd (bit1 x26)
 (K (AV.w64 4 (List.set x27 3 (((List.getD x27 3 0) + 9223372036854775807) + x26))) []))))
 -- ELSE
 (K (AV.w64 4 x16) []))))) := by kernel_rfl

end Go.Proofs.YtfjmpdoidkblcaaDoor

set_option linter.unusedSimpArgs false
set_option linter.unusedVariables false
namespace Go.Proofs.YtfjmpdoidkblcaaDoor
open Go Go.V Go.Fld

theorem less_c (a b : List UInt64) : HCall Tryd.E 32 [.w64 4 a, .w64 4 b]
    (.ret (.tup [.w64 4 (fes (subT (nv a) (nv b))), .bool (ltN (nv a) (nv b))]) []) := by
  refine HCall.of_len rfl rfl fun hl => ?_
  have ha : a.length = 4 := hl _ (List.mem_cons_self ..)
  have hb : b.length = 4 := hl (.w64 4 b) (by simp)
  rw [eta4 ha, eta4 hb]
  generalize a.getD 0 0 = a0; generalize a.getD 1 0 = a1; generalize a.getD 2 0 = a2; generalize a.getD 3 0 = a3
  generalize b.getD 0 0 = b0; generalize b.getD 1 0 = b1; generalize b.getD 2 0 = b2; generalize b.getD 3 0 = b3
  refine HCall.of_walk (R := RR) (T := Ctr.nil _) (fun _ _ => .unroll 6) 3 rfl rfl ?_
  rw [less_eq]
  simp only [List.getD_cons_zero, List.getD_cons_succ, List.set_cons_zero, List.set_cons_succ, bit1, bit1_carry, bit1_borrow, cnd_true, has_ret, nv_mk, and_true]
  have z : (0 : UInt64).toNat = 0 := rfl
  have p0 := sub_part a0 b0 0 (by decide)
  have p1 := sub_part a1 b1 _ p0.2
  have p2 := sub_part a2 b2 _ p1.2
  have p3 := sub_part a3 b3 _ p2.2
  generalize borrow64 a0 b0 0 = c0 at *
  generalize borrow64 a1 b1 c0 = c1 at *
  generalize borrow64 a2 b2 c1 = c2 at *
  generalize borrow64 a3 b3 c2 = c3 at *
  have k : val (a0 - b0 - 0) (a1 - b1 - c0) (a2 - b2 - c1) (a3 - b3 - c2) + val b0 b1 b2 b3 = val a0 a1 a2 a3 + top * c3.toNat := by
    unfold val top
    omega
  have l := val_lt (a0 - b0 - 0) (a1 - b1 - c0) (a2 - b2 - c1) (a3 - b3 - c2)
  have la := val_lt a0 a1 a2 a3
  have lb := val_lt b0 b1 b2 b3
  rw [← fes_val]
  generalize val (a0 - b0 - 0) (a1 - b1 - c0) (a2 - b2 - c1) (a3 - b3 - c2) = r at *
  generalize val a0 a1 a2 a3 = x at *
  generalize val b0 b1 b2 b3 = y at *
  have c3' : c3.toNat = if x < y then 1 else 0 := by
    have := p3.2
    unfold top at *
    split <;> omega
  rw [c3'] at k ⊢
  rw [ltN_eq, subT]
  by_cases e : x < y
  · simp only [e, if_true, decide_true] at k ⊢
    rw [show r = x + top - y by unfold top at *; omega]
    rfl
  · simp only [e, if_false, decide_false] at k ⊢
    rw [show r = x - y by omega]
    rfl

theorem mul64_c (x y : UInt64) : HCall Tryd.E 35 [.u64 x, .u64 y] (.ret (.tup [.u64 (mulhi x y), .u64 (x * y)]) []) := by
  refine HCall.of_walk (R := RR) (T := Ctr.nil _) (fun _ _ => .unroll 6) 3 rfl rfl ?_
  rw [mul64_eq]
  simp only [has_ret, and_true]
  rw [mulhi_eq, ← mul64_hi]

/-- What is known of calls so far. -/
noncomputable def T1 : Ctr Tryd.E := ((Ctr.nil _).add 32 (fun
    | [.w64 4 a, .w64 4 b] => some (true, .ret (.tup [.w64 4 (fes (subT (nv a) (nv b))), .bool (ltN (nv a) (nv b))]) [])
    | _ => none) (by
      intro args pre out h _
      split at h
      · simp only [Option.some.injEq, Prod.mk.injEq] at h
        obtain ⟨_, rfl⟩ := h
        exact less_c _ _
      · simp at h)).add 35 (fun
    | [.u64 x, .u64 y] => some (true, .ret (.tup [.u64 (mulhi x y), .u64 (x * y)]) [])
    | _ => none) (by
      intro args pre out h _
      split at h
      · simp only [Option.some.injEq, Prod.mk.injEq] at h
        obtain ⟨_, rfl⟩ := h
        exact mul64_c _ _
      · simp at h)
end Go.Proofs.YtfjmpdoidkblcaaDoor

set_option linter.unusedSimpArgs false
set_option linter.unusedVariables false
namespace Go.Proofs.YtfjmpdoidkblcaaDoor
open Go Go.V Go.Fld
set_option maxHeartbeats 0
set_option maxRecDepth 100000

theorem below_eq (a : List UInt64) (K : AV → Heap → Prop) : walk Tryd.E RR T1.C (fun _ _ => .unroll 6) 3 24 [.w64 4 a] K = (

 K (AV.bool (Fld.ltN (Fld.nv a) 57896044618658097711785492504343953926634992332820282019728792003956564819949)) []) := by kernel_rfl

theorem plus_eq (a0 a1 a2 a3 n : UInt64) (K : AV → Heap → Prop) : walk Tryd.E RR T1.C (fun _ l => bif l == 1 then .unroll 3 else .unroll 6) 3 34 [.w64 4 [a0, a1, a2, a3], .u64 n] K = (
 let x0 : List UInt64 := [a0, a1, a2, a3]
 let x1 : UInt64 := (List.getD x0 0 0)
 let x2 : UInt64 := (carry64 x1 n 0)
 let x3 : List UInt64 := (List.set x0 0 ((x1 + n) + 0))
 let x4 : UInt64 := (List.getD x3 1 0)
 let x5 : UInt64 := (carry64 x4 0 x2)
 let x6 : List UInt64 := (List.set x3 1 ((x4 + 0) + x2))
 let x7 : UInt64 := (List.getD x6 2 0)
 let x8 : UInt64 := (carry64 x7 0 x5)
 let x9 : List UInt64 := (List.set x6 2 ((x7 + 0) + x5))
 let x10 : UInt64 := (List.getD x9 3 0)
 let x11 : UInt64 := (38 * (carry64 x10 0 x8))
 let x12 : List UInt64 := (List.set x9 3 ((x10 + 0) + x8))
 let x13 : UInt64 := (List.getD x12 0 0)
 let x14 : UInt64 := (carry64 x13 x11 0)
 let x15 : List UInt64 := (List.set x12 0 ((x13 + x11) + 0))
 let x16 : UInt64 := (List.getD x15 1 0)
 let x17 : UInt64 := (carry64 x16 0 x14)
 let x18 : List UInt64 := (List.set x15 1 ((x16 + 0) + x14))
 let x19 : UInt64 := (List.getD x18 2 0)
 let x20 : UInt64 := (carry64 x19 0 x17)
 let x21 : List UInt64 := (List.set x18 2 ((x19 + 0) + x17))
 let x22 : UInt64 := (List.getD x21 3 0)
 let x23 : UInt64 := (38 * (carry64 x22 0 x20))
 let x24 : List UInt64 := (List.set x21 3 ((x22 + 0) + x20))
 let x25 : UInt64 := (List.getD x24 0 0)
 let x26 : UInt64 := (carry64 x25 x23 0)
 let x27 : List UInt64 := (List.set x24 0 ((x25 + x23) + 0))
 let x28 : UInt64 := (List.getD x27 1 0)
 let x29 : UInt64 := (carry64 x28 0 x26)
 ite2 ((((UInt64.toNat n) : Nat) : Int) != 0)
 -- THEN
 (cnd (bit1 x2)
 (cnd (bit1 x5)
 (cnd (bit1 x8)
 (ite2 ((((UInt64.toNat x11) : Nat) : Int) != 0)
 -- THEN
 (cnd (bit1 x14)
 (cnd (bit1 x17)
 (cnd (bit1 x20)
 (ite2 ((((UInt64.toNat x23) : Nat) : Int) != 0)
 -- THEN
 (cnd (bit1 x26)
 (cnd (bit1 x29)
 (cnd (bit1 (carry64 (List.getD (List.set x27 1 ((x28 + 0) + x26)) 2 0) 0 x29))
 (False))))
 -- ELSE
 (K (AV.w64 4 x24) [])))))
 -- ELSE
 (K (AV.w64 4 x12) [])))))
 -- ELSE
 (K (AV.w64 4 x0) [])) := by kernel_rfl

end Go.Proofs.YtfjmpdoidkblcaaDoor

set_option linter.unusedSimpArgs false
set_option linter.unusedVariables false
namespace Go.Proofs.YtfjmpdoidkblcaaDoor
open Go Go.V Go.Fld

theorem below_c (a : List UInt64) : HCall Tryd.E 24 [.w64 4 a] (.ret (.bool (ltN (nv a) prm)) []) := by
  refine HCall.of_walk (R := RR) (T := T1) (fun _ _ => .unroll 6) 3 rfl rfl ?_
  rw [below_eq]
  exact has_refl

theorem plus_round (a0 a1 a2 a3 n : UInt64) : ∃ b, b ≤ 1 ∧ (38 * carry64 (a3) 0 (carry64 a2 0 (carry64 a1 0 (carry64 a0 n 0)))).toNat = 38 * b ∧
    val (a0 + n + 0) (a1 + 0 + carry64 a0 n 0) (a2 + 0 + carry64 a1 0 (carry64 a0 n 0)) (a3 + 0 + carry64 a2 0 (carry64 a1 0 (carry64 a0 n 0))) + top * b = val a0 a1 a2 a3 + n.toNat := by
  obtain ⟨b, hb, hb1, hv⟩ := add_val a0 a1 a2 a3 n 0 0 0 0 (by decide)
  refine ⟨b, hb1, times38 _ hb hb1, ?_⟩
  rw [hv]
  have e : val n 0 0 0 = n.toNat := by simp [val]
  have e0 : (0 : UInt64).toNat = 0 := rfl
  omega

theorem plus_c (a : List UInt64) (n : UInt64) : HCall Tryd.E 34 [.w64 4 a, .u64 n] (.ret (.w64 4 (fes (plusN (nv a) n.toNat))) []) := by
  refine HCall.of_len rfl rfl fun hl => ?_
  have ha : a.length = 4 := hl _ (List.mem_cons_self ..)
  rw [eta4 ha]
  generalize a.getD 0 0 = a0; generalize a.getD 1 0 = a1; generalize a.getD 2 0 = a2; generalize a.getD 3 0 = a3
  refine HCall.of_walk (R := RR) (T := T1) (fun _ l => bif l == 1 then .unroll 3 else .unroll 6) 3 rfl rfl ?_
  rw [plus_eq]
  simp only [List.getD_cons_zero, List.getD_cons_succ, List.set_cons_zero, List.set_cons_succ, bit1, bit1_carry, bit1_borrow, cnd_true, has_ret, nv_mk, and_true, ite2_eq]
  obtain ⟨b, hb, h38, hv⟩ := plus_round a0 a1 a2 a3 n
  have l0 := val_lt a0 a1 a2 a3
  have ln := lt64 n
  generalize 38 * carry64 a3 0 (carry64 a2 0 (carry64 a1 0 (carry64 a0 n 0))) = m at *
  generalize a0 + n + 0 = r0 at *
  generalize a1 + 0 + carry64 a0 n 0 = r1 at *
  generalize a2 + 0 + carry64 a1 0 (carry64 a0 n 0) = r2 at *
  generalize a3 + 0 + carry64 a2 0 (carry64 a1 0 (carry64 a0 n 0)) = r3 at *
  have l1 := val_lt r0 r1 r2 r3
  obtain ⟨b', hb', h38', hv'⟩ := plus_round r0 r1 r2 r3 m
  generalize 38 * carry64 r3 0 (carry64 r2 0 (carry64 r1 0 (carry64 r0 m 0))) = m' at *
  generalize r0 + m + 0 = s0 at *
  generalize r1 + 0 + carry64 r0 m 0 = s1 at *
  generalize r2 + 0 + carry64 r1 0 (carry64 r0 m 0) = s2 at *
  generalize r3 + 0 + carry64 r2 0 (carry64 r1 0 (carry64 r0 m 0)) = s3 at *
  have l2 := val_lt s0 s1 s2 s3
  rw [← fes_val, ← fes_val, ← fes_val]
  generalize val a0 a1 a2 a3 = x at *
  generalize val r0 r1 r2 r3 = y at *
  generalize val s0 s1 s2 s3 = z at *
  have g : top = 115792089237316195423570985008687907853269984665640564039457584007913129639936 := rfl
  have key : ∀ u : UInt64, (((u.toNat : Nat) : Int) != 0) = true ↔ u.toNat ≠ 0 := by intro u; simp
  have key' : ∀ u : UInt64, (((u.toNat : Nat) : Int) != 0) = false ↔ u.toNat = 0 := by intro u; simp
  simp only [key, key', AV.w64.injEq, true_and]
  unfold plusN
  rw [g] at hv hv' l0 l1 l2 ⊢
  have zb : b = 0 ∨ b = 1 := by omega
  have zb' : b' = 0 ∨ b' = 1 := by omega
  refine ⟨fun h0 => ⟨fun h1 => ⟨fun h2 => ?_, fun h2 => ?_⟩, fun h1 => ?_⟩, fun h0 => ?_⟩
  · rcases zb with rfl | rfl <;> rcases zb' with rfl | rfl <;> omega
  · rcases zb with rfl | rfl <;> rcases zb' with rfl | rfl <;> try omega
    rw [if_neg (by omega), show z = x + n.toNat - 115792089237316195423570985008687907853269984665640564039457584007913129639936 + 38 by omega]
  · rcases zb with rfl | rfl <;> try omega
    rw [if_pos (by omega), show y = x + n.toNat by omega]
  · rw [if_pos (by omega), show x + n.toNat = x by omega]

noncomputable def T2 : Ctr Tryd.E := (T1.add 24 (fun
    | [.w64 4 a] => some (true, .ret (.bool (ltN (nv a) prm)) [])
    | _ => none) (by
      intro args pre out h _
      split at h
      · simp only [Option.some.injEq, Prod.mk.injEq] at h
        obtain ⟨_, rfl⟩ := h
        exact below_c _
      · simp at h)).add 34 (fun
    | [.w64 4 a, .u64 n] => some (true, .ret (.w64 4 (fes (plusN (nv a) n.toNat))) [])
    | _ => none) (by
      intro args pre out h _
      split at h
      · simp only [Option.some.injEq, Prod.mk.injEq] at h
        obtain ⟨_, rfl⟩ := h
        exact plus_c _ _
      · simp at h)
end Go.Proofs.YtfjmpdoidkblcaaDoor

set_option linter.unusedSimpArgs false
set_option linter.unusedVariables false
namespace Go.Proofs.YtfjmpdoidkblcaaDoor
open Go Go.V Go.Fld
set_option maxHeartbeats 0
set_option maxRecDepth 100000

theorem settled_eq (a : List UInt64) (K : AV → Heap → Prop) : walk Tryd.E RR T2.C (fun _ _ => .unroll 3) 3 23 [.w64 4 a] K = (
 let x0 : Nat := 57896044618658097711785492504343953926634992332820282019728792003956564819949
 let x1 : List UInt64 := (Fld.fes (Fld.subT (Fld.nv a) x0))
 let x2 : List UInt64 := (Fld.fes (Fld.subT (Fld.nv x1) x0))
 ite2 (Bool.not (Fld.ltN (Fld.nv a) x0))
 -- THEN
 (ite2 (Bool.not (Fld.ltN (Fld.nv x1) x0))
 -- THEN
 (ite2 (Bool.not (Fld.ltN (Fld.nv x2) x0))
 -- THEN
 (False)
 -- ELSE
 (K (AV.w64 4 x2) []))
 -- ELSE
 (K (AV.w64 4 x1) []))
 -- ELSE
 (K (AV.w64 4 a) [])) := by kernel_rfl

theorem subc_eq (a b : List UInt64) (K : AV → Heap → Prop) : walk Tryd.E RR T2.C (fun _ _ => .unroll 6) 3 28 [.w64 4 a, .w64 4 b] K = (
 let x0 : List UInt64 := (Fld.fes (Fld.subT (Fld.nv a) (Fld.nv b)))
 let x1 : UInt64 := (List.getD x0 0 0)
 let x2 : UInt64 := 18446744073709551597
 let x3 : UInt64 := (carry64 x1 x2 0)
 let x4 : List UInt64 := (List.set x0 0 ((x1 + x2) + 0))
 let x5 : UInt64 := (List.getD x4 1 0)
 let x6 : UInt64 := 18446744073709551615
 let x7 : UInt64 := (carry64 x5 x6 x3)
 let x8 : List UInt64 := (List.set x4 1 ((x5 + x6) + x3))
 let x9 : UInt64 := (List.getD x8 2 0)
 let x10 : UInt64 := (carry64 x9 x6 x7)
 let x11 : List UInt64 := (List.set x8 2 ((x9 + x6) + x7))
 ite2 (Fld.ltN (Fld.nv a) (Fld.nv b))
 -- THEN
 (cnd (bit1 x3)
 (cnd (bit1 x7)
 (cnd (bit1 x10)
 (K (AV.w64 4 (List.set x11 3 (((List.getD x11 3 0) + 9223372036854775807) + x10))) []))))
 -- ELSE
 (K (AV.w64 4 x0) [])) := by kernel_rfl

end Go.Proofs.YtfjmpdoidkblcaaDoor

set_option linter.unusedSimpArgs false
set_option linter.unusedVariables false
namespace Go.Proofs.YtfjmpdoidkblcaaDoor
open Go Go.V Go.Fld

theorem settled_c (a : List UInt64) : HCall Tryd.E 23 [.w64 4 a] (.ret (.w64 4 (fes (nv a % prm))) []) := by
  refine HCall.of_len rfl rfl fun hl => ?_
  have ha : a.length = 4 := hl _ (List.mem_cons_self ..)
  refine HCall.of_walk (R := RR) (T := T2) (fun _ _ => .unroll 3) 3 rfl rfl ?_
  rw [settled_eq]
  have hp : (57896044618658097711785492504343953926634992332820282019728792003956564819949 : Nat) = prm := rfl
  simp only [hp, ite2_eq, has_ret, ltN_eq, and_true, AV.w64.injEq, true_and, Bool.not_eq_true', Bool.not_eq_false', decide_eq_true_eq, decide_eq_false_iff_not]
  have l := nv_lt a
  have e := fes_nv ha
  generalize nv a = x at *
  have ep := top_prm
  have e2 : 38 < prm := by decide
  refine ⟨fun h1 => ?_, fun h1 => by rw [Nat.mod_eq_of_lt h1, e]⟩
  have s1 : subT x prm = x - prm := by unfold subT; rw [if_neg h1]
  have l1 : x - prm < top := by omega
  rw [s1, nv_fes l1]
  refine ⟨fun h2 => ?_, fun h2 => by rw [set_mod h1 h2]⟩
  have s2 : subT (x - prm) prm = x - prm - prm := by unfold subT; rw [if_neg h2]
  rw [s2, nv_fes (by omega)]
  refine ⟨fun h3 => absurd (set_two l) h3, fun h3 => by rw [set_mod2 l h1 h2]⟩

theorem sub_c (a b : List UInt64) (ha : nv a < prm) (hb : nv b < prm) : HCall Tryd.E 28 [.w64 4 a, .w64 4 b] (.ret (.w64 4 (fes ((nv a + prm - nv b) % prm))) []) := by
  refine HCall.of_walk (R := RR) (T := T2) (fun _ _ => .unroll 6) 3 rfl rfl ?_
  rw [subc_eq]
  simp only [ite2_eq, ltN_eq, decide_eq_true_eq, decide_eq_false_iff_not]
  have ep := top_prm
  generalize nv a = x at *
  generalize nv b = y at *
  refine ⟨fun h => ?_, fun h => ?_⟩
  · have s : subT x y = x + top - y := by unfold subT; rw [if_pos h]
    obtain ⟨d0, d1, d2, d3, hd⟩ := val_ex (n := x + top - y) (by omega)
    rw [s, hd, fes_val]
    simp only [List.getD_cons_zero, List.getD_cons_succ, List.set_cons_zero, List.set_cons_succ, bit1, bit1_carry, bit1_borrow, cnd_true, has_ret, and_true, AV.w64.injEq, true_and]
    obtain ⟨c, hc, hc1, hv⟩ := add_val d0 d1 d2 d3 18446744073709551597 18446744073709551615 18446744073709551615 9223372036854775807 0 (by decide)
    have e : val 18446744073709551597 18446744073709551615 18446744073709551615 9223372036854775807 = prm := by decide
    rw [e, ← hd] at hv
    have ll := val_lt (d0 + 18446744073709551597 + 0) (d1 + 18446744073709551615 + carry64 d0 18446744073709551597 0) (d2 + 18446744073709551615 + carry64 d1 18446744073709551615 (carry64 d0 18446744073709551597 0)) (d3 + 9223372036854775807 + carry64 d2 18446744073709551615 (carry64 d1 18446744073709551615 (carry64 d0 18446744073709551597 0)))
    rw [← fes_val, Nat.mod_eq_of_lt (by omega)]
    generalize val (d0 + 18446744073709551597 + 0) _ _ _ = r at *
    have z0 : (0 : UInt64).toNat = 0 := rfl
    have z : c = 0 ∨ c = 1 := by omega
    rcases z with rfl | rfl
    · omega
    · rw [show r = x + prm - y by omega]
  · have s : subT x y = x - y := by unfold subT; rw [if_neg h]
    rw [s, show x + prm - y = (x - y) + prm by omega, Nat.add_mod_right, Nat.mod_eq_of_lt (by omega)]
    exact has_refl

noncomputable def T3 : Ctr Tryd.E := (T2.add 23 (fun
    | [.w64 4 a] => some (true, .ret (.w64 4 (fes (nv a % prm))) [])
    | _ => none) (by
      intro args pre out h _
      split at h
      · simp only [Option.some.injEq, Prod.mk.injEq] at h
        obtain ⟨_, rfl⟩ := h
        exact settled_c _
      · simp at h)).add 28 (fun
    | [.w64 4 a, .w64 4 b] => some (ltN (nv a) prm && ltN (nv b) prm, .ret (.w64 4 (fes ((nv a + prm - nv b) % prm))) [])
    | _ => none) (by
      intro args pre out h hp
      split at h
      · simp only [Option.some.injEq, Prod.mk.injEq] at h
        obtain ⟨rfl, rfl⟩ := h
        simp only [Bool.and_eq_true, ltN_eq, decide_eq_true_eq] at hp
        exact sub_c _ _ hp.1 hp.2
      · simp at h)
end Go.Proofs.YtfjmpdoidkblcaaDoor

set_option linter.unusedSimpArgs false
set_option linter.unusedVariables false
namespace Go.Proofs.YtfjmpdoidkblcaaDoor
open Go Go.V Go.Fld
set_option maxHeartbeats 0
set_option maxRecDepth 100000

theorem add_eq (a0 a1 a2 a3 b0 b1 b2 b3 : UInt64) (K : AV → Heap → Prop) : walk Tryd.E RR T3.C (fun _ _ => .unroll 6) 3 26 [.w64 4 [a0, a1, a2, a3], .w64 4 [b0, b1, b2, b3]] K = (
 let x0 : List UInt64 := [a0, a1, a2, a3]
 let x1 : UInt64 := (List.getD x0 0 0)
 let x2 : List UInt64 := [b0, b1, b2, b3]
 let x3 : UInt64 := (List.getD x2 0 0)
 let x4 : UInt64 := (carry64 x1 x3 0)
 let x5 : List UInt64 := (List.set x0 0 ((x1 + x3) + 0))
 let x6 : UInt64 := (List.getD x5 1 0)
 let x7 : UInt64 := (List.getD x2 1 0)
 let x8 : UInt64 := (carry64 x6 x7 x4)
 let x9 : List UInt64 := (List.set x5 1 ((x6 + x7) + x4))
 let x10 : UInt64 := (List.getD x9 2 0)
 let x11 : UInt64 := (List.getD x2 2 0)
 let x12 : UInt64 := (carry64 x10 x11 x8)
 let x13 : List UInt64 := (List.set x9 2 ((x10 + x11) + x8))
 let x14 : UInt64 := (List.getD x13 3 0)
 let x15 : UInt64 := (List.getD x2 3 0)
 cnd (bit1 x4)
 (cnd (bit1 x8)
 (cnd (bit1 x12)
 (K (AV.w64 4 (Fld.fes ((Fld.nv (Fld.fes (Fld.plusN (Fld.nv (List.set x13 3 ((x14 + x15) + x12))) (UInt64.toNat (38 * (carry64 x14 x15 x12)))))) % 57896044618658097711785492504343953926634992332820282019728792003956564819949))) [])))) := by kernel_rfl

end Go.Proofs.YtfjmpdoidkblcaaDoor

set_option linter.unusedSimpArgs false
set_option linter.unusedVariables false
namespace Go.Proofs.YtfjmpdoidkblcaaDoor
open Go Go.V Go.Fld

theorem add_c (a b : List UInt64) : HCall Tryd.E 26 [.w64 4 a, .w64 4 b] (.ret (.w64 4 (fes ((nv a + nv b) % prm))) []) := by
  refine HCall.of_len rfl rfl fun hl => ?_
  have ha : a.length = 4 := hl _ (List.mem_cons_self ..)
  have hb : b.length = 4 := hl (.w64 4 b) (by simp)
  rw [eta4 ha, eta4 hb]
  generalize a.getD 0 0 = a0; generalize a.getD 1 0 = a1; generalize a.getD 2 0 = a2; generalize a.getD 3 0 = a3
  generalize b.getD 0 0 = b0; generalize b.getD 1 0 = b1; generalize b.getD 2 0 = b2; generalize b.getD 3 0 = b3
  refine HCall.of_walk (R := RR) (T := T3) (fun _ _ => .unroll 6) 3 rfl rfl ?_
  rw [add_eq]
  simp only [List.getD_cons_zero, List.getD_cons_succ, List.set_cons_zero, List.set_cons_succ, bit1, bit1_carry, bit1_borrow, cnd_true, has_ret, and_true, AV.w64.injEq, true_and, nv_mk]
  obtain ⟨k, hk, hk1, hv⟩ := add_val a0 a1 a2 a3 b0 b1 b2 b3 0 (by decide)
  rw [times38 _ hk hk1]
  have z : (0 : UInt64).toNat = 0 := rfl
  have l := val_lt (a0 + b0 + 0) (a1 + b1 + carry64 a0 b0 0) (a2 + b2 + carry64 a1 b1 (carry64 a0 b0 0)) (a3 + b3 + carry64 a2 b2 (carry64 a1 b1 (carry64 a0 b0 0)))
  generalize val (a0 + b0 + 0) _ _ _ = r at *
  have hp : (57896044618658097711785492504343953926634992332820282019728792003956564819949 : Nat) = prm := rfl
  rw [hp, nv_fes (plus_lt l (by omega)), plus_mod, mod38, show r + top * k = val a0 a1 a2 a3 + val b0 b1 b2 b3 by omega]

theorem mul_walk (a0 a1 a2 a3 b0 b1 b2 b3 : UInt64) (K : AV → Heap → Prop) : walk Tryd.E RR T3.C (fun _ _ => .unroll 6) 3 27 [.w64 4 [a0, a1, a2, a3], .w64 4 [b0, b1, b2, b3]] K =
    K (.w64 4 (fes (nv (fes (plusN (nv (mulSpec a0 a1 a2 a3 b0 b1 b2 b3).1) (mulSpec a0 a1 a2 a3 b0 b1 b2 b3).2.toNat)) % prm))) [] := by kernel_rfl

theorem mul_c (a b : List UInt64) : HCall Tryd.E 27 [.w64 4 a, .w64 4 b] (.ret (.w64 4 (fes (nv a * nv b % prm))) []) := by
  refine HCall.of_len rfl rfl fun hl => ?_
  have ha : a.length = 4 := hl _ (List.mem_cons_self ..)
  have hb : b.length = 4 := hl (.w64 4 b) (by simp)
  rw [eta4 ha, eta4 hb]
  generalize a.getD 0 0 = a0; generalize a.getD 1 0 = a1; generalize a.getD 2 0 = a2; generalize a.getD 3 0 = a3
  generalize b.getD 0 0 = b0; generalize b.getD 1 0 = b1; generalize b.getD 2 0 = b2; generalize b.getD 3 0 = b3
  refine HCall.of_walk (R := RR) (T := T3) (fun _ _ => .unroll 6) 3 rfl rfl ?_
  rw [mul_walk]
  refine has_ret.2 ⟨?_, rfl⟩
  obtain ⟨k1, k2⟩ := mulSpec_ok a0 a1 a2 a3 b0 b1 b2 b3
  have l := nv_lt (mulSpec a0 a1 a2 a3 b0 b1 b2 b3).1
  rw [nv_fes (plus_lt l (by omega)), plus_mod, k2, nv_mk, nv_mk]

noncomputable def T4 : Ctr Tryd.E := (T3.add 26 (fun
    | [.w64 4 a, .w64 4 b] => some (true, .ret (.w64 4 (fes ((nv a + nv b) % prm))) [])
    | _ => none) (by
      intro args pre out h hp
      split at h
      · simp only [Option.some.injEq, Prod.mk.injEq] at h
        obtain ⟨rfl, rfl⟩ := h
        exact add_c _ _
      · simp at h)).add 27 (fun
    | [.w64 4 a, .w64 4 b] => some (true, .ret (.w64 4 (fes (nv a * nv b % prm))) [])
    | _ => none) (by
      intro args pre out h hp
      split at h
      · simp only [Option.some.injEq, Prod.mk.injEq] at h
        obtain ⟨rfl, rfl⟩ := h
        exact mul_c _ _
      · simp at h)
end Go.Proofs.YtfjmpdoidkblcaaDoor

set_option linter.unusedSimpArgs false
set_option linter.unusedVariables false
namespace Go.Proofs.YtfjmpdoidkblcaaDoor
open Go Go.V Go.Fld
set_option maxRecDepth 100000

theorem Add_w (a b : List UInt64) (K : AV → Heap → Prop) : walk Tryd.E RR T4.C (fun _ _ => .unroll 6) 3 15 [.w64 4 a, .w64 4 b] K =
    ite2 (!ltN (nv a) prm) (K (.tup [.w64 4 [0, 0, 0, 0], .int .i64 6]) []) (ite2 (!ltN (nv b) prm) (K (.tup [.w64 4 [0, 0, 0, 0], .int .i64 6]) []) (K (.tup [.w64 4 (fes ((nv a + nv b) % prm)), .int .i64 0]) [])) := by kernel_rfl
theorem Add_c (a b : List UInt64) (ha : nv a < prm) (hb : nv b < prm) : HCall Tryd.E 15 [.w64 4 a, .w64 4 b] (.ret (.tup [.w64 4 (fes ((nv a + nv b) % prm)), .int .i64 0]) []) := by
  refine HCall.of_walk (R := RR) (T := T4) (fun _ _ => .unroll 6) 3 rfl rfl ?_
  rw [Add_w, ltN_eq, ltN_eq, decide_eq_true ha, decide_eq_true hb]
  exact ⟨rfl, rfl⟩
theorem Mul_w (a b : List UInt64) (K : AV → Heap → Prop) : walk Tryd.E RR T4.C (fun _ _ => .unroll 6) 3 16 [.w64 4 a, .w64 4 b] K =
    ite2 (!ltN (nv a) prm) (K (.tup [.w64 4 [0, 0, 0, 0], .int .i64 6]) []) (ite2 (!ltN (nv b) prm) (K (.tup [.w64 4 [0, 0, 0, 0], .int .i64 6]) []) (K (.tup [.w64 4 (fes (nv a * nv b % prm)), .int .i64 0]) [])) := by kernel_rfl
theorem Mul_c (a b : List UInt64) (ha : nv a < prm) (hb : nv b < prm) : HCall Tryd.E 16 [.w64 4 a, .w64 4 b] (.ret (.tup [.w64 4 (fes (nv a * nv b % prm)), .int .i64 0]) []) := by
  refine HCall.of_walk (R := RR) (T := T4) (fun _ _ => .unroll 6) 3 rfl rfl ?_
  rw [Mul_w, ltN_eq, ltN_eq, decide_eq_true ha, decide_eq_true hb]
  exact ⟨rfl, rfl⟩
theorem Sub_w (a b : List UInt64) (K : AV → Heap → Prop) : walk Tryd.E RR T4.C (fun _ _ => .unroll 6) 3 17 [.w64 4 a, .w64 4 b] K =
    ite2 (!ltN (nv a) prm) (K (.tup [.w64 4 [0, 0, 0, 0], .int .i64 6]) []) (ite2 (!ltN (nv b) prm) (K (.tup [.w64 4 [0, 0, 0, 0], .int .i64 6]) []) (cnd (ltN (nv a) prm && ltN (nv b) prm) (K (.tup [.w64 4 (fes ((nv a + prm - nv b) % prm)), .int .i64 0]) []))) := by kernel_rfl
theorem Sub_c (a b : List UInt64) (ha : nv a < prm) (hb : nv b < prm) : HCall Tryd.E 17 [.w64 4 a, .w64 4 b] (.ret (.tup [.w64 4 (fes ((nv a + prm - nv b) % prm)), .int .i64 0]) []) := by
  refine HCall.of_walk (R := RR) (T := T4) (fun _ _ => .unroll 6) 3 rfl rfl ?_
  rw [Sub_w, ltN_eq, ltN_eq, decide_eq_true ha, decide_eq_true hb]
  exact ⟨rfl, rfl⟩
theorem Inv_w (a : List UInt64) (K : AV → Heap → Prop) : walk Tryd.E RR T4.C (fun _ _ => .unroll 257) 3 18 [.w64 4 a] K =
    ite2 (!ltN (nv a) prm) (K (.tup [.w64 4 [0, 0, 0, 0], .int .i64 6]) []) (K (.tup [.w64 4 (invS a 255 [1, 0, 0, 0]), .int .i64 0]) []) := by kernel_rfl
theorem Inv_c (a : List UInt64) (ha : nv a < prm) : HCall Tryd.E 18 [.w64 4 a] (.ret (.tup [.w64 4 (fes (nv a ^ (prm - 2) % prm)), .int .i64 0]) []) := by
  refine HCall.of_walk (R := RR) (T := T4) (fun _ _ => .unroll 257) 3 rfl rfl ?_
  rw [Inv_w, ltN_eq, decide_eq_true ha, invS_eq 255 _ (Nat.le_refl _) (by
    rw [show (prm - 2) / 2 ^ 255 = 0 by decide, Nat.pow_zero, fes_eq]; rfl)]
  exact ⟨rfl, rfl⟩
theorem From_w (b : List UInt8) (K : AV → Heap → Prop) : walk Tryd.E RR T4.C (fun _ _ => .unroll 33) 3 11 [.b8 32 b] K =
    K (.w64 4 (fes (nv [(orB (orB (orB (orB (orB (orB (orB (orB 0 (b.getD 0 0) 0) (b.getD 1 0) 8) (b.getD 2 0) 16) (b.getD 3 0) 24) (b.getD 4 0) 32) (b.getD 5 0) 40) (b.getD 6 0) 48) (b.getD 7 0) 56), (orB (orB (orB (orB (orB (orB (orB (orB 0 (b.getD 8 0) 0) (b.getD 9 0) 8) (b.getD 10 0) 16) (b.getD 11 0) 24) (b.getD 12 0) 32) (b.getD 13 0) 40) (b.getD 14 0) 48) (b.getD 15 0) 56), (orB (orB (orB (orB (orB (orB (orB (orB 0 (b.getD 16 0) 0) (b.getD 17 0) 8) (b.getD 18 0) 16) (b.getD 19 0) 24) (b.getD 20 0) 32) (b.getD 21 0) 40) (b.getD 22 0) 48) (b.getD 23 0) 56), ((orB (orB (orB (orB (orB (orB (orB (orB 0 (b.getD 24 0) 0) (b.getD 25 0) 8) (b.getD 26 0) 16) (b.getD 27 0) 24) (b.getD 28 0) 32) (b.getD 29 0) 40) (b.getD 30 0) 48) (b.getD 31 0) 56) &&& 9223372036854775807)] % prm))) [] := by kernel_rfl
theorem From_c (b : List UInt8) : HCall Tryd.E 11 [.b8 32 b] (.ret (.w64 4 (fes (fromN b))) []) := by
  refine HCall.of_len rfl rfl fun hl => ?_
  have hb : b.length = 32 := hl _ (List.mem_cons_self ..)
  refine HCall.of_walk (R := RR) (T := T4) (fun _ _ => .unroll 33) 3 rfl rfl ?_
  rw [From_w, nv_mk, from_law hb]
  exact ⟨rfl, rfl⟩
theorem Bytes_w (a0 a1 a2 a3 : UInt64) (K : AV → Heap → Prop) : walk Tryd.E RR T4.C (fun _ _ => .unroll 33) 3 12 [.w64 4 [a0, a1, a2, a3]] K =
    ite2 (!ltN (nv [a0, a1, a2, a3]) prm) (K (.tup [.b8 32 (List.replicate 32 0), .int .i64 6]) []) (K (.tup [.b8 32 [(shr64 a0 0).toUInt8, (shr64 a0 8).toUInt8, (shr64 a0 16).toUInt8, (shr64 a0 24).toUInt8, (shr64 a0 32).toUInt8, (shr64 a0 40).toUInt8, (shr64 a0 48).toUInt8, (shr64 a0 56).toUInt8, (shr64 a1 0).toUInt8, (shr64 a1 8).toUInt8, (shr64 a1 16).toUInt8, (shr64 a1 24).toUInt8, (shr64 a1 32).toUInt8, (shr64 a1 40).toUInt8, (shr64 a1 48).toUInt8, (shr64 a1 56).toUInt8, (shr64 a2 0).toUInt8, (shr64 a2 8).toUInt8, (shr64 a2 16).toUInt8, (shr64 a2 24).toUInt8, (shr64 a2 32).toUInt8, (shr64 a2 40).toUInt8, (shr64 a2 48).toUInt8, (shr64 a2 56).toUInt8, (shr64 a3 0).toUInt8, (shr64 a3 8).toUInt8, (shr64 a3 16).toUInt8, (shr64 a3 24).toUInt8, (shr64 a3 32).toUInt8, (shr64 a3 40).toUInt8, (shr64 a3 48).toUInt8, (shr64 a3 56).toUInt8], .int .i64 0]) []) := by kernel_rfl
theorem Bytes_c (a : List UInt64) (ha : nv a < prm) : HCall Tryd.E 12 [.w64 4 a] (.ret (.tup [.b8 32 (bytesS (nv a)), .int .i64 0]) []) := by
  refine HCall.of_len rfl rfl fun hl => ?_
  have hl4 : a.length = 4 := hl _ (List.mem_cons_self ..)
  rw [eta4 hl4] at ha ⊢
  generalize a.getD 0 0 = a0 at *; generalize a.getD 1 0 = a1 at *; generalize a.getD 2 0 = a2 at *; generalize a.getD 3 0 = a3 at *
  refine HCall.of_walk (R := RR) (T := T4) (fun _ _ => .unroll 33) 3 rfl rfl ?_
  rw [Bytes_w, ltN_eq, decide_eq_true ha, ← bytes_law, nv_mk, bytesS_eq]
  exact ⟨rfl, rfl⟩

noncomputable def T5 : Ctr Tryd.E := ((((((T4.add 15 (fun
    | [.w64 4 a, .w64 4 b] => some (ltN (nv a) prm && ltN (nv b) prm, .ret (.tup [.w64 4 (fes ((nv a + nv b) % prm)), .int .i64 0]) [])
    | _ => none) (by
      intro args pre out h hp
      split at h
      · simp only [Option.some.injEq, Prod.mk.injEq] at h
        obtain ⟨rfl, rfl⟩ := h
        simp only [Bool.and_eq_true, ltN_eq, decide_eq_true_eq] at hp
        exact Add_c _ _ hp.1 hp.2
      · simp at h)).add 16 (fun
    | [.w64 4 a, .w64 4 b] => some (ltN (nv a) prm && ltN (nv b) prm, .ret (.tup [.w64 4 (fes (nv a * nv b % prm)), .int .i64 0]) [])
    | _ => none) (by
      intro args pre out h hp
      split at h
      · simp only [Option.some.injEq, Prod.mk.injEq] at h
        obtain ⟨rfl, rfl⟩ := h
        simp only [Bool.and_eq_true, ltN_eq, decide_eq_true_eq] at hp
        exact Mul_c _ _ hp.1 hp.2
      · simp at h)).add 17 (fun
    | [.w64 4 a, .w64 4 b] => some (ltN (nv a) prm && ltN (nv b) prm, .ret (.tup [.w64 4 (fes ((nv a + prm - nv b) % prm)), .int .i64 0]) [])
    | _ => none) (by
      intro args pre out h hp
      split at h
      · simp only [Option.some.injEq, Prod.mk.injEq] at h
        obtain ⟨rfl, rfl⟩ := h
        simp only [Bool.and_eq_true, ltN_eq, decide_eq_true_eq] at hp
        exact Sub_c _ _ hp.1 hp.2
      · simp at h)).add 18 (fun
    | [.w64 4 a] => some (ltN (nv a) prm, .ret (.tup [.w64 4 (fes (nv a ^ (prm - 2) % prm)), .int .i64 0]) [])
    | _ => none) (by
      intro args pre out h hp
      split at h
      · simp only [Option.some.injEq, Prod.mk.injEq] at h
        obtain ⟨rfl, rfl⟩ := h
        simp only [ltN_eq, decide_eq_true_eq] at hp
        exact Inv_c _ hp
      · simp at h)).add 11 (fun
    | [.b8 32 b] => some (true, .ret (.w64 4 (fes (fromN b))) [])
    | _ => none) (by
      intro args pre out h hp
      split at h
      · simp only [Option.some.injEq, Prod.mk.injEq] at h
        obtain ⟨rfl, rfl⟩ := h
        exact From_c _
      · simp at h)).add 12 (fun
    | [.w64 4 a] => some (ltN (nv a) prm, .ret (.tup [.b8 32 (bytesS (nv a)), .int .i64 0]) [])
    | _ => none) (by
      intro args pre out h hp
      split at h
      · simp only [Option.some.injEq, Prod.mk.injEq] at h
        obtain ⟨rfl, rfl⟩ := h
        simp only [ltN_eq, decide_eq_true_eq] at hp
        exact Bytes_c _ hp
      · simp at h))
end Go.Proofs.YtfjmpdoidkblcaaDoor

set_option linter.unusedSimpArgs false
set_option linter.unusedVariables false
namespace Go.Proofs.YtfjmpdoidkblcaaDoor
open Go Go.V Go.Fld
set_option maxRecDepth 100000

theorem fieldTells_w (K : AV → Heap → Prop) : walk Tryd.E RR T5.C (fun _ _ => .unroll 6) 4 14 [] K =
    cnd (ltN (nv [2, 0, 0, 0]) prm && ltN (nv [2, 0, 0, 0]) prm) (K (.bool (fes ((nv [2, 0, 0, 0] + nv [2, 0, 0, 0]) % prm) == [4, 0, 0, 0])) []) := by kernel_rfl
theorem fieldTells_c : HCall Tryd.E 14 [] (.ret (.bool true) []) := by
  refine HCall.of_walk (R := RR) (T := T5) (fun _ _ => .unroll 6) 4 rfl rfl ?_
  have h2 : nv [2, 0, 0, 0] = 2 := rfl
  rw [fieldTells_w, h2, ltN_eq, decide_eq_true (show 2 < prm by decide), fes_eq]
  exact ⟨rfl, rfl⟩

noncomputable def T6 : Ctr Tryd.E := T5.add 14 (fun
    | [] => some (true, .ret (.bool true) [])
    | _ => none) (by
      intro args pre out h hp
      split at h
      · simp only [Option.some.injEq, Prod.mk.injEq] at h
        obtain ⟨rfl, rfl⟩ := h
        exact fieldTells_c
      · simp at h)
end Go.Proofs.YtfjmpdoidkblcaaDoor

set_option linter.unusedSimpArgs false
set_option linter.unusedVariables false
namespace Go.Proofs.YtfjmpdoidkblcaaDoor
open Go Go.V Go.Fld
set_option maxHeartbeats 0
set_option maxRecDepth 100000

theorem groups_eq (x y z : List UInt8) (K : AV → Heap → Prop) : walk Tryd.E RR T6.C (fun _ _ => .unroll 6) 5 4 [.b8 32 x, .b8 32 y, .b8 32 z] K = (
 let x0 : Nat := (Fld.nv (Fld.fes (Fld.fromN x)))
 let x1 : Nat := 57896044618658097711785492504343953926634992332820282019728792003956564819949
 let x2 : Bool := (Fld.ltN x0 x1)
 let x3 : Nat := (Fld.nv (Fld.fes (Fld.fromN y)))
 let x4 : Bool := (Fld.ltN x3 x1)
 let x5 : List UInt64 := (Fld.fes ((x0 + x3) % x1))
 let x6 : Nat := (Fld.nv (Fld.fes (Fld.fromN z)))
 let x7 : Bool := (Fld.ltN x6 x1)
 let x8 : Nat := (Fld.nv (Fld.fes ((x3 + x6) % x1)))
 let x9 : List UInt64 := (Fld.fes ((x0 * x3) % x1))
 let x10 : Nat := (Fld.nv (Fld.fes ((x3 * x6) % x1)))
 cnd (x2 && x4)
 (cnd ((Fld.ltN (Fld.nv x5) x1) && x7)
 (cnd (x4 && x7)
 (cnd (x2 && (Fld.ltN x8 x1))
 (cnd (x4 && x2)
 (ite2 (cond Bool.true ((Fld.fes (((Fld.nv x5) + x6) % x1)) == (Fld.fes ((x0 + x8) % x1))) Bool.false)
 -- THEN
 (ite2 (cond Bool.true (cond Bool.true (x5 == (Fld.fes ((x3 + x0) % x1))) Bool.false) Bool.false)
 -- THEN
 (cnd (x2 && x4)
 (cnd ((Fld.ltN (Fld.nv x9) x1) && x7)
 (cnd (x4 && x7)
 (cnd (x2 && (Fld.ltN x10 x1))
 (cnd (x4 && x2)
 (ite2 (cond Bool.true ((Fld.fes (((Fld.nv x9) * x6) % x1)) == (Fld.fes ((x0 * x10) % x1))) Bool.false)
 -- THEN
 (K (AV.bool (cond Bool.true (cond Bool.true (x9 == (Fld.fes ((x3 * x0) % x1))) Bool.false) Bool.false)) [])
 -- ELSE
 (K (AV.bool Bool.false) [])))))))
 -- ELSE
 (K (AV.bool Bool.false) []))
 -- ELSE
 (K (AV.bool Bool.false) []))))))) := by kernel_rfl

theorem spreads_eq (x y z : List UInt8) (K : AV → Heap → Prop) : walk Tryd.E RR T6.C (fun _ _ => .unroll 6) 5 5 [.b8 32 x, .b8 32 y, .b8 32 z] K = (
 let x0 : List UInt64 := (Fld.fes (Fld.fromN x))
 let x1 : Nat := 57896044618658097711785492504343953926634992332820282019728792003956564819949
 let x2 : Bool := (Fld.ltN (Fld.nv x0) x1)
 let x3 : Nat := (Fld.nv (Fld.fes (Fld.fromN y)))
 let x4 : Bool := (Fld.ltN x3 x1)
 let x5 : Nat := (Fld.nv (Fld.fes (((Fld.nv x0) + x3) % x1)))
 let x6 : Nat := (Fld.nv (Fld.fes (Fld.fromN z)))
 let x7 : Bool := (Fld.ltN x6 x1)
 let x8 : Nat := (Fld.nv (Fld.fes (((Fld.nv x0) * x6) % x1)))
 let x9 : Nat := (Fld.nv (Fld.fes ((x3 * x6) % x1)))
 let x10 : Nat := (Fld.nv (Fld.fes ((((Fld.nv x0) + x1) - x3) % x1)))
 cnd (x2 && x4)
 (cnd ((Fld.ltN x5 x1) && x7)
 (cnd (x2 && x7)
 (cnd (x4 && x7)
 (cnd ((Fld.ltN x8 x1) && (Fld.ltN x9 x1))
 (cnd (x2 && x4)
 (cnd ((Fld.ltN x10 x1) && x4)
 (ite2 (cond Bool.true ((Fld.fes ((x5 * x6) % x1)) == (Fld.fes ((x8 + x9) % x1))) Bool.false)
 -- THEN
 (K (AV.bool (cond Bool.true ((Fld.fes ((x10 + x3) % x1)) == x0) Bool.false)) [])
 -- ELSE
 (K (AV.bool Bool.false) []))))))))) := by kernel_rfl

theorem inverse_eq (x y : List UInt8) (K : AV → Heap → Prop) : walk Tryd.E RR T6.C (fun _ _ => .unroll 6) 5 6 [.b8 32 x, .b8 32 y] K = (
 let x0 : List UInt64 := (Fld.fes (Fld.fromN x))
 let x1 : Nat := 57896044618658097711785492504343953926634992332820282019728792003956564819949
 let x2 : Bool := Fld.ltN (Fld.nv x0) x1
 let x3 : List UInt64 := (Fld.fes (((Fld.nv x0) ^ 57896044618658097711785492504343953926634992332820282019728792003956564819947) % x1))
 let x4 : List UInt64 := (Fld.fes (Fld.fromN y))
 let x5 : Bool := ((Fld.fes (((Fld.nv x0) * (Fld.nv x4)) % x1)) == [0, 0, 0, 0])
 cnd (x2)
 (cnd (x2 && (Fld.ltN (Fld.nv x3) x1))
 (cnd (x2 && (Fld.ltN (Fld.nv x4) x1))
 (ite2 (x0 == [0, 0, 0, 0])
 -- THEN
 (ite2 (cond Bool.true (x3 == [0, 0, 0, 0]) Bool.false)
 -- THEN
 (K (AV.bool (cond Bool.true x5 Bool.false)) [])
 -- ELSE
 (K (AV.bool Bool.false) []))
 -- ELSE
 (ite2 (cond Bool.true ((Fld.fes (((Fld.nv x0) * (Fld.nv x3)) % x1)) == (List.set [0, 0, 0, 0] 0 1)) Bool.false)
 -- THEN
 (K (AV.bool (cond Bool.true (x5 == (x4 == [0, 0, 0, 0])) Bool.false)) [])
 -- ELSE
 (K (AV.bool Bool.false) [])))))) := by kernel_rfl

end Go.Proofs.YtfjmpdoidkblcaaDoor

set_option linter.unusedSimpArgs false
set_option linter.unusedVariables false
namespace Go.Proofs.YtfjmpdoidkblcaaDoor
open Go Go.V Go.Fld
set_option maxRecDepth 100000

theorem hprm : (57896044618658097711785492504343953926634992332820282019728792003956564819949 : Nat) = prm := rfl

theorem fieldGroups_c (x y z : List UInt8) : HCall Tryd.E 4 [.b8 32 x, .b8 32 y, .b8 32 z] (.ret (.bool true) []) := by
  refine HCall.of_walk (R := RR) (T := T6) (fun _ _ => .unroll 6) 5 rfl rfl ?_
  rw [groups_eq]
  have e1 : ((fromN x + fromN y) % prm + fromN z) % prm = (fromN x + (fromN y + fromN z) % prm) % prm := by rw [Nat.mod_add_mod, Nat.add_mod_mod, Nat.add_assoc]
  have e2 : (fromN x + fromN y) % prm = (fromN y + fromN x) % prm := by rw [Nat.add_comm]
  have e3 : (fromN x * fromN y % prm * fromN z) % prm = (fromN x * (fromN y * fromN z % prm)) % prm := by rw [Nat.mod_mul_mod, Nat.mul_mod_mod, Nat.mul_assoc]
  have e4 : (fromN x * fromN y) % prm = (fromN y * fromN x) % prm := by rw [Nat.mul_comm]
  simp only [hprm, nv_from, nv_mod, ltN_mod, ltN_from, Bool.and_self, cnd_true, cond_true, e1, e3, beq_self_eq_true]
  rw [e2, e4]
  simp only [beq_self_eq_true, ite2, cond_true]
  exact ⟨rfl, rfl⟩

theorem fieldSpreads_c (x y z : List UInt8) : HCall Tryd.E 5 [.b8 32 x, .b8 32 y, .b8 32 z] (.ret (.bool true) []) := by
  refine HCall.of_walk (R := RR) (T := T6) (fun _ _ => .unroll 6) 5 rfl rfl ?_
  rw [spreads_eq]
  have e1 : ((fromN x + fromN y) % prm * fromN z) % prm = (fromN x * fromN z % prm + fromN y * fromN z % prm) % prm := by rw [Nat.mod_mul_mod, Nat.add_mul, Nat.add_mod]
  have e2 : ((fromN x + prm - fromN y) % prm + fromN y) % prm = fromN x := by
    have hx := fromN_lt x
    have hy := fromN_lt y
    rw [Nat.mod_add_mod, show fromN x + prm - fromN y + fromN y = fromN x + prm by omega, Nat.add_mod_right, Nat.mod_eq_of_lt hx]
  simp only [hprm, nv_from, nv_mod, ltN_mod, ltN_from, Bool.and_self, cnd_true, cond_true, e1, e2, beq_self_eq_true, ite2]
  exact ⟨rfl, rfl⟩

end Go.Proofs.YtfjmpdoidkblcaaDoor
