import Derived.Test.YtfjmpdoidkblcaaDoorFldOld
import Derived.Test.YtfjmpdoidkblcaaDoorNums
import Derived.Test.YtfjmpdoidkblcaaDoorWS
set_option linter.unusedSimpArgs false
set_option linter.unusedVariables false
namespace Go.Proofs.YtfjmpdoidkblcaaDoor
open Go Go.V Go.Fld
set_option maxHeartbeats 0
set_option maxRecDepth 100000

theorem ladd_eq (a b : List UInt64) (K : AV → Heap → Prop) : walk Tryd.E RR T6.C (fun _ _ => .unroll 6) 3 36 [.w64 4 a, .w64 4 b] K = (
 let x0 : Nat := 57896044618658097711785492504343953926634992332820282019728792003956564819949
 cnd ((Fld.ltN (Fld.nv a) x0) && (Fld.ltN (Fld.nv b) x0))
 (K (AV.w64 4 (Fld.fes (((Fld.nv a) + (Fld.nv b)) % x0))) [])) := by kernel_rfl

theorem lsub_eq (a b : List UInt64) (K : AV → Heap → Prop) : walk Tryd.E RR T6.C (fun _ _ => .unroll 6) 3 37 [.w64 4 a, .w64 4 b] K = (
 let x0 : Nat := 57896044618658097711785492504343953926634992332820282019728792003956564819949
 cnd ((Fld.ltN (Fld.nv a) x0) && (Fld.ltN (Fld.nv b) x0))
 (K (AV.w64 4 (Fld.fes ((((Fld.nv a) + x0) - (Fld.nv b)) % x0))) [])) := by kernel_rfl

theorem lmul_eq (a b : List UInt64) (K : AV → Heap → Prop) : walk Tryd.E RR T6.C (fun _ _ => .unroll 6) 3 31 [.w64 4 a, .w64 4 b] K = (
 let x0 : Nat := 57896044618658097711785492504343953926634992332820282019728792003956564819949
 cnd ((Fld.ltN (Fld.nv a) x0) && (Fld.ltN (Fld.nv b) x0))
 (K (AV.w64 4 (Fld.fes (((Fld.nv a) * (Fld.nv b)) % x0))) [])) := by kernel_rfl

theorem lsquare_eq (a : List UInt64) (K : AV → Heap → Prop) : walk Tryd.E RR T6.C (fun _ _ => .unroll 6) 4 38 [.w64 4 a] K = (
 let x0 : Nat := 57896044618658097711785492504343953926634992332820282019728792003956564819949
 let x1 : Bool := (Fld.ltN (Fld.nv a) x0)
 cnd (x1 && x1)
 (K (AV.w64 4 (Fld.fes (((Fld.nv a) * (Fld.nv a)) % x0))) [])) := by kernel_rfl

theorem clamp_eq (k : List UInt8) (K : AV → Heap → Prop) : walk Tryd.E RR T6.C (fun _ _ => .unroll 6) 4 20 [.b8 32 k] K = (
 let x0 : List UInt8 := (List.set k 0 ((List.getD k 0 0) &&& 248))
 K (AV.b8 32 (List.set x0 31 (((List.getD x0 31 0) &&& 127) ||| 64))) []) := by kernel_rfl

end Go.Proofs.YtfjmpdoidkblcaaDoor

set_option linter.unusedSimpArgs false
set_option linter.unusedVariables false
namespace Go.Proofs.YtfjmpdoidkblcaaDoor
open Go Go.V Go.Fld
set_option maxRecDepth 100000

theorem HCall.of_agg {P : Program} {G : Env P} {f : FuncId} {a b c d : List UInt64} {r : List AV} {out : Out} (hp : pureL (.agg [.agg [.w64 4 a, .w64 4 b], .agg [.w64 4 c, .w64 4 d]] :: r) = true) (ho : out.okB = true)
    (h : a.length = 4 → b.length = 4 → c.length = 4 → d.length = 4 → HCall G f (.agg [.agg [.w64 4 a, .w64 4 b], .agg [.w64 4 c, .w64 4 d]] :: r) out) : HCall G f (.agg [.agg [.w64 4 a, .w64 4 b], .agg [.w64 4 c, .w64 4 d]] :: r) out := by
  refine ⟨hp, ho, fun ρ I w vs c' rv => ?_⟩
  obtain ⟨x, xs, _, h1, _⟩ := RV_cons.1 rv
  obtain ⟨cs, _, h2⟩ := rel_agg.1 h1
  obtain ⟨y1, z1, _, k1, h3⟩ := RL_cons.1 h2
  obtain ⟨y2, z2, _, k2, h4⟩ := RL_cons.1 h3
  obtain ⟨_, _, _, l1, k1⟩ := RL_cons.1 (show RL ρ I w _ y1 from k1)
  obtain ⟨_, _, _, l2, k1⟩ := RL_cons.1 k1
  obtain ⟨_, _, _, l3, k2⟩ := RL_cons.1 (show RL ρ I w _ y2 from k2)
  obtain ⟨_, _, _, l4, k2⟩ := RL_cons.1 k2
  exact (h l1.2 l2.2 l3.2 l4.2).call ρ I w vs c' rv

theorem ladd_c (a b : List UInt64) (ha : nv a < prm) (hb : nv b < prm) : HCall Tryd.E 36 [.w64 4 a, .w64 4 b] (.ret (.w64 4 (fes (addm (nv a) (nv b)))) []) := by
  refine HCall.of_walk (R := RR) (T := T6) (fun _ _ => .unroll 6) 3 rfl rfl ?_
  rw [ladd_eq]
  simp only [hprm, ltN_eq, decide_eq_true ha, decide_eq_true hb, Bool.and_self, cnd_true]
  exact ⟨rfl, rfl⟩
theorem lsub_c (a b : List UInt64) (ha : nv a < prm) (hb : nv b < prm) : HCall Tryd.E 37 [.w64 4 a, .w64 4 b] (.ret (.w64 4 (fes (subm (nv a) (nv b)))) []) := by
  refine HCall.of_walk (R := RR) (T := T6) (fun _ _ => .unroll 6) 3 rfl rfl ?_
  rw [lsub_eq]
  simp only [hprm, ltN_eq, decide_eq_true ha, decide_eq_true hb, Bool.and_self, cnd_true]
  exact ⟨rfl, rfl⟩
theorem lmul_c (a b : List UInt64) (ha : nv a < prm) (hb : nv b < prm) : HCall Tryd.E 31 [.w64 4 a, .w64 4 b] (.ret (.w64 4 (fes (mulm (nv a) (nv b)))) []) := by
  refine HCall.of_walk (R := RR) (T := T6) (fun _ _ => .unroll 6) 3 rfl rfl ?_
  rw [lmul_eq]
  simp only [hprm, ltN_eq, decide_eq_true ha, decide_eq_true hb, Bool.and_self, cnd_true]
  exact ⟨rfl, rfl⟩
theorem lsquare_c (a : List UInt64) (ha : nv a < prm) : HCall Tryd.E 38 [.w64 4 a] (.ret (.w64 4 (fes (mulm (nv a) (nv a)))) []) := by
  refine HCall.of_walk (R := RR) (T := T6) (fun _ _ => .unroll 6) 4 rfl rfl ?_
  rw [lsquare_eq]
  simp only [hprm, ltN_eq, decide_eq_true ha, Bool.and_self, cnd_true]
  exact ⟨rfl, rfl⟩
theorem clamp_c (k : List UInt8) : HCall Tryd.E 20 [.b8 32 k] (.ret (.b8 32 (clampB k)) []) := by
  refine HCall.of_walk (R := RR) (T := T6) (fun _ _ => .unroll 6) 4 rfl rfl ?_
  rw [clamp_eq]
  refine ⟨?_, rfl⟩
  simp only [clampB, List.getD_eq_getElem?_getD, List.getElem?_set]
  simp

def sw (m a b : UInt64) : UInt64 := a ^^^ ((0 - m) &&& (a ^^^ b))
def sv (m a b : UInt64) : UInt64 := b ^^^ ((0 - m) &&& (a ^^^ b))
theorem swapped_w (a0 a1 a2 a3 b0 b1 b2 b3 c0 c1 c2 c3 d0 d1 d2 d3 m : UInt64) (K : AV → Heap → Prop) : walk Tryd.E RR T6.C (fun _ _ => .unroll 6) 3 29 [.agg [.agg [.w64 4 [a0, a1, a2, a3], .w64 4 [b0, b1, b2, b3]], .agg [.w64 4 [c0, c1, c2, c3], .w64 4 [d0, d1, d2, d3]]], .u64 m] K =
    K (.agg [.agg [.w64 4 [sw m a0 b0, sw m a1 b1, sw m a2 b2, sw m a3 b3], .w64 4 [sv m a0 b0, sv m a1 b1, sv m a2 b2, sv m a3 b3]], .agg [.w64 4 [sw m c0 d0, sw m c1 d1, sw m c2 d2, sw m c3 d3], .w64 4 [sv m c0 d0, sv m c1 d1, sv m c2 d2, sv m c3 d3]]]) [] := by kernel_rfl
theorem sw0 (a b : UInt64) : sw 0 a b = a := by simp [sw]
theorem sv0 (a b : UInt64) : sv 0 a b = b := by simp [sv]
theorem sw1 (a b : UInt64) : sw 1 a b = b := by
  have : (0 : UInt64) - 1 = -1 := by decide
  simp [sw, this, ← UInt64.xor_assoc]
theorem sv1 (a b : UInt64) : sv 1 a b = a := by
  have : (0 : UInt64) - 1 = -1 := by decide
  have h : b ^^^ (a ^^^ b) = a := by rw [UInt64.xor_comm a b, ← UInt64.xor_assoc]; simp
  simp [sv, this, h]
theorem swapped_c (a b c d : List UInt64) (m : UInt64) (hm : m = 0 ∨ m = 1) : HCall Tryd.E 29 [.agg [.agg [.w64 4 a, .w64 4 b], .agg [.w64 4 c, .w64 4 d]], .u64 m]
    (.ret (.agg [.agg [.w64 4 (cond (m == 1) b a), .w64 4 (cond (m == 1) a b)], .agg [.w64 4 (cond (m == 1) d c), .w64 4 (cond (m == 1) c d)]]) []) := by
  refine HCall.of_agg rfl rfl fun ha hb hc hd => ?_
  rw [eta4 ha, eta4 hb, eta4 hc, eta4 hd]
  refine HCall.of_walk (R := RR) (T := T6) (fun _ _ => .unroll 6) 3 rfl rfl ?_
  rw [swapped_w]
  rcases hm with rfl | rfl
  · simp only [sw0, sv0]; exact ⟨rfl, rfl⟩
  · simp only [sw1, sv1]; exact ⟨rfl, rfl⟩

noncomputable def T7 : Ctr Tryd.E := (((((T6.add 36 (fun
    | [.w64 4 a, .w64 4 b] => some (ltN (nv a) prm && ltN (nv b) prm, .ret (.w64 4 (fes (addm (nv a) (nv b)))) [])
    | _ => none) (by
      intro args pre out h hp
      split at h
      · simp only [Option.some.injEq, Prod.mk.injEq] at h
        obtain ⟨rfl, rfl⟩ := h
        simp only [Bool.and_eq_true, ltN_eq, decide_eq_true_eq] at hp
        exact ladd_c _ _ hp.1 hp.2
      · simp at h)).add 37 (fun
    | [.w64 4 a, .w64 4 b] => some (ltN (nv a) prm && ltN (nv b) prm, .ret (.w64 4 (fes (subm (nv a) (nv b)))) [])
    | _ => none) (by
      intro args pre out h hp
      split at h
      · simp only [Option.some.injEq, Prod.mk.injEq] at h
        obtain ⟨rfl, rfl⟩ := h
        simp only [Bool.and_eq_true, ltN_eq, decide_eq_true_eq] at hp
        exact lsub_c _ _ hp.1 hp.2
      · simp at h)).add 31 (fun
    | [.w64 4 a, .w64 4 b] => some (ltN (nv a) prm && ltN (nv b) prm, .ret (.w64 4 (fes (mulm (nv a) (nv b)))) [])
    | _ => none) (by
      intro args pre out h hp
      split at h
      · simp only [Option.some.injEq, Prod.mk.injEq] at h
        obtain ⟨rfl, rfl⟩ := h
        simp only [Bool.and_eq_true, ltN_eq, decide_eq_true_eq] at hp
        exact lmul_c _ _ hp.1 hp.2
      · simp at h)).add 38 (fun
    | [.w64 4 a] => some (ltN (nv a) prm, .ret (.w64 4 (fes (mulm (nv a) (nv a)))) [])
    | _ => none) (by
      intro args pre out h hp
      split at h
      · simp only [Option.some.injEq, Prod.mk.injEq] at h
        obtain ⟨rfl, rfl⟩ := h
        simp only [ltN_eq, decide_eq_true_eq] at hp
        exact lsquare_c _ hp
      · simp at h)).add 20 (fun
    | [.b8 32 k] => some (true, .ret (.b8 32 (clampB k)) [])
    | _ => none) (by
      intro args pre out h hp
      split at h
      · simp only [Option.some.injEq, Prod.mk.injEq] at h
        obtain ⟨rfl, rfl⟩ := h
        exact clamp_c _
      · simp at h)).add 29 (fun
    | [.agg [.agg [.w64 4 a, .w64 4 b], .agg [.w64 4 c, .w64 4 d]], .u64 m] => some (m == 0 || m == 1, .ret (.agg [.agg [.w64 4 (cond (m == 1) b a), .w64 4 (cond (m == 1) a b)], .agg [.w64 4 (cond (m == 1) d c), .w64 4 (cond (m == 1) c d)]]) [])
    | _ => none) (by
      intro args pre out h hp
      split at h
      · simp only [Option.some.injEq, Prod.mk.injEq] at h
        obtain ⟨rfl, rfl⟩ := h
        simp only [Bool.or_eq_true, beq_iff_eq] at hp
        exact swapped_c _ _ _ _ _ hp
      · simp at h)
end Go.Proofs.YtfjmpdoidkblcaaDoor

set_option linter.unusedSimpArgs false
set_option linter.unusedVariables false
namespace Go.Proofs.YtfjmpdoidkblcaaDoor
open Go Go.V Go.Fld
set_option maxHeartbeats 0
set_option maxRecDepth 100000

theorem step_eq (p0 p1 q0 q1 u : Nat) (K : AV → Heap → Prop) : walk Tryd.E RR T7.C (fun _ _ => .unroll 6) 5 30 [.agg [.agg [.w64 4 (fes p0), .w64 4 (fes p1)], .agg [.w64 4 (fes q0), .w64 4 (fes q1)]], .w64 4 (fes u)] K = (
 let x0 : Nat := (Fld.nv (Fld.fes p0))
 let x1 : Nat := 57896044618658097711785492504343953926634992332820282019728792003956564819949
 let x2 : Nat := (Fld.nv (Fld.fes q0))
 let x3 : Bool := (Fld.ltN x0 x1) && (Fld.ltN x2 x1)
 let x4 : Nat := (Fld.nv (Fld.fes p1))
 let x5 : Nat := (Fld.nv (Fld.fes q1))
 let x6 : Bool := (Fld.ltN x4 x1) && (Fld.ltN x5 x1)
 let x7 : Nat := (Fld.nv (Fld.fes (Fld.addm x0 x2)))
 let x8 : Bool := Fld.ltN x7 x1
 let x9 : Nat := (Fld.nv (Fld.fes (Fld.subm x0 x2)))
 let x10 : Bool := Fld.ltN x9 x1
 let x11 : Nat := (Fld.nv (Fld.fes (Fld.mulm x7 x7)))
 let x12 : Bool := (Fld.ltN x11 x1)
 let x13 : Nat := (Fld.nv (Fld.fes (Fld.mulm x9 x9)))
 let x14 : Bool := x12 && (Fld.ltN x13 x1)
 let x15 : Nat := (Fld.nv (Fld.fes (Fld.subm x4 x5)))
 let x16 : Nat := (Fld.nv (Fld.fes (Fld.addm x4 x5)))
 let x17 : Nat := (Fld.nv (Fld.fes (Fld.mulm x15 x7)))
 let x18 : Nat := (Fld.nv (Fld.fes (Fld.mulm x16 x9)))
 let x19 : Bool := (Fld.ltN x17 x1) && (Fld.ltN x18 x1)
 let x20 : Nat := (Fld.nv (Fld.fes (Fld.addm x17 x18)))
 let x21 : Nat := (Fld.nv (Fld.fes (Fld.subm x11 x13)))
 let x22 : Bool := (Fld.ltN x21 x1)
 let x23 : Nat := (Fld.nv (Fld.fes (Fld.mulm 121665 x21)))
 let x24 : Nat := (Fld.nv (Fld.fes (Fld.addm x11 x23)))
 let x25 : Nat := (Fld.nv (Fld.fes (Fld.subm x17 x18)))
 let x26 : Nat := (Fld.nv (Fld.fes u))
 let x27 : Nat := (Fld.nv (Fld.fes (Fld.mulm x25 x25)))
 cnd (x3)
 (cnd (x3)
 (cnd (x6)
 (cnd (x6)
 (cnd (x8)
 (cnd (x10)
 (cnd (x14)
 (cnd ((Fld.ltN x15 x1) && x8)
 (cnd ((Fld.ltN x16 x1) && x10)
 (cnd (x14)
 (cnd (x19)
 (cnd (Fld.ltN x20 x1)
 (cnd ((Fld.ltN 121665 x1) && x22)
 (cnd (x12 && (Fld.ltN x23 x1))
 (cnd (x22 && (Fld.ltN x24 x1))
 (cnd (x19)
 (cnd (Fld.ltN x25 x1)
 (cnd ((Fld.ltN x26 x1) && (Fld.ltN x27 x1))
 (K (AV.agg [AV.agg [AV.w64 4 (Fld.fes (Fld.mulm x11 x13)), AV.w64 4 (Fld.fes (Fld.mulm x20 x20))], AV.agg [AV.w64 4 (Fld.fes (Fld.mulm x21 x24)), AV.w64 4 (Fld.fes (Fld.mulm x26 x27))]]) []))))))))))))))))))) := by kernel_rfl

end Go.Proofs.YtfjmpdoidkblcaaDoor

set_option linter.unusedSimpArgs false
set_option linter.unusedVariables false
namespace Go.Proofs.YtfjmpdoidkblcaaDoor
open Go Go.V Go.Fld
set_option maxRecDepth 100000

noncomputable def rgA (r : Rg) : AV := .agg [.agg [.w64 4 (fes r.x0), .w64 4 (fes r.x1)], .agg [.w64 4 (fes r.z0), .w64 4 (fes r.z1)]]

theorem nv_addm (a b : Nat) : nv (fes (addm a b)) = addm a b := nv_mod _
theorem nv_subm (a b : Nat) : nv (fes (subm a b)) = subm a b := nv_mod _
theorem nv_mulm (a b : Nat) : nv (fes (mulm a b)) = mulm a b := nv_mod _
theorem ltN_addm (a b : Nat) : ltN (addm a b) prm = true := ltN_mod _
theorem ltN_subm (a b : Nat) : ltN (subm a b) prm = true := ltN_mod _
theorem ltN_mulm (a b : Nat) : ltN (mulm a b) prm = true := ltN_mod _
theorem nv_fesp {a : Nat} (h : a < prm) : nv (fes a) = a := nv_fes (Nat.lt_trans h prm_top)
theorem ltN_p {a : Nat} (h : a < prm) : ltN a prm = true := by rw [ltN_eq]; exact decide_eq_true h

theorem step_c0 (x0 x1 z0 z1 u : Nat) (h0 : x0 < prm) (h1 : x1 < prm) (h2 : z0 < prm) (h3 : z1 < prm) (h4 : u < prm) :
    HCall Tryd.E 30 [.agg [.agg [.w64 4 (fes x0), .w64 4 (fes x1)], .agg [.w64 4 (fes z0), .w64 4 (fes z1)]], .w64 4 (fes u)]
    (.ret (rgA (Rg.step u ⟨x0, x1, z0, z1⟩)) []) := by
  refine HCall.of_walk (R := RR) (T := T7) (fun _ _ => .unroll 6) 5 rfl rfl ?_
  rw [step_eq]
  simp only [hprm, nv_addm, nv_subm, nv_mulm, ltN_addm, ltN_subm, ltN_mulm, nv_fesp h0, nv_fesp h1, nv_fesp h2, nv_fesp h3, nv_fesp h4, ltN_p h0, ltN_p h1, ltN_p h2, ltN_p h3, ltN_p h4, ltN_p (show 121665 < prm by decide), Bool.and_self, cnd_true]
  exact ⟨rfl, rfl⟩

theorem step_c (a b c d u : List UInt64) (h0 : nv a < prm) (h1 : nv b < prm) (h2 : nv c < prm) (h3 : nv d < prm) (h4 : nv u < prm) :
    HCall Tryd.E 30 [.agg [.agg [.w64 4 a, .w64 4 b], .agg [.w64 4 c, .w64 4 d]], .w64 4 u]
    (.ret (rgA (Rg.step (nv u) ⟨nv a, nv b, nv c, nv d⟩)) []) := by
  refine HCall.of_len rfl rfl fun hl => ?_
  refine HCall.of_agg rfl rfl fun ha hb hc hd => ?_
  have hu : u.length = 4 := hl (.w64 4 u) (by simp)
  have := step_c0 _ _ _ _ _ h0 h1 h2 h3 h4
  rw [fes_nv ha, fes_nv hb, fes_nv hc, fes_nv hd, fes_nv hu] at this
  exact this

noncomputable def T8 : Ctr Tryd.E := T7.add 30 (fun
    | [.agg [.agg [.w64 4 a, .w64 4 b], .agg [.w64 4 c, .w64 4 d]], .w64 4 u] => some ((ltN (nv a) prm && ltN (nv b) prm) && (ltN (nv c) prm && ltN (nv d) prm) && ltN (nv u) prm, .ret (rgA (Rg.step (nv u) ⟨nv a, nv b, nv c, nv d⟩)) [])
    | _ => none) (by
      intro args pre out h hp
      split at h
      · simp only [Option.some.injEq, Prod.mk.injEq] at h
        obtain ⟨rfl, rfl⟩ := h
        simp only [Bool.and_eq_true, ltN_eq, decide_eq_true_eq] at hp
        exact step_c _ _ _ _ _ hp.1.1.1 hp.1.1.2 hp.1.2.1 hp.1.2.2 hp.2
      · simp at h)

def bitU (b : Bool) : UInt64 := cond b 1 0
noncomputable def multT (k u : List UInt8) (n : Nat) : List AV := [.b8 32 k, .b8 32 u, .ptr 0 0, .ptr 1 0, .ptr 2 0, .bool false, .ptr 3 0, .ptr 4 0, .u64 (bitU (lastB (clampB k) n)), .int .i64 (254 - n)] ++ List.replicate 60 .any
noncomputable def multH (k u : List UInt8) (n : Nat) : Heap := [.blk [.b8 32 (clampB k)] [], .blk [.b8 32 u] [], .blk [.b8 32 [0, 0, 0, 0, 0, 0, 0, 0, 0, 0, 0, 0, 0, 0, 0, 0, 0, 0, 0, 0, 0, 0, 0, 0, 0, 0, 0, 0, 0, 0, 0, 0]] [], .blk [.w64 4 (fes (fromN u))] [], .blk [rgA (lad (clampB k) (fromN u) n)] []]
end Go.Proofs.YtfjmpdoidkblcaaDoor

set_option linter.unusedSimpArgs false
set_option linter.unusedVariables false
namespace Go.Proofs.YtfjmpdoidkblcaaDoor
open Go Go.V Go.Fld
set_option maxHeartbeats 0
set_option maxRecDepth 100000

theorem mult_eq (k u : List UInt8) (K : AV → Heap → Prop) : walk Tryd.E RR T8.C (fun f l => bif f == 19 && l == 6 then .inv Nat (fun n => n ≤ 255) (fun n => 255 - n) (multT k u) (multH k u) else .unroll 6) 5 19 [.b8 32 k, .b8 32 u] K = (
 let x0 : List UInt8 := (Fld.clampB k)
 let x1 : List UInt8 := [0, 0, 0, 0, 0, 0, 0, 0, 0, 0, 0, 0, 0, 0, 0, 0, 0, 0, 0, 0, 0, 0, 0, 0, 0, 0, 0, 0, 0, 0, 0, 0]
 let x2 : Nat := (Fld.fromN u)
 let x3 : Nat := 57896044618658097711785492504343953926634992332820282019728792003956564819949
 let x4 : Nat := (Fld.nv (Fld.fes x2))
(∃ a : Nat, (Nat.le a 255) ∧ ((AV.b8 32 k = AV.b8 32 k) ∧ ((AV.b8 32 u = AV.b8 32 u) ∧ ((AV.bool Bool.false = AV.bool Bool.false) ∧ ((AV.u64 0 = AV.u64 (Proofs.YtfjmpdoidkblcaaDoor.bitU (Fld.lastB x0 a))) ∧ ((AV.int IntKind.i64 254 = AV.int IntKind.i64 (254 - ((a : Nat) : Int))) ∧ ((AV.b8 32 x0 = AV.b8 32 x0) ∧ ((AV.b8 32 u = AV.b8 32 u) ∧ ((AV.b8 32 x1 = AV.b8 32 x1) ∧ ((AV.w64 4 (Fld.fes x2) = AV.w64 4 (Fld.fes x2)) ∧ ((AV.agg [AV.agg [AV.w64 4 (List.set [0, 0, 0, 0] 0 1), AV.w64 4 (Fld.fes x2)], AV.agg [AV.w64 4 [0, 0, 0, 0], AV.w64 4 (List.set [0, 0, 0, 0] 0 1)]] = AV.agg [AV.agg [AV.w64 4 (Fld.fes (Fld.Rg.x0 (Fld.lad x0 x2 a))), AV.w64 4 (Fld.fes (Fld.Rg.x1 (Fld.lad x0 x2 a)))], AV.agg [AV.w64 4 (Fld.fes (Fld.Rg.z0 (Fld.lad x0 x2 a))), AV.w64 4 (Fld.fes (Fld.Rg.z1 (Fld.lad x0 x2 a)))]]) ∧ True))))))))))) ∧ (∀ a : Nat, (Nat.le a 255 → ite2 (Decidable.decide (0 ≤ (254 - ((a : Nat) : Int))))
 -- THEN
 (cnd (inB (IntKind.wrap IntKind.i64 (Int.tdiv (254 - ((a : Nat) : Int)) 8)) 32)
 (cnd (nnB (Int.tmod (254 - ((a : Nat) : Int)) 8))
 (cnd ((((Proofs.YtfjmpdoidkblcaaDoor.bitU (Fld.lastB x0 a)) ^^^ ((UInt8.toUInt64 (shr8 (List.getD x0 (ofs 0 (IntKind.wrap IntKind.i64 (Int.tdiv (254 - ((a : Nat) : Int)) 8))) 0) (Int.toNat (Int.tmod (254 - ((a : Nat) : Int)) 8)))) &&& 1)) == 0) || (((Proofs.YtfjmpdoidkblcaaDoor.bitU (Fld.lastB x0 a)) ^^^ ((UInt8.toUInt64 (shr8 (List.getD x0 (ofs 0 (IntKind.wrap IntKind.i64 (Int.tdiv (254 - ((a : Nat) : Int)) 8))) 0) (Int.toNat (Int.tmod (254 - ((a : Nat) : Int)) 8)))) &&& 1)) == 1))
 (cnd ((((Fld.ltN (Fld.nv (cond (((Proofs.YtfjmpdoidkblcaaDoor.bitU (Fld.lastB x0 a)) ^^^ ((UInt8.toUInt64 (shr8 (List.getD x0 (ofs 0 (IntKind.wrap IntKind.i64 (Int.tdiv (254 - ((a : Nat) : Int)) 8))) 0) (Int.toNat (Int.tmod (254 - ((a : Nat) : Int)) 8)))) &&& 1)) == 1) (Fld.fes (Fld.Rg.x1 (Fld.lad x0 x2 a))) (Fld.fes (Fld.Rg.x0 (Fld.lad x0 x2 a))))) x3) && (Fld.ltN (Fld.nv (cond (((Proofs.YtfjmpdoidkblcaaDoor.bitU (Fld.lastB x0 a)) ^^^ ((UInt8.toUInt64 (shr8 (List.getD x0 (ofs 0 (IntKind.wrap IntKind.i64 (Int.tdiv (254 - ((a : Nat) : Int)) 8))) 0) (Int.toNat (Int.tmod (254 - ((a : Nat) : Int)) 8)))) &&& 1)) == 1) (Fld.fes (Fld.Rg.x0 (Fld.lad x0 x2 a))) (Fld.fes (Fld.Rg.x1 (Fld.lad x0 x2 a))))) x3)) && ((Fld.ltN (Fld.nv (cond (((Proofs.YtfjmpdoidkblcaaDoor.bitU (Fld.lastB x0 a)) ^^^ ((UInt8.toUInt64 (shr8 (List.getD x0 (ofs 0 (IntKind.wrap IntKind.i64 (Int.tdiv (254 - ((a : Nat) : Int)) 8))) 0) (Int.toNat (Int.tmod (254 - ((a : Nat) : Int)) 8)))) &&& 1)) == 1) (Fld.fes (Fld.Rg.z1 (Fld.lad x0 x2 a))) (Fld.fes (Fld.Rg.z0 (Fld.lad x0 x2 a))))) x3) && (Fld.ltN (Fld.nv (cond (((Proofs.YtfjmpdoidkblcaaDoor.bitU (Fld.lastB x0 a)) ^^^ ((UInt8.toUInt64 (shr8 (List.getD x0 (ofs 0 (IntKind.wrap IntKind.i64 (Int.tdiv (254 - ((a : Nat) : Int)) 8))) 0) (Int.toNat (Int.tmod (254 - ((a : Nat) : Int)) 8)))) &&& 1)) == 1) (Fld.fes (Fld.Rg.z0 (Fld.lad x0 x2 a))) (Fld.fes (Fld.Rg.z1 (Fld.lad x0 x2 a))))) x3))) && (Fld.ltN x4 x3))
 ((∃ b : Nat, ((Nat.le (Nat.succ ((fun n => 255 - n) b)) ((fun n => 255 - n) a)) ∧ (Nat.le b 255)) ∧ ((AV.b8 32 k = AV.b8 32 k) ∧ ((AV.b8 32 u = AV.b8 32 u) ∧ ((AV.bool Bool.false = AV.bool Bool.false) ∧ ((AV.u64 ((UInt8.toUInt64 (shr8 (List.getD x0 (ofs 0 (IntKind.wrap IntKind.i64 (Int.tdiv (254 - ((a : Nat) : Int)) 8))) 0) (Int.toNat (Int.tmod (254 - ((a : Nat) : Int)) 8)))) &&& 1) = AV.u64 (Proofs.YtfjmpdoidkblcaaDoor.bitU (Fld.lastB x0 b))) ∧ ((AV.int IntKind.i64 (IntKind.wrap IntKind.i64 ((254 - ((a : Nat) : Int)) - 1)) = AV.int IntKind.i64 (254 - ((b : Nat) : Int))) ∧ ((AV.b8 32 x0 = AV.b8 32 x0) ∧ ((AV.b8 32 u = AV.b8 32 u) ∧ ((AV.b8 32 x1 = AV.b8 32 x1) ∧ ((AV.w64 4 (Fld.fes x2) = AV.w64 4 (Fld.fes x2)) ∧ ((AV.agg [AV.agg [AV.w64 4 (Fld.fes (Fld.Rg.x0 (Fld.Rg.step x4 (Fld.Rg.mk (Fld.nv (cond (((Proofs.YtfjmpdoidkblcaaDoor.bitU (Fld.lastB x0 a)) ^^^ ((UInt8.toUInt64 (shr8 (List.getD x0 (ofs 0 (IntKind.wrap IntKind.i64 (Int.tdiv (254 - ((a : Nat) : Int)) 8))) 0) (Int.toNat (Int.tmod (254 - ((a : Nat) : Int)) 8)))) &&& (UInt64.ofNat (Int.toNat 1)))) == 1) (Fld.fes (Fld.Rg.x1 (Fld.lad x0 x2 a))) (Fld.fes (Fld.Rg.x0 (Fld.lad x0 x2 a))))) (Fld.nv (cond (((Proofs.YtfjmpdoidkblcaaDoor.bitU (Fld.lastB x0 a)) ^^^ ((UInt8.toUInt64 (shr8 (List.getD x0 (ofs 0 (IntKind.wrap IntKind.i64 (Int.tdiv (254 - ((a : Nat) : Int)) 8))) 0) (Int.toNat (Int.tmod (254 - ((a : Nat) : Int)) 8)))) &&& (UInt64.ofNat (Int.toNat 1)))) == 1) (Fld.fes (Fld.Rg.x0 (Fld.lad x0 x2 a))) (Fld.fes (Fld.Rg.x1 (Fld.lad x0 x2 a))))) (Fld.nv (cond (((Proofs.YtfjmpdoidkblcaaDoor.bitU (Fld.lastB x0 a)) ^^^ ((UInt8.toUInt64 (shr8 (List.getD x0 (ofs 0 (IntKind.wrap IntKind.i64 (Int.tdiv (254 - ((a : Nat) : Int)) 8))) 0) (Int.toNat (Int.tmod (254 - ((a : Nat) : Int)) 8)))) &&& (UInt64.ofNat (Int.toNat 1)))) == 1) (Fld.fes (Fld.Rg.z1 (Fld.lad x0 x2 a))) (Fld.fes (Fld.Rg.z0 (Fld.lad x0 x2 a))))) (Fld.nv (cond (((Proofs.YtfjmpdoidkblcaaDoor.bitU (Fld.lastB x0 a)) ^^^ ((UInt8.toUInt64 (shr8 (List.getD x0 (ofs 0 (IntKind.wrap IntKind.i64 (Int.tdiv (254 - ((a : Nat) : Int)) 8))) 0) (Int.toNat (Int.tmod (254 - ((a : Nat) : Int)) 8)))) &&& (UInt64.ofNat (Int.toNat 1)))) == 1) (Fld.fes (Fld.Rg.z0 (Fld.lad x0 x2 a))) (Fld.fes (Fld.Rg.z1 (Fld.lad x0 x2 a))))))))), AV.w64 4 (Fld.fes (Fld.Rg.x1 (Fld.Rg.step x4 (Fld.Rg.mk (Fld.nv (cond (((Proofs.YtfjmpdoidkblcaaDoor.bitU (Fld.lastB x0 a)) ^^^ ((UInt8.toUInt64 (shr8 (List.getD x0 (ofs 0 (IntKind.wrap IntKind.i64 (Int.tdiv (254 - ((a : Nat) : Int)) 8))) 0) (Int.toNat (Int.tmod (254 - ((a : Nat) : Int)) 8)))) &&& (UInt64.ofNat (Int.toNat 1)))) == 1) (Fld.fes (Fld.Rg.x1 (Fld.lad x0 x2 a))) (Fld.fes (Fld.Rg.x0 (Fld.lad x0 x2 a))))) (Fld.nv (cond (((Proofs.YtfjmpdoidkblcaaDoor.bitU (Fld.lastB x0 a)) ^^^ ((UInt8.toUInt64 (shr8 (List.getD x0 (ofs 0 (IntKind.wrap IntKind.i64 (Int.tdiv (254 - ((a : Nat) : Int)) 8))) 0) (Int.toNat (Int.tmod (254 - ((a : Nat) : Int)) 8)))) &&& (UInt64.ofNat (Int.toNat 1)))) == 1) (Fld.fes (Fld.Rg.x0 (Fld.lad x0 x2 a))) (Fld.fes (Fld.Rg.x1 (Fld.lad x0 x2 a))))) (Fld.nv (cond (((Proofs.YtfjmpdoidkblcaaDoor.bitU (Fld.lastB x0 a)) ^^^ ((UInt8.toUInt64 (shr8 (List.getD x0 (ofs 0 (IntKind.wrap IntKind.i64 (Int.tdiv (254 - ((a : Nat) : Int)) 8))) 0) (Int.toNat (Int.tmod (254 - ((a : Nat) : Int)) 8)))) &&& (UInt64.ofNat (Int.toNat 1)))) == 1) (Fld.fes (Fld.Rg.z1 (Fld.lad x0 x2 a))) (Fld.fes (Fld.Rg.z0 (Fld.lad x0 x2 a))))) (Fld.nv (cond (((Proofs.YtfjmpdoidkblcaaDoor.bitU (Fld.lastB x0 a)) ^^^ ((UInt8.toUInt64 (shr8 (List.getD x0 (ofs 0 (IntKind.wrap IntKind.i64 (Int.tdiv (254 - ((a : Nat) : Int)) 8))) 0) (Int.toNat (Int.tmod (254 - ((a : Nat) : Int)) 8)))) &&& (UInt64.ofNat (Int.toNat 1)))) == 1) (Fld.fes (Fld.Rg.z0 (Fld.lad x0 x2 a))) (Fld.fes (Fld.Rg.z1 (Fld.lad x0 x2 a)))))))))], AV.agg [AV.w64 4 (Fld.fes (Fld.Rg.z0 (Fld.Rg.step x4 (Fld.Rg.mk (Fld.nv (cond (((Proofs.YtfjmpdoidkblcaaDoor.bitU (Fld.lastB x0 a)) ^^^ ((UInt8.toUInt64 (shr8 (List.getD x0 (ofs 0 (IntKind.wrap IntKind.i64 (Int.tdiv (254 - ((a : Nat) : Int)) 8))) 0) (Int.toNat (Int.tmod (254 - ((a : Nat) : Int)) 8)))) &&& (UInt64.ofNat (Int.toNat 1)))) == 1) (Fld.fes (Fld.Rg.x1 (Fld.lad x0 x2 a))) (Fld.fes (Fld.Rg.x0 (Fld.lad x0 x2 a))))) (Fld.nv (cond (((Proofs.YtfjmpdoidkblcaaDoor.bitU (Fld.lastB x0 a)) ^^^ ((UInt8.toUInt64 (shr8 (List.getD x0 (ofs 0 (IntKind.wrap IntKind.i64 (Int.tdiv (254 - ((a : Nat) : Int)) 8))) 0) (Int.toNat (Int.tmod (254 - ((a : Nat) : Int)) 8)))) &&& (UInt64.ofNat (Int.toNat 1)))) == 1) (Fld.fes (Fld.Rg.x0 (Fld.lad x0 x2 a))) (Fld.fes (Fld.Rg.x1 (Fld.lad x0 x2 a))))) (Fld.nv (cond (((Proofs.YtfjmpdoidkblcaaDoor.bitU (Fld.lastB x0 a)) ^^^ ((UInt8.toUInt64 (shr8 (List.getD x0 (ofs 0 (IntKind.wrap IntKind.i64 (Int.tdiv (254 - ((a : Nat) : Int)) 8))) 0) (Int.toNat (Int.tmod (254 - ((a : Nat) : Int)) 8)))) &&& (UInt64.ofNat (Int.toNat 1)))) == 1) (Fld.fes (Fld.Rg.z1 (Fld.lad x0 x2 a))) (Fld.fes (Fld.Rg.z0 (Fld.lad x0 x2 a))))) (Fld.nv (cond (((Proofs.YtfjmpdoidkblcaaDoor.bitU (Fld.lastB x0 a)) ^^^ ((UInt8.toUInt64 (shr8 (List.getD x0 (ofs 0 (IntKind.wrap IntKind.i64 (Int.tdiv (254 - ((a : Nat) : Int)) 8))) 0) (Int.toNat (Int.tmod (254 - ((a : Nat) : Int)) 8)))) &&& (UInt64.ofNat (Int.toNat 1)))) == 1) (Fld.fes (Fld.Rg.z0 (Fld.lad x0 x2 a))) (Fld.fes (Fld.Rg.z1 (Fld.lad x0 x2 a))))))))), AV.w64 4 (Fld.fes (Fld.Rg.z1 (Fld.Rg.step x4 (Fld.Rg.mk (Fld.nv (cond (((Proofs.YtfjmpdoidkblcaaDoor.bitU (Fld.lastB x0 a)) ^^^ ((UInt8.toUInt64 (shr8 (List.getD x0 (ofs 0 (IntKind.wrap IntKind.i64 (Int.tdiv (254 - ((a : Nat) : Int)) 8))) 0) (Int.toNat (Int.tmod (254 - ((a : Nat) : Int)) 8)))) &&& (UInt64.ofNat (Int.toNat 1)))) == 1) (Fld.fes (Fld.Rg.x1 (Fld.lad x0 x2 a))) (Fld.fes (Fld.Rg.x0 (Fld.lad x0 x2 a))))) (Fld.nv (cond (((Proofs.YtfjmpdoidkblcaaDoor.bitU (Fld.lastB x0 a)) ^^^ ((UInt8.toUInt64 (shr8 (List.getD x0 (ofs 0 (IntKind.wrap IntKind.i64 (Int.tdiv (254 - ((a : Nat) : Int)) 8))) 0) (Int.toNat (Int.tmod (254 - ((a : Nat) : Int)) 8)))) &&& (UInt64.ofNat (Int.toNat 1)))) == 1) (Fld.fes (Fld.Rg.x0 (Fld.lad x0 x2 a))) (Fld.fes (Fld.Rg.x1 (Fld.lad x0 x2 a))))) (Fld.nv (cond (((Proofs.YtfjmpdoidkblcaaDoor.bitU (Fld.lastB x0 a)) ^^^ ((UInt8.toUInt64 (shr8 (List.getD x0 (ofs 0 (IntKind.wrap IntKind.i64 (Int.tdiv (254 - ((a : Nat) : Int)) 8))) 0) (Int.toNat (Int.tmod (254 - ((a : Nat) : Int)) 8)))) &&& (UInt64.ofNat (Int.toNat 1)))) == 1) (Fld.fes (Fld.Rg.z1 (Fld.lad x0 x2 a))) (Fld.fes (Fld.Rg.z0 (Fld.lad x0 x2 a))))) (Fld.nv (cond (((Proofs.YtfjmpdoidkblcaaDoor.bitU (Fld.lastB x0 a)) ^^^ ((UInt8.toUInt64 (shr8 (List.getD x0 (ofs 0 (IntKind.wrap IntKind.i64 (Int.tdiv (254 - ((a : Nat) : Int)) 8))) 0) (Int.toNat (Int.tmod (254 - ((a : Nat) : Int)) 8)))) &&& (UInt64.ofNat (Int.toNat 1)))) == 1) (Fld.fes (Fld.Rg.z0 (Fld.lad x0 x2 a))) (Fld.fes (Fld.Rg.z1 (Fld.lad x0 x2 a)))))))))]] = AV.agg [AV.agg [AV.w64 4 (Fld.fes (Fld.Rg.x0 (Fld.lad x0 x2 b))), AV.w64 4 (Fld.fes (Fld.Rg.x1 (Fld.lad x0 x2 b)))], AV.agg [AV.w64 4 (Fld.fes (Fld.Rg.z0 (Fld.lad x0 x2 b))), AV.w64 4 (Fld.fes (Fld.Rg.z1 (Fld.lad x0 x2 b)))]]) ∧ True))))))))))))))))
 -- ELSE
 (cnd (((Proofs.YtfjmpdoidkblcaaDoor.bitU (Fld.lastB x0 a)) == 0) || ((Proofs.YtfjmpdoidkblcaaDoor.bitU (Fld.lastB x0 a)) == 1))
 (cnd (Fld.ltN (Fld.nv (cond ((Proofs.YtfjmpdoidkblcaaDoor.bitU (Fld.lastB x0 a)) == 1) (Fld.fes (Fld.Rg.z1 (Fld.lad x0 x2 a))) (Fld.fes (Fld.Rg.z0 (Fld.lad x0 x2 a))))) x3)
 (cnd ((Fld.ltN (Fld.nv (cond ((Proofs.YtfjmpdoidkblcaaDoor.bitU (Fld.lastB x0 a)) == 1) (Fld.fes (Fld.Rg.x1 (Fld.lad x0 x2 a))) (Fld.fes (Fld.Rg.x0 (Fld.lad x0 x2 a))))) x3) && (Fld.ltN (Fld.nv (Fld.fes (((Fld.nv (cond ((Proofs.YtfjmpdoidkblcaaDoor.bitU (Fld.lastB x0 a)) == 1) (Fld.fes (Fld.Rg.z1 (Fld.lad x0 x2 a))) (Fld.fes (Fld.Rg.z0 (Fld.lad x0 x2 a))))) ^ 57896044618658097711785492504343953926634992332820282019728792003956564819947) % x3))) x3))
 (cnd (Fld.ltN (Fld.nv (Fld.fes (Fld.mulm (Fld.nv (cond ((Proofs.YtfjmpdoidkblcaaDoor.bitU (Fld.lastB x0 a)) == 1) (Fld.fes (Fld.Rg.x1 (Fld.lad x0 x2 a))) (Fld.fes (Fld.Rg.x0 (Fld.lad x0 x2 a))))) (Fld.nv (Fld.fes (((Fld.nv (cond ((Proofs.YtfjmpdoidkblcaaDoor.bitU (Fld.lastB x0 a)) == 1) (Fld.fes (Fld.Rg.z1 (Fld.lad x0 x2 a))) (Fld.fes (Fld.Rg.z0 (Fld.lad x0 x2 a))))) ^ 57896044618658097711785492504343953926634992332820282019728792003956564819947) % x3)))))) x3)
 (K (AV.tup [AV.b8 32 (Fld.bytesS (Fld.nv (Fld.fes (Fld.mulm (Fld.nv (cond ((Proofs.YtfjmpdoidkblcaaDoor.bitU (Fld.lastB x0 a)) == 1) (Fld.fes (Fld.Rg.x1 (Fld.lad x0 x2 a))) (Fld.fes (Fld.Rg.x0 (Fld.lad x0 x2 a))))) (Fld.nv (Fld.fes (((Fld.nv (cond ((Proofs.YtfjmpdoidkblcaaDoor.bitU (Fld.lastB x0 a)) == 1) (Fld.fes (Fld.Rg.z1 (Fld.lad x0 x2 a))) (Fld.fes (Fld.Rg.z0 (Fld.lad x0 x2 a))))) ^ 57896044618658097711785492504343953926634992332820282019728792003956564819947) % x3))))))), AV.bool (Bool.not ((Fld.bytesS (Fld.nv (Fld.fes (Fld.mulm (Fld.nv (cond ((Proofs.YtfjmpdoidkblcaaDoor.bitU (Fld.lastB x0 a)) == 1) (Fld.fes (Fld.Rg.x1 (Fld.lad x0 x2 a))) (Fld.fes (Fld.Rg.x0 (Fld.lad x0 x2 a))))) (Fld.nv (Fld.fes (((Fld.nv (cond ((Proofs.YtfjmpdoidkblcaaDoor.bitU (Fld.lastB x0 a)) == 1) (Fld.fes (Fld.Rg.z1 (Fld.lad x0 x2 a))) (Fld.fes (Fld.Rg.z0 (Fld.lad x0 x2 a))))) ^ 57896044618658097711785492504343953926634992332820282019728792003956564819947) % x3))))))) == x1))]) [])))))))) := by kernel_rfl

end Go.Proofs.YtfjmpdoidkblcaaDoor

set_option linter.unusedSimpArgs false
set_option linter.unusedVariables false
namespace Go.Proofs.YtfjmpdoidkblcaaDoor
open Go Go.V Go.Fld
set_option maxRecDepth 100000

theorem wrap_i64_of {n : Int} (h : -9223372036854775808 ≤ n) (h2 : n ≤ 9223372036854775807) : IntKind.i64.wrap n = n := by
  have := IntKind.wrap_i64 n
  rw [this]; omega

theorem bitU_xor (a b : Bool) : bitU a ^^^ bitU b = bitU (a ^^ b) := by cases a <;> cases b <;> decide
theorem bitU_one (a : Bool) : (bitU a == 1) = a := by cases a <;> decide
theorem bitU_zero (a : Bool) : (bitU a == 0) = !a := by cases a <;> decide

theorem idx_of {a : Nat} (h : a ≤ 254) : (254 - (a : Int)).tdiv 8 = (((254 - a) / 8 : Nat) : Int) ∧ (254 - (a : Int)).tmod 8 = (((254 - a) % 8 : Nat) : Int) := by
  have e : 254 - (a : Int) = ((254 - a : Nat) : Int) := by omega
  rw [e]
  exact ⟨by rw [Int.tdiv_eq_ediv_of_nonneg (by omega)]; omega, by rw [Int.tmod_eq_emod_of_nonneg (by omega)]; omega⟩

theorem bit_eq (k : List UInt8) {a : Nat} (h : a ≤ 254) : (shr8 (k.getD (ofs 0 (IntKind.i64.wrap ((254 - (a : Int)).tdiv 8))) 0) ((254 - (a : Int)).tmod 8).toNat).toUInt64 &&& 1 = bitU (kbit k (254 - a)) := by
  obtain ⟨e1, e2⟩ := idx_of h
  rw [e1, e2, wrap_i64_of (by omega) (by omega), ofs_eq, Int.toNat_natCast, Int.toNat_natCast, Nat.zero_add, kbit]
  generalize k.getD ((254 - a) / 8) 0 = x
  generalize (254 - a) % 8 = j
  apply UInt64.toNat_inj.1
  have hx : x.toNat / 2 ^ j < 256 := Nat.lt_of_le_of_lt (Nat.div_le_self _ _) x.toNat_lt
  rw [UInt64.toNat_and, UInt8.toNat_toUInt64, shr8, UInt8.toNat_ofNat', Nat.mod_eq_of_lt hx, show (1 : UInt64).toNat = 2 ^ 1 - 1 from rfl, Nat.and_two_pow_sub_one_eq_mod]
  rcases Nat.mod_two_eq_zero_or_one (x.toNat / 2 ^ j) with h | h <;> rw [Nat.pow_one, h] <;> rfl

theorem multN_eq (k : List UInt8) (u n e : Nat) (h : n = 255) (he : prm - 2 = e) : multN k u = mulm (cond (lastB k n) (lad k u n).x1 (lad k u n).x0) (cond (lastB k n) (lad k u n).z1 (lad k u n).z0 ^ e % prm) := by
  rw [multN, ladEnd, ← h, he]
  generalize lad k u n = r
  cases lastB k n <;> rfl

theorem mult_fin (b : Bool) (r : Rg) (e : Nat) (l0 : r.x0 < prm) (l1 : r.x1 < prm) (l2 : r.z0 < prm) (l3 : r.z1 < prm) :
    cnd (ltN (nv (cond b (fes r.z1) (fes r.z0))) prm)
      (cnd (ltN (nv (cond b (fes r.x1) (fes r.x0))) prm && ltN (nv (fes (nv (cond b (fes r.z1) (fes r.z0)) ^ e % prm))) prm)
        (cnd (ltN (nv (fes (mulm (nv (cond b (fes r.x1) (fes r.x0))) (nv (fes (nv (cond b (fes r.z1) (fes r.z0)) ^ e % prm)))))) prm)
          ((Out.ret (.tup [.b8 32 (bytesS (mulm (cond b r.x1 r.x0) (cond b r.z1 r.z0 ^ e % prm))), .bool (!(bytesS (mulm (cond b r.x1 r.x0) (cond b r.z1 r.z0 ^ e % prm)) == List.replicate 32 0))]) []).has
            (.tup [.b8 32 (bytesS (nv (fes (mulm (nv (cond b (fes r.x1) (fes r.x0))) (nv (fes (nv (cond b (fes r.z1) (fes r.z0)) ^ e % prm))))))), .bool (!(bytesS (nv (fes (mulm (nv (cond b (fes r.x1) (fes r.x0))) (nv (fes (nv (cond b (fes r.z1) (fes r.z0)) ^ e % prm)))))) == [0, 0, 0, 0, 0, 0, 0, 0, 0, 0, 0, 0, 0, 0, 0, 0, 0, 0, 0, 0, 0, 0, 0, 0, 0, 0, 0, 0, 0, 0, 0, 0]))]) []))) := by
  cases b <;> simp only [cond_true, cond_false, nv_fesp l0, nv_fesp l1, nv_fesp l2, nv_fesp l3, ltN_p l0, ltN_p l1, ltN_p l2, ltN_p l3, nv_mod, ltN_mod, nv_mulm, ltN_mulm, Bool.and_self, cnd_true] <;> exact ⟨rfl, rfl⟩

theorem mult_c (k u : List UInt8) : HCall Tryd.E 19 [.b8 32 k, .b8 32 u]
    (.ret (.tup [.b8 32 (bytesS (multN (clampB k) (fromN u))), .bool (!(bytesS (multN (clampB k) (fromN u)) == List.replicate 32 0))]) []) := by
  refine HCall.of_walk (R := RR) (T := T8) (fun f l => bif f == 19 && l == 6 then .inv Nat (fun n => n ≤ 255) (fun n => 255 - n) (multT k u) (multH k u) else .unroll 6) 5 rfl rfl ?_
  rw [mult_eq]
  have hu := fromN_lt u
  refine ⟨⟨0, Nat.zero_le _, rfl, rfl, rfl, rfl, rfl, rfl, rfl, rfl, rfl, ?_, trivial⟩, fun a ha => ?_⟩
  · have h1 : List.set [0, 0, 0, 0] 0 1 = fes 1 := by rw [fes_eq]; rfl
    have h0 : [0, 0, 0, 0] = fes 0 := by rw [fes_eq]; rfl
    rw [h1, h0]; rfl
  have ha : a ≤ 255 := ha
  obtain ⟨l0, l1, l2, l3⟩ := lad_lt (clampB k) hu a
  rcases Nat.lt_or_ge a 255 with h | h
  · have h5 : a ≤ 254 := by omega
    obtain ⟨e1, e2⟩ := idx_of h5
    have c1 : inB (IntKind.i64.wrap ((254 - (a : Int)).tdiv 8)) 32 = true := by
      rw [e1, wrap_i64_of (by omega) (by omega)]; exact inB_of (by omega) (by omega)
    have c2 : nnB ((254 - (a : Int)).tmod 8) = true := by rw [e2]; exact nnB_iff.2 (by omega)
    have c0 : decide (0 ≤ 254 - (a : Int)) = true := decide_eq_true (by omega)
    have h1 : UInt64.ofNat (Int.toNat 1) = 1 := rfl
    simp only [c0, c1, c2, h1, bit_eq _ h5, bitU_xor, bitU_one, bitU_zero, Bool.not_or_self, cnd_true, ite2, hprm]
    have hnext : lad (clampB k) (fromN u) (a + 1) = ((lad (clampB k) (fromN u) a).swapB (lastB (clampB k) a ^^ kbit (clampB k) (254 - a))).step (fromN u) := rfl
    rw [cnd_eq]
    refine ⟨?_, a + 1, ⟨?_, Nat.succ_le_of_lt h⟩, trivial, trivial, trivial, rfl, ?_, trivial, trivial, trivial, trivial, ?_, trivial⟩
    · cases (lastB (clampB k) a ^^ kbit (clampB k) (254 - a)) <;> simp only [cond_true, cond_false, nv_fesp l0, nv_fesp l1, nv_fesp l2, nv_fesp l3, ltN_p l0, ltN_p l1, ltN_p l2, ltN_p l3, nv_fesp hu, ltN_p hu, Bool.and_self]
    · show Nat.succ (255 - (a + 1)) ≤ 255 - a
      omega
    · rw [wrap_i64_of (by omega) (by omega)]; congr 1; omega
    · rw [hnext]
      cases (lastB (clampB k) a ^^ kbit (clampB k) (254 - a)) <;> simp only [cond_true, cond_false, nv_fesp l0, nv_fesp l1, nv_fesp l2, nv_fesp l3, nv_fesp hu, Rg.swapB, Rg.swap] <;> rfl
  · have h255 : a = 255 := Nat.le_antisymm ha h
    have c0 : decide (0 ≤ 254 - (a : Int)) = false := decide_eq_false (by omega)
    obtain ⟨e, he, he'⟩ : ∃ e : Nat, 57896044618658097711785492504343953926634992332820282019728792003956564819947 = e ∧ prm - 2 = e := ⟨_, rfl, rfl⟩
    have hm := multN_eq (clampB k) (fromN u) a e h255 he'
    simp only [c0, bitU_one, bitU_zero, Bool.not_or_self, cnd_true, ite2, hprm, he]
    rw [hm]
    exact mult_fin _ _ _ l0 l1 l2 l3
end Go.Proofs.YtfjmpdoidkblcaaDoor

set_option linter.unusedSimpArgs false
set_option linter.unusedVariables false
namespace Go.Proofs.YtfjmpdoidkblcaaDoor
open Go Go.V Go.Fld
set_option maxRecDepth 100000

noncomputable abbrev RS := ROps.std Tryd.E

theorem picked_w (n : Int) (K : AV → Heap → Prop) : walk Tryd.E RR T8.C (fun _ _ => .unroll 6) 3 22 [.int .i64 n, .int .i64 2] K =
    ite2 (decide (n.tmod 2 < 0)) (K (.int .i64 (IntKind.i64.wrap (n.tmod 2 + 2))) []) (K (.int .i64 (n.tmod 2)) []) := by kernel_rfl
theorem picked_c (n : Int) : HCall Tryd.E 22 [.int .i64 n, .int .i64 2] (.alt (n % 2 == 0) (.ret (.int .i64 0) []) (.ret (.int .i64 1) [])) := by
  refine HCall.of_walk (R := RR) (T := T8) (fun _ _ => .unroll 6) 3 rfl rfl ?_
  rw [picked_w]
  have e : n.tmod 2 = 0 ∧ n % 2 = 0 ∨ n.tmod 2 = 1 ∧ n % 2 = 1 ∨ n.tmod 2 = -1 ∧ n % 2 = 1 := by
    rcases Int.lt_or_le n 0 with h | h
    · have h1 := Int.neg_tmod (a := -n) (b := 2)
      rw [Int.neg_neg] at h1
      rw [Int.tmod_eq_emod_of_nonneg (a := -n) (by omega)] at h1
      omega
    · have := Int.tmod_eq_emod_of_nonneg (a := n) (b := 2) h
      omega
  rcases e with ⟨e1, e2⟩ | ⟨e1, e2⟩ | ⟨e1, e2⟩ <;> rw [e1, e2] <;> exact ⟨rfl, rfl⟩

noncomputable def T9 : Ctr Tryd.E := (T8.add 19 (fun
    | [.b8 32 k, .b8 32 u] => some (true, .ret (.tup [.b8 32 (bytesS (multN (clampB k) (fromN u))), .bool (!(bytesS (multN (clampB k) (fromN u)) == List.replicate 32 0))]) [])
    | _ => none) (by
      intro args pre out h hp
      split at h
      · simp only [Option.some.injEq, Prod.mk.injEq] at h
        obtain ⟨rfl, rfl⟩ := h
        exact mult_c _ _
      · simp at h)).add 22 (fun
    | [.int .i64 n, .int .i64 m] => bif m == 2 then some (true, .alt (n % 2 == 0) (.ret (.int .i64 0) []) (.ret (.int .i64 1) [])) else none
    | _ => none) (by
      intro args pre out h hp
      split at h
      · rename_i n m
        cases hm : m == 2 <;> rw [hm] at h
        · simp at h
        · obtain rfl : m = 2 := by simpa using hm
          simp only [cond_true, Option.some.injEq, Prod.mk.injEq] at h
          obtain ⟨rfl, rfl⟩ := h
          exact picked_c _
      · simp at h)

theorem base_w (k : List UInt8) (K : AV → Heap → Prop) : walk Tryd.E RR T9.C (fun _ _ => .unroll 6) 3 21 [.b8 32 k] K = K (.b8 32 (bytesS (multN (clampB k) 9))) [] := by kernel_rfl
theorem base_c (k : List UInt8) : HCall Tryd.E 21 [.b8 32 k] (.ret (.b8 32 (bytesS (multN (clampB k) 9))) []) := by
  refine HCall.of_walk (R := RR) (T := T9) (fun _ _ => .unroll 6) 3 rfl rfl ?_
  rw [base_w]
  exact ⟨rfl, rfl⟩
noncomputable def T10 : Ctr Tryd.E := T9.add 21 (fun
    | [.b8 32 k] => some (true, .ret (.b8 32 (bytesS (multN (clampB k) 9))) [])
    | _ => none) (by
      intro args pre out h hp
      split at h
      · simp only [Option.some.injEq, Prod.mk.injEq] at h
        obtain ⟨rfl, rfl⟩ := h
        exact base_c _
      · simp at h)
end Go.Proofs.YtfjmpdoidkblcaaDoor

set_option linter.unusedSimpArgs false
set_option linter.unusedVariables false
namespace Go.Proofs.YtfjmpdoidkblcaaDoor
open Go Go.V Go.Fld
set_option maxHeartbeats 0
set_option maxRecDepth 100000

theorem known_eq (n : Int) (K : AV → Heap → Prop) : walk Tryd.E RS T10.C (fun _ _ => .unroll 6) 5 10 [.int .i64 n] K = (
 let x0 : List UInt8 := [0, 0, 0, 0, 0, 0, 0, 0, 0, 0, 0, 0, 0, 0, 0, 0, 0, 0, 0, 0, 0, 0, 0, 0, 0, 0, 0, 0, 0, 0, 0, 0]
 ite2 ((n % 2) == 0)
 -- THEN
 (K (AV.bool ((List.take 4 (Fld.bytesS (Fld.multN (Fld.clampB (List.set (List.set (List.set (List.set (List.set (List.set (List.set (List.set (List.set (List.set (List.set (List.set (List.set (List.set (List.set (List.set (List.set (List.set (List.set (List.set (List.set (List.set (List.set (List.set (List.set (List.set (List.set (List.set (List.set (List.set (List.set (List.set x0 0 119) 1 7) 2 109) 3 10) 4 115) 5 24) 6 165) 7 125) 8 60) 9 22) 10 193) 11 114) 12 81) 13 178) 14 102) 15 69) 16 223) 17 76) 18 47) 19 135) 20 235) 21 192) 22 153) 23 42) 24 177) 25 119) 26 251) 27 165) 28 29) 29 185) 30 44) 31 42)) 9))) == (Array.toList (ByteArray.data (ByteArray.mk (List.toArray [133, 32, 240, 9])))))) [])
 -- ELSE
 (K (AV.bool ((List.take 4 (Fld.bytesS (Fld.multN (Fld.clampB (List.set (List.set (List.set (List.set (List.set (List.set (List.set (List.set (List.set (List.set (List.set (List.set (List.set (List.set (List.set (List.set (List.set (List.set (List.set (List.set (List.set (List.set (List.set (List.set (List.set (List.set (List.set (List.set (List.set (List.set (List.set (List.set x0 0 93) 1 171) 2 8) 3 126) 4 98) 5 74) 6 138) 7 75) 8 121) 9 225) 10 127) 11 139) 12 131) 13 128) 14 14) 15 230) 16 111) 17 59) 18 177) 19 41) 20 38) 21 24) 22 182) 23 253) 24 28) 25 47) 26 139) 27 39) 28 255) 29 136) 30 224) 31 235)) 9))) == (Array.toList (ByteArray.data (ByteArray.mk (List.toArray [222, 158, 219, 125])))))) [])) := by kernel_rfl

theorem clamps_eq (k u : List UInt8) (K : AV → Heap → Prop) : walk Tryd.E RS T10.C (fun _ _ => .unroll 6) 5 8 [.b8 32 k, .b8 32 u] K = (
 let x0 : List UInt8 := (Fld.clampB k)
 let x1 : List UInt8 := (Fld.clampB x0)
 let x2 : List UInt8 := (Fld.bytesS (Fld.multN x0 (Fld.fromN u)))
 let x3 : List UInt8 := (Fld.bytesS (Fld.multN x1 (Fld.fromN (List.set u 31 ((List.getD u 31 0) ^^^ 128)))))
 let x4 : List UInt8 := (List.replicate 32 0)
 ite2 (x1 == x0)
 -- THEN
 (ite2 (cond Bool.true ((((UInt8.toNat ((List.getD x0 31 0) &&& 192)) : Nat) : Int) == 64) Bool.false)
 -- THEN
 (ite2 (cond Bool.true ((((UInt8.toNat ((List.getD x0 0 0) % 8)) : Nat) : Int) == 0) Bool.false)
 -- THEN
 (ite2 (cond Bool.true (x2 == x3) Bool.false)
 -- THEN
 (K (AV.bool (cond Bool.true ((Bool.not (x2 == x4)) == (Bool.not (x3 == x4))) Bool.false)) [])
 -- ELSE
 (K (AV.bool Bool.false) []))
 -- ELSE
 (K (AV.bool Bool.false) []))
 -- ELSE
 (K (AV.bool Bool.false) []))
 -- ELSE
 (K (AV.bool Bool.false) [])) := by kernel_rfl

theorem turns_eq (a b u : List UInt8) (K : AV → Heap → Prop) : walk Tryd.E RS T10.C (fun _ _ => .unroll 6) 5 7 [.b8 32 a, .b8 32 b, .b8 32 u] K = (
 let x0 : List UInt8 := (Fld.clampB a)
 let x1 : List UInt8 := (List.replicate 32 0)
 let x2 : List UInt8 := (Fld.clampB b)
 let x3 : Nat := (Fld.fromN u)
 let x4 : List UInt8 := (Fld.bytesS (Fld.multN x0 x3))
 let x5 : List UInt8 := (Fld.bytesS (Fld.multN x2 (Fld.fromN x4)))
 let x6 : List UInt8 := (Fld.bytesS (Fld.multN x2 x3))
 let x7 : List UInt8 := (Fld.bytesS (Fld.multN x0 (Fld.fromN x6)))
 let x8 : List UInt8 := [0, 0, 0, 0, 0, 0, 0, 0, 0, 0, 0, 0, 0, 0, 0, 0, 0, 0, 0, 0, 0, 0, 0, 0, 0, 0, 0, 0, 0, 0, 0, 0]
 ite2 (Bool.not ((Fld.bytesS (Fld.multN x0 9)) == x1))
 -- THEN
 (ite2 (cond Bool.true (Bool.not (Bool.not ((Fld.bytesS (Fld.multN x0 0)) == x1))) Bool.false)
 -- THEN
 (ite2 (cond Bool.true (x5 == x7) Bool.false)
 -- THEN
 (ite2 (cond Bool.true ((Bool.not (x5 == x1)) == (Bool.not (x7 == x1))) Bool.false)
 -- THEN
 (ite2 (Bool.not (x4 == x1))
 -- THEN
 (ite2 (Bool.not (x6 == x1))
 -- THEN
 (K (AV.bool Bool.true) [])
 -- ELSE
 (K (AV.bool (cond Bool.true (cond Bool.false Bool.true (x6 == x8)) Bool.false)) []))
 -- ELSE
 (ite2 (cond Bool.true (cond Bool.false Bool.true (x4 == x8)) Bool.false)
 -- THEN
 (ite2 (Bool.not (x6 == x1))
 -- THEN
 (K (AV.bool Bool.true) [])
 -- ELSE
 (K (AV.bool (cond Bool.true (cond Bool.false Bool.true (x6 == x8)) Bool.false)) []))
 -- ELSE
 (K (AV.bool Bool.false) [])))
 -- ELSE
 (K (AV.bool Bool.false) []))
 -- ELSE
 (K (AV.bool Bool.false) []))
 -- ELSE
 (K (AV.bool Bool.false) []))
 -- ELSE
 (K (AV.bool Bool.false) [])) := by kernel_rfl

theorem agree_eq (a b : List UInt8) (K : AV → Heap → Prop) : walk Tryd.E RS T10.C (fun _ _ => .unroll 6) 5 9 [.b8 32 a, .b8 32 b] K = (
 let x0 : List UInt8 := (Fld.clampB a)
 let x1 : List UInt8 := (Fld.clampB b)
 let x2 : List UInt8 := (Fld.bytesS (Fld.multN x0 (Fld.fromN (Fld.bytesS (Fld.multN x1 9)))))
 let x3 : List UInt8 := (List.replicate 32 0)
 let x4 : List UInt8 := (Fld.bytesS (Fld.multN x1 (Fld.fromN (Fld.bytesS (Fld.multN x0 9)))))
 ite2 (Bool.not (x2 == x3))
 -- THEN
 (ite2 (cond Bool.true (Bool.not (x4 == x3)) Bool.false)
 -- THEN
 (K (AV.bool (cond Bool.true (x2 == x4) Bool.false)) [])
 -- ELSE
 (K (AV.bool Bool.false) []))
 -- ELSE
 (K (AV.bool Bool.false) [])) := by kernel_rfl

end Go.Proofs.YtfjmpdoidkblcaaDoor

set_option linter.unusedSimpArgs false
set_option linter.unusedVariables false
namespace Go.Proofs.YtfjmpdoidkblcaaDoor
open Go Go.V Go.Fld Go.Edw
set_option maxRecDepth 100000

theorem bytes_zero {n : Nat} (h : n < prm) : (bytesS n == List.replicate 32 0) = decide (n = 0) := by
  by_cases h0 : n = 0
  · subst h0
    rw [bytesS_eq, show bytesN 32 0 = List.replicate 32 0 by decide +kernel]
    simp
  · rw [decide_eq_false h0, beq_eq_false_iff_ne]
    intro e
    apply h0
    rw [bytesS_eq] at e
    have h1 := congrArg Fld.leB e
    rw [leB_bytesN 32 n (Nat.lt_trans h (by decide)), show Fld.leB (List.replicate 32 0) = 0 by decide +kernel] at h1
    exact h1

theorem dhTurns_c (a b u : List UInt8) : HCall Tryd.E 7 [.b8 32 a, .b8 32 b, .b8 32 u] (.ret (.bool true) []) := by
  refine HCall.of_len rfl rfl fun hl => ?_
  have ha : a.length = 32 := hl _ (List.mem_cons_self ..)
  refine HCall.of_walk (R := RS) (T := T10) (fun _ _ => .unroll 6) 5 rfl rfl ?_
  rw [turns_eq]
  have hrep : ([0, 0, 0, 0, 0, 0, 0, 0, 0, 0, 0, 0, 0, 0, 0, 0, 0, 0, 0, 0, 0, 0, 0, 0, 0, 0, 0, 0, 0, 0, 0, 0] : List UInt8) = List.replicate 32 0 := rfl
  have m0 := mult_zero (clampB a)
  have m1 := multN_lt
  have m9 := nine_one ha
  have mc := dh_turns (fromN_lt u) (clampB a) (clampB b)
  have z0 : (bytesS 0 == List.replicate 32 0) = true := by rw [bytes_zero (by decide)]; rfl
  have z9 : (bytesS (multN (clampB a) 9) == List.replicate 32 0) = false := by
    rw [beq_eq_false_iff_ne]
    intro e
    have := bytes_zero (multN_lt (clampB a) 9)
    rw [e, beq_self_eq_true] at this
    exact m9 (of_decide_eq_true this.symm)
  generalize multN = M at *
  simp only [hrep, from_bytes (m1 _ _), m0, z0, z9, mc, Bool.not_true, Bool.not_false, ite2, cond_true, cond_false, beq_self_eq_true]
  generalize bytesS (M (clampB a) (fromN u)) = v
  generalize bytesS (M (clampB b) (fromN u)) = w
  generalize (v == List.replicate 32 0) = p
  generalize (w == List.replicate 32 0) = q
  cases p <;> cases q <;> exact ⟨rfl, rfl⟩

theorem keysAgree_c (a b : List UInt8) : HCall Tryd.E 9 [.b8 32 a, .b8 32 b] (.ret (.bool true) []) := by
  refine HCall.of_len rfl rfl fun hl => ?_
  have ha : a.length = 32 := hl _ (List.mem_cons_self ..)
  have hb : b.length = 32 := hl (.b8 32 b) (by simp)
  refine HCall.of_walk (R := RS) (T := T10) (fun _ _ => .unroll 6) 5 rfl rfl ?_
  rw [agree_eq]
  have h9 : (9 : Nat) < prm := by decide
  have m1 := multN_lt
  have m2 := nine_two ha hb
  have mc := dh_turns h9 (clampB a) (clampB b)
  have z2 : (bytesS (multN (clampB a) (multN (clampB b) 9)) == List.replicate 32 0) = false := by
    rw [beq_eq_false_iff_ne]
    intro e
    have := bytes_zero (multN_lt (clampB a) (multN (clampB b) 9))
    rw [e, beq_self_eq_true] at this
    exact m2 (of_decide_eq_true this.symm)
  generalize multN = M at *
  simp only [from_bytes (m1 _ _), mc, z2, Bool.not_true, Bool.not_false, ite2, cond_true, cond_false, beq_self_eq_true]
  exact ⟨rfl, rfl⟩
end Go.Proofs.YtfjmpdoidkblcaaDoor
