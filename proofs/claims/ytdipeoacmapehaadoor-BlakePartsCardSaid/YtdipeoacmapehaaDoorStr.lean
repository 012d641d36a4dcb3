import Derived.Test.YtdipeoacmapehaaDoorEnv
import Derived.Test.YtdipeoacmapehaaDoorWS
import Derived.Test.YtdipeoacmapehaaDoorNums
set_option linter.unusedSimpArgs false
set_option linter.unusedVariables false
namespace Go.Proofs.YtdipeoacmapehaaDoor
open Go Go.V Go.Cha
set_option maxRecDepth 100000
noncomputable abbrev RS := ROps.std Tryd.E
noncomputable abbrev T0 := Ctr.nil Tryd.E

theorem rot_w0 (x : UInt32) (K : AV → Heap → Prop) : walk Tryd.E RS T0.C (fun _ _ => .unroll 6) 3 29 [.u32 x, .int .i64 (16)] K = K (.u32 (rotS x 16 16)) [] := by kernel_rfl
theorem rot_c0 (x : UInt32) : HCall Tryd.E 29 [.u32 x, .int .i64 (16)] (.ret (.u32 (rotS x 16 16)) []) := by
  refine HCall.of_walk (R := RS) (T := T0) (fun _ _ => .unroll 6) 3 rfl rfl ?_
  rw [rot_w0]
  exact ⟨rfl, rfl⟩
theorem rot_w1 (x : UInt32) (K : AV → Heap → Prop) : walk Tryd.E RS T0.C (fun _ _ => .unroll 6) 3 29 [.u32 x, .int .i64 (12)] K = K (.u32 (rotS x 12 20)) [] := by kernel_rfl
theorem rot_c1 (x : UInt32) : HCall Tryd.E 29 [.u32 x, .int .i64 (12)] (.ret (.u32 (rotS x 12 20)) []) := by
  refine HCall.of_walk (R := RS) (T := T0) (fun _ _ => .unroll 6) 3 rfl rfl ?_
  rw [rot_w1]
  exact ⟨rfl, rfl⟩
theorem rot_w2 (x : UInt32) (K : AV → Heap → Prop) : walk Tryd.E RS T0.C (fun _ _ => .unroll 6) 3 29 [.u32 x, .int .i64 (8)] K = K (.u32 (rotS x 8 24)) [] := by kernel_rfl
theorem rot_c2 (x : UInt32) : HCall Tryd.E 29 [.u32 x, .int .i64 (8)] (.ret (.u32 (rotS x 8 24)) []) := by
  refine HCall.of_walk (R := RS) (T := T0) (fun _ _ => .unroll 6) 3 rfl rfl ?_
  rw [rot_w2]
  exact ⟨rfl, rfl⟩
theorem rot_w3 (x : UInt32) (K : AV → Heap → Prop) : walk Tryd.E RS T0.C (fun _ _ => .unroll 6) 3 29 [.u32 x, .int .i64 (7)] K = K (.u32 (rotS x 7 25)) [] := by kernel_rfl
theorem rot_c3 (x : UInt32) : HCall Tryd.E 29 [.u32 x, .int .i64 (7)] (.ret (.u32 (rotS x 7 25)) []) := by
  refine HCall.of_walk (R := RS) (T := T0) (fun _ _ => .unroll 6) 3 rfl rfl ?_
  rw [rot_w3]
  exact ⟨rfl, rfl⟩
theorem rot_w4 (x : UInt32) (K : AV → Heap → Prop) : walk Tryd.E RS T0.C (fun _ _ => .unroll 6) 3 29 [.u32 x, .int .i64 (-16)] K = K (.u32 (rotS x 16 16)) [] := by kernel_rfl
theorem rot_c4 (x : UInt32) : HCall Tryd.E 29 [.u32 x, .int .i64 (-16)] (.ret (.u32 (rotS x 16 16)) []) := by
  refine HCall.of_walk (R := RS) (T := T0) (fun _ _ => .unroll 6) 3 rfl rfl ?_
  rw [rot_w4]
  exact ⟨rfl, rfl⟩
theorem rot_w5 (x : UInt32) (K : AV → Heap → Prop) : walk Tryd.E RS T0.C (fun _ _ => .unroll 6) 3 29 [.u32 x, .int .i64 (-12)] K = K (.u32 (rotS x 20 12)) [] := by kernel_rfl
theorem rot_c5 (x : UInt32) : HCall Tryd.E 29 [.u32 x, .int .i64 (-12)] (.ret (.u32 (rotS x 20 12)) []) := by
  refine HCall.of_walk (R := RS) (T := T0) (fun _ _ => .unroll 6) 3 rfl rfl ?_
  rw [rot_w5]
  exact ⟨rfl, rfl⟩
theorem rot_w6 (x : UInt32) (K : AV → Heap → Prop) : walk Tryd.E RS T0.C (fun _ _ => .unroll 6) 3 29 [.u32 x, .int .i64 (-8)] K = K (.u32 (rotS x 24 8)) [] := by kernel_rfl
theorem rot_c6 (x : UInt32) : HCall Tryd.E 29 [.u32 x, .int .i64 (-8)] (.ret (.u32 (rotS x 24 8)) []) := by
  refine HCall.of_walk (R := RS) (T := T0) (fun _ _ => .unroll 6) 3 rfl rfl ?_
  rw [rot_w6]
  exact ⟨rfl, rfl⟩
theorem rot_w7 (x : UInt32) (K : AV → Heap → Prop) : walk Tryd.E RS T0.C (fun _ _ => .unroll 6) 3 29 [.u32 x, .int .i64 (-7)] K = K (.u32 (rotS x 25 7)) [] := by kernel_rfl
theorem rot_c7 (x : UInt32) : HCall Tryd.E 29 [.u32 x, .int .i64 (-7)] (.ret (.u32 (rotS x 25 7)) []) := by
  refine HCall.of_walk (R := RS) (T := T0) (fun _ _ => .unroll 6) 3 rfl rfl ?_
  rw [rot_w7]
  exact ⟨rfl, rfl⟩
noncomputable def T1 : Ctr Tryd.E := T0.add 29 (fun
    | [.u32 x, .int .i64 k] => bif k == 16 then some (true, .ret (.u32 (rotS x 16 16)) []) else bif k == 12 then some (true, .ret (.u32 (rotS x 12 20)) []) else bif k == 8 then some (true, .ret (.u32 (rotS x 8 24)) []) else bif k == 7 then some (true, .ret (.u32 (rotS x 7 25)) []) else bif k == -16 then some (true, .ret (.u32 (rotS x 16 16)) []) else bif k == -12 then some (true, .ret (.u32 (rotS x 20 12)) []) else bif k == -8 then some (true, .ret (.u32 (rotS x 24 8)) []) else bif k == -7 then some (true, .ret (.u32 (rotS x 25 7)) []) else none
    | _ => none) (by
      intro args pre out h hp
      split at h
      · rename_i x k
        by_cases h0 : k = 16
        · subst h0
          simp only [beq_self_eq_true, cond_true, Int.reduceBEq, Int.reduceNeg, cond_false, Option.some.injEq, Prod.mk.injEq] at h
          obtain ⟨rfl, rfl⟩ := h
          exact rot_c0 _
        by_cases h1 : k = 12
        · subst h1
          simp only [beq_self_eq_true, cond_true, Int.reduceBEq, Int.reduceNeg, cond_false, Option.some.injEq, Prod.mk.injEq] at h
          obtain ⟨rfl, rfl⟩ := h
          exact rot_c1 _
        by_cases h2 : k = 8
        · subst h2
          simp only [beq_self_eq_true, cond_true, Int.reduceBEq, Int.reduceNeg, cond_false, Option.some.injEq, Prod.mk.injEq] at h
          obtain ⟨rfl, rfl⟩ := h
          exact rot_c2 _
        by_cases h3 : k = 7
        · subst h3
          simp only [beq_self_eq_true, cond_true, Int.reduceBEq, Int.reduceNeg, cond_false, Option.some.injEq, Prod.mk.injEq] at h
          obtain ⟨rfl, rfl⟩ := h
          exact rot_c3 _
        by_cases h4 : k = -16
        · subst h4
          simp only [beq_self_eq_true, cond_true, Int.reduceBEq, Int.reduceNeg, cond_false, Option.some.injEq, Prod.mk.injEq] at h
          obtain ⟨rfl, rfl⟩ := h
          exact rot_c4 _
        by_cases h5 : k = -12
        · subst h5
          simp only [beq_self_eq_true, cond_true, Int.reduceBEq, Int.reduceNeg, cond_false, Option.some.injEq, Prod.mk.injEq] at h
          obtain ⟨rfl, rfl⟩ := h
          exact rot_c5 _
        by_cases h6 : k = -8
        · subst h6
          simp only [beq_self_eq_true, cond_true, Int.reduceBEq, Int.reduceNeg, cond_false, Option.some.injEq, Prod.mk.injEq] at h
          obtain ⟨rfl, rfl⟩ := h
          exact rot_c6 _
        by_cases h7 : k = -7
        · subst h7
          simp only [beq_self_eq_true, cond_true, Int.reduceBEq, Int.reduceNeg, cond_false, Option.some.injEq, Prod.mk.injEq] at h
          obtain ⟨rfl, rfl⟩ := h
          exact rot_c7 _
        simp only [beq_eq_false_iff_ne.2 h0, beq_eq_false_iff_ne.2 h1, beq_eq_false_iff_ne.2 h2, beq_eq_false_iff_ne.2 h3, beq_eq_false_iff_ne.2 h4, beq_eq_false_iff_ne.2 h5, beq_eq_false_iff_ne.2 h6, beq_eq_false_iff_ne.2 h7, cond_false, reduceCtorEq] at h
      · simp at h)

def blockT (key nonce : List UInt8) (c : UInt32) (n : Nat) : List AV :=
  [.b8 32 key, .u32 c, .b8 12 nonce, .ptr 0 0, .any, .ptr 1 0, .ptr 2 0, .ptr 3 0, .any, .any, .ptr 4 0] ++ List.replicate 31 .any ++ [.int .i64 n] ++ List.replicate 58 .any
def blockH (key nonce : List UInt8) (c : UInt32) (n : Nat) : Heap :=
  [.blk [.b8 32 key] [], .blk [.b8 12 nonce] [], .blk [.b8 64 (List.replicate 64 0)] [], .blk [.w32 16 (roundsS (startS key c nonce) n)] [], .blk [.w32 16 (startS key c nonce)] []]
end Go.Proofs.YtdipeoacmapehaaDoor

set_option linter.unusedSimpArgs false
set_option linter.unusedVariables false
namespace Go.Proofs.YtdipeoacmapehaaDoor
open Go Go.V Go.Cha
set_option maxHeartbeats 0
set_option maxRecDepth 100000

def blockT1 (key nonce : List UInt8) (c : UInt32) (n : Nat) : List AV :=
  [.b8 32 key, .u32 c, .b8 12 nonce, .ptr 0 0, .any, .ptr 1 0, .ptr 2 0, .ptr 3 0, .any, .any, .ptr 4 0] ++ List.replicate 31 .any ++ [.int .i64 (wr .i64 ((n : Int) + 1))] ++ List.replicate 58 .any
def blockH1 (key nonce : List UInt8) (c : UInt32) (n : Nat) : Heap :=
  [.blk [.b8 32 key] [], .blk [.b8 12 nonce] [], .blk [.b8 64 (List.replicate 64 0)] [], .blk [.w32 16 (droundS (roundsS (startS key c nonce) n))] [], .blk [.w32 16 (startS key c nonce)] []]

theorem block_w (key nonce : List UInt8) (c : UInt32) (K : AV → Heap → Prop) : walk Tryd.E RS T1.C (fun f l => bif f == 40 && l == 14 then .inv Nat (fun n => n ≤ 10) (fun n => 10 - n) (blockT key nonce c) (blockH key nonce c) else .unroll 17) 5 40 [.b8 32 key, .u32 c, .b8 12 nonce] K =
    ((∃ a : Nat, a ≤ 10 ∧ leS 5 ⟨blockT key nonce c 0, blockH key nonce c 0⟩ (blockT key nonce c a) (blockH key nonce c a)) ∧
      ∀ a : Nat, a ≤ 10 → ite2 (ltI (a : Int) 10) (∃ b : Nat, (10 - b < 10 - a ∧ b ≤ 10) ∧ leS 5 ⟨blockT1 key nonce c a, blockH1 key nonce c a⟩ (blockT key nonce c b) (blockH key nonce c b))
        (K (.b8 64 (outS (roundsS (startS key c nonce) a) (startS key c nonce))) [])) := by kernel_rfl
end Go.Proofs.YtdipeoacmapehaaDoor

set_option linter.unusedSimpArgs false
set_option linter.unusedVariables false
namespace Go.Proofs.YtdipeoacmapehaaDoor
open Go Go.V Go.Cha
set_option maxRecDepth 100000

theorem wrap64 {n : Int} (h : -9223372036854775808 ≤ n) (h2 : n ≤ 9223372036854775807) : IntKind.i64.wrap n = n := by
  have := IntKind.wrap_i64 n
  rw [this]; omega

theorem block_c (key nonce : List UInt8) (c : UInt32) : HCall Tryd.E 40 [.b8 32 key, .u32 c, .b8 12 nonce] (.ret (.b8 64 (blockS key c nonce)) []) := by
  refine HCall.of_walk (R := RS) (T := T1) (fun f l => bif f == 40 && l == 14 then .inv Nat (fun n => n ≤ 10) (fun n => 10 - n) (blockT key nonce c) (blockH key nonce c) else .unroll 17) 5 rfl rfl ?_
  rw [block_w]
  refine ⟨⟨0, Nat.zero_le _, ?_⟩, fun a ha => ?_⟩
  · exact ⟨rfl, rfl, rfl, rfl, rfl, rfl, rfl, rfl, rfl, trivial⟩
  rcases Nat.lt_or_ge a 10 with h | h
  · rw [ltI_eq, decide_eq_true (show (a : Int) < 10 by omega)]
    refine ⟨a + 1, ⟨by omega, h⟩, rfl, rfl, rfl, ?_, rfl, rfl, rfl, rfl, rfl, trivial⟩
    rw [wr_eq, wrap64 (by omega) (by omega)]; rfl
  · obtain rfl : a = 10 := by omega
    rw [ltI_eq, decide_eq_false (show ¬ ((10 : Nat) : Int) < 10 by decide), blockS_eq]
    exact ⟨rfl, rfl⟩

noncomputable def T2 : Ctr Tryd.E := T1.add 40 (fun
    | [.b8 32 key, .u32 c, .b8 12 nonce] => some (true, .ret (.b8 64 (blockS key c nonce)) [])
    | _ => none) (by
      intro args pre out h hp
      split at h
      · simp only [Option.some.injEq, Prod.mk.injEq] at h
        obtain ⟨rfl, rfl⟩ := h
        exact block_c _ _ _
      · simp at h)
end Go.Proofs.YtdipeoacmapehaaDoor

set_option linter.unusedSimpArgs false
set_option linter.unusedVariables false
namespace Go.Proofs.YtdipeoacmapehaaDoor
open Go Go.V Go.Cha
set_option maxRecDepth 100000
theorem picked_w (n m : Int) (K : AV → Heap → Prop) : walk Tryd.E RS T0.C (fun _ _ => .unroll 6) 3 6 [.int .i64 n, .int .i64 m] K =
    cnd (m != 0) (ite2 (ltI (n.tmod m) 0) (K (.int .i64 (wr .i64 (n.tmod m + m))) []) (K (.int .i64 (n.tmod m)) [])) := by kernel_rfl
theorem picked_c (n m : Int) (h1 : 0 < m) (h2 : m ≤ 9223372036854775807) : HCall Tryd.E 6 [.int .i64 n, .int .i64 m] (.ret (.int .i64 (n % m)) []) := by
  refine HCall.of_walk (R := RS) (T := T0) (fun _ _ => .unroll 6) 3 rfl rfl ?_
  rw [picked_w, cnd_eq, ltI_eq, wr_eq]
  refine ⟨by simp; omega, ?_⟩
  have e := pick_val (n := n) h1
  have h6 := Int.emod_nonneg n (show m ≠ 0 by omega)
  have h7 := Int.emod_lt_of_pos n h1
  rw [ite2_eq]
  refine ⟨fun h => ?_, fun h => ?_⟩
  · rw [if_pos (of_decide_eq_true h)] at e
    rw [e, wrapI (by omega) (by omega)]; exact ⟨rfl, rfl⟩
  · rw [if_neg (of_decide_eq_false h)] at e
    rw [e]; exact ⟨rfl, rfl⟩
noncomputable def T3 : Ctr Tryd.E := T2.add 6 (fun
    | [.int .i64 n, .int .i64 m] => some (decide (0 < m) && decide (m ≤ 9223372036854775807), .ret (.int .i64 (n % m)) [])
    | _ => none) (by
      intro args pre out h hp
      split at h
      · simp only [Option.some.injEq, Prod.mk.injEq] at h
        obtain ⟨rfl, rfl⟩ := h
        simp only [Bool.and_eq_true, decide_eq_true_eq] at hp
        exact picked_c _ _ hp.1 hp.2
      · simp at h)
end Go.Proofs.YtdipeoacmapehaaDoor
