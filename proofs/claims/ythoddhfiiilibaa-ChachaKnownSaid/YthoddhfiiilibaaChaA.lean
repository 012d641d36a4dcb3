import Derived.Test.YthoddhfiiilibaaEnv
import Derived.Test.YthoddhfiiilibaaWS
import Derived.Test.YthoddhfiiilibaaCha
set_option linter.unusedSimpArgs false
set_option linter.unusedVariables false
namespace Go.Proofs.Ythoddhfiiilibaa
open Go Go.V Go.Cha
set_option maxRecDepth 100000
noncomputable abbrev RS := ROps.std Try.E
noncomputable abbrev T0 := Ctr.nil Try.E

theorem rot_w0 (x : UInt32) (K : AV → Heap → Prop) : walk Try.E RS T0.C (fun _ _ => .unroll 6) 3 29 [.u32 x, .int .i64 (16)] K = K (.u32 (rotS x 16 16)) [] := by kernel_rfl
theorem rot_c0 (x : UInt32) : HCall Try.E 29 [.u32 x, .int .i64 (16)] (.ret (.u32 (rotS x 16 16)) []) := by
  refine HCall.of_walk (R := RS) (T := T0) (fun _ _ => .unroll 6) 3 rfl rfl ?_
  rw [rot_w0]
  exact ⟨rfl, rfl⟩
theorem rot_w1 (x : UInt32) (K : AV → Heap → Prop) : walk Try.E RS T0.C (fun _ _ => .unroll 6) 3 29 [.u32 x, .int .i64 (12)] K = K (.u32 (rotS x 12 20)) [] := by kernel_rfl
theorem rot_c1 (x : UInt32) : HCall Try.E 29 [.u32 x, .int .i64 (12)] (.ret (.u32 (rotS x 12 20)) []) := by
  refine HCall.of_walk (R := RS) (T := T0) (fun _ _ => .unroll 6) 3 rfl rfl ?_
  rw [rot_w1]
  exact ⟨rfl, rfl⟩
theorem rot_w2 (x : UInt32) (K : AV → Heap → Prop) : walk Try.E RS T0.C (fun _ _ => .unroll 6) 3 29 [.u32 x, .int .i64 (8)] K = K (.u32 (rotS x 8 24)) [] := by kernel_rfl
theorem rot_c2 (x : UInt32) : HCall Try.E 29 [.u32 x, .int .i64 (8)] (.ret (.u32 (rotS x 8 24)) []) := by
  refine HCall.of_walk (R := RS) (T := T0) (fun _ _ => .unroll 6) 3 rfl rfl ?_
  rw [rot_w2]
  exact ⟨rfl, rfl⟩
theorem rot_w3 (x : UInt32) (K : AV → Heap → Prop) : walk Try.E RS T0.C (fun _ _ => .unroll 6) 3 29 [.u32 x, .int .i64 (7)] K = K (.u32 (rotS x 7 25)) [] := by kernel_rfl
theorem rot_c3 (x : UInt32) : HCall Try.E 29 [.u32 x, .int .i64 (7)] (.ret (.u32 (rotS x 7 25)) []) := by
  refine HCall.of_walk (R := RS) (T := T0) (fun _ _ => .unroll 6) 3 rfl rfl ?_
  rw [rot_w3]
  exact ⟨rfl, rfl⟩
theorem rot_w4 (x : UInt32) (K : AV → Heap → Prop) : walk Try.E RS T0.C (fun _ _ => .unroll 6) 3 29 [.u32 x, .int .i64 (-16)] K = K (.u32 (rotS x 16 16)) [] := by kernel_rfl
theorem rot_c4 (x : UInt32) : HCall Try.E 29 [.u32 x, .int .i64 (-16)] (.ret (.u32 (rotS x 16 16)) []) := by
  refine HCall.of_walk (R := RS) (T := T0) (fun _ _ => .unroll 6) 3 rfl rfl ?_
  rw [rot_w4]
  exact ⟨rfl, rfl⟩
theorem rot_w5 (x : UInt32) (K : AV → Heap → Prop) : walk Try.E RS T0.C (fun _ _ => .unroll 6) 3 29 [.u32 x, .int .i64 (-12)] K = K (.u32 (rotS x 20 12)) [] := by kernel_rfl
theorem rot_c5 (x : UInt32) : HCall Try.E 29 [.u32 x, .int .i64 (-12)] (.ret (.u32 (rotS x 20 12)) []) := by
  refine HCall.of_walk (R := RS) (T := T0) (fun _ _ => .unroll 6) 3 rfl rfl ?_
  rw [rot_w5]
  exact ⟨rfl, rfl⟩
theorem rot_w6 (x : UInt32) (K : AV → Heap → Prop) : walk Try.E RS T0.C (fun _ _ => .unroll 6) 3 29 [.u32 x, .int .i64 (-8)] K = K (.u32 (rotS x 24 8)) [] := by kernel_rfl
theorem rot_c6 (x : UInt32) : HCall Try.E 29 [.u32 x, .int .i64 (-8)] (.ret (.u32 (rotS x 24 8)) []) := by
  refine HCall.of_walk (R := RS) (T := T0) (fun _ _ => .unroll 6) 3 rfl rfl ?_
  rw [rot_w6]
  exact ⟨rfl, rfl⟩
theorem rot_w7 (x : UInt32) (K : AV → Heap → Prop) : walk Try.E RS T0.C (fun _ _ => .unroll 6) 3 29 [.u32 x, .int .i64 (-7)] K = K (.u32 (rotS x 25 7)) [] := by kernel_rfl
theorem rot_c7 (x : UInt32) : HCall Try.E 29 [.u32 x, .int .i64 (-7)] (.ret (.u32 (rotS x 25 7)) []) := by
  refine HCall.of_walk (R := RS) (T := T0) (fun _ _ => .unroll 6) 3 rfl rfl ?_
  rw [rot_w7]
  exact ⟨rfl, rfl⟩
noncomputable def T1 : Ctr Try.E := T0.add 29 (fun
    | [.u32 x, .int .i64 k] => bif k == 16 then some (true, .ret (.u32 (rotS x 16 16)) []) else bif k == 12 then some (true, .ret (.u32 (rotS x 12 20)) []) else bif k == 8 then some (true, .ret (.u32 (rotS x 8 24)) []) else bif k == 7 then some (true, .ret (.u32 (rotS x 7 25)) []) else bif k == -16 then some (true, .ret (.u32 (rotS x 16 16)) []) else bif k == -12 then some (true, .ret (.u32 (rotS x 20 12)) []) else bif k == -8 then some (true, .ret (.u32 (rotS x 24 8)) []) else bif k == -7 then some (true, .ret (.u32 (rotS x 25 7)) []) else none
    | _ => none) (by
      intro args pre out h hp
      split at h
      · rename_i x k
        by_cases h0 : k = 16
        · subst h0
          simp only [beq_self_eq_true, cond_true, Int.reduceBEq, Int.reduceNeg, cond_false, Option.some.injEq, Prod.mk.injEq] at h
          obtain ⟨rfl, rfl⟩ := h
          exact rot_c0 _
        by_cases h1 : k = 12
        · subst h1
          simp only [beq_self_eq_true, cond_true, Int.reduceBEq, Int.reduceNeg, cond_false, Option.some.injEq, Prod.mk.injEq] at h
          obtain ⟨rfl, rfl⟩ := h
          exact rot_c1 _
        by_cases h2 : k = 8
        · subst h2
          simp only [beq_self_eq_true, cond_true, Int.reduceBEq, Int.reduceNeg, cond_false, Option.some.injEq, Prod.mk.injEq] at h
          obtain ⟨rfl, rfl⟩ := h
          exact rot_c2 _
        by_cases h3 : k = 7
        · subst h3
          simp only [beq_self_eq_true, cond_true, Int.reduceBEq, Int.reduceNeg, cond_false, Option.some.injEq, Prod.mk.injEq] at h
          obtain ⟨rfl, rfl⟩ := h
          exact rot_c3 _
        by_cases h4 : k = -16
        · subst h4
          simp only [beq_self_eq_true, cond_true, Int.reduceBEq, Int.reduceNeg, cond_false, Option.some.injEq, Prod.mk.injEq] at h
          obtain ⟨rfl, rfl⟩ := h
          exact rot_c4 _
        by_cases h5 : k = -12
        · subst h5
          simp only [beq_self_eq_true, cond_true, Int.reduceBEq, Int.reduceNeg, cond_false, Option.some.injEq, Prod.mk.injEq] at h
          obtain ⟨rfl, rfl⟩ := h
          exact rot_c5 _
        by_cases h6 : k = -8
        · subst h6
          simp only [beq_self_eq_true, cond_true, Int.reduceBEq, Int.reduceNeg, cond_false, Option.some.injEq, Prod.mk.injEq] at h
          obtain ⟨rfl, rfl⟩ := h
          exact rot_c6 _
        by_cases h7 : k = -7
        · subst h7
          simp only [beq_self_eq_true, cond_true, Int.reduceBEq, Int.reduceNeg, cond_false, Option.some.injEq, Prod.mk.injEq] at h
          obtain ⟨rfl, rfl⟩ := h
          exact rot_c7 _
        simp only [beq_eq_false_iff_ne.2 h0, beq_eq_false_iff_ne.2 h1, beq_eq_false_iff_ne.2 h2, beq_eq_false_iff_ne.2 h3, beq_eq_false_iff_ne.2 h4, beq_eq_false_iff_ne.2 h5, beq_eq_false_iff_ne.2 h6, beq_eq_false_iff_ne.2 h7, cond_false, reduceCtorEq] at h
      · simp at h)

def blockT (key nonce : List UInt8) (c : UInt32) (n : Nat) : List AV :=
  [.b8 32 key, .u32 c, .b8 12 nonce, .ptr 0 0, .any, .ptr 1 0, .ptr 2 0, .ptr 3 0, .any, .any, .ptr 4 0] ++ List.replicate 31 .any ++ [.int .i64 n] ++ List.replicate 58 .any
def blockH (key nonce : List UInt8) (c : UInt32) (n : Nat) : Heap :=
  [.blk [.b8 32 key] [], .blk [.b8 12 nonce] [], .blk [.b8 64 (List.replicate 64 0)] [], .blk [.w32 16 (roundsS (startS key c nonce) n)] [], .blk [.w32 16 (startS key c nonce)] []]
end Go.Proofs.Ythoddhfiiilibaa
