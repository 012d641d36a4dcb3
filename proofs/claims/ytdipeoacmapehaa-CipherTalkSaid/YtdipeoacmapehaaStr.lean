import Derived.Test.YtdipeoacmapehaaEnv
import Derived.Test.YtdipeoacmapehaaWS
import Derived.Test.YtdipeoacmapehaaNums
set_option linter.unusedSimpArgs false
set_option linter.unusedVariables false
namespace Go.Proofs.Ytdipeoacmapehaa
open Go Go.V Go.Cha
set_option maxRecDepth 100000
noncomputable abbrev RS := ROps.std Try.E
noncomputable abbrev T0 := Ctr.nil Try.E

theorem rot_w0 (x : UInt32) (K : AV → Heap → Prop) : walk Try.E RS T0.C (fun _ _ => .unroll 6) 3 29 [.u32 x, .int .i64 (16)] K = K (.u32 (rotS x 16 16)) [] := by kernel_rfl
theorem rot_c0 (x : UInt32) : HCall Try.E 29 [.u32 x, .int .i64 (16)] (.ret (.u32 (rotS x 16 16)) []) := by
  refine HCall.of_walk (R := RS) (T := T0) (fun _ _ => .unroll 6) 3 rfl rfl ?_
  rw [rot_w0]
  exact ⟨rfl, rfl⟩
theorem rot_w1 (x : UInt32) (K : AV → Heap → Prop) : walk Try.E RS T0.C (fun _ _ => .unroll 6) 3 29 [.u32 x, .int .i64 (12)] K = K (.u32 (rotS x 12 20)) [] := by kernel_rfl
theorem rot_c1 (x : UInt32) : HCall Try.E 29 [.u32 x, .int .i64 (12)] (.ret (.u32 (rotS x 12 20)) []) := by
  refine HCall.of_walk (R := RS) (T := T0) (fun _ _ => .unroll 6) 3 rfl rfl ?_
  rw [rot_w1]
  exact ⟨rfl, rfl⟩
theorem rot_w2 (x : UInt32) (K : AV → Heap → Prop) : walk Try.E RS T0.C (fun _ _ => .unroll 6) 3 29 [.u32 x, .int .i64 (8)] K = K (.u32 (rotS x 8 24)) [] := by kernel_rfl
theorem rot_c2 (x : UInt32) : HCall Try.E 29 [.u32 x, .int .i64 (8)] (.ret (.u32 (rotS x 8 24)) []) := by
  refine HCall.of_walk (R := RS) (T := T0) (fun _ _ => .unroll 6) 3 rfl rfl ?_
  rw [rot_w2]
  exact ⟨rfl, rfl⟩
theorem rot_w3 (x : UInt32) (K : AV → Heap → Prop) : walk Try.E RS T0.C (fun _ _ => .unroll 6) 3 29 [.u32 x, .int .i64 (7)] K = K (.u32 (rotS x 7 25)) [] := by kernel_rfl
theorem rot_c3 (x : UInt32) : HCall Try.E 29 [.u32 x, .int .i64 (7)] (.ret (.u32 (rotS x 7 25)) []) := by
  refine HCall.of_walk (R := RS) (T := T0) (fun _ _ => .unroll 6) 3 rfl rfl ?_
  rw [rot_w3]
  exact ⟨rfl, rfl⟩
theorem rot_w4 (x : UInt32) (K : AV → Heap → Prop) : walk Try.E RS T0.C (fun _ _ => .unroll 6) 3 29 [.u32 x, .int .i64 (-16)] K = K (.u32 (rotS x 16 16)) [] := by kernel_rfl
theorem rot_c4 (x : UInt32) : HCall Try.E 29 [.u32 x, .int .i64 (-16)] (.ret (.u32 (rotS x 16 16)) []) := by
  refine HCall.of_walk (R := RS) (T := T0) (fun _ _ => .unroll 6) 3 rfl rfl ?_
  rw [rot_w4]
  exact ⟨rfl, rfl⟩
theorem rot_w5 (x : UInt32) (K : AV → Heap → Prop) : walk Try.E RS T0.C (fun _ _ => .unroll 6) 3 29 [.u32 x, .int .i64 (-12)] K = K (.u32 (rotS x 20 12)) [] := by kernel_rfl
theorem rot_c5 (x : UInt32) : HCall Try.E 29 [.u32 x, .int .i64 (-12)] (.ret (.u32 (rotS x 20 12)) []) := by
  refine HCall.of_walk (R := RS) (T := T0) (fun _ _ => .unroll 6) 3 rfl rfl ?_
  rw [rot_w5]
  exact ⟨rfl, rfl⟩
theorem rot_w6 (x : UInt32) (K : AV → Heap → Prop) : walk Try.E RS T0.C (fun _ _ => .unroll 6) 3 29 [.u32 x, .int .i64 (-8)] K = K (.u32 (rotS x 24 8)) [] := by kernel_rfl
theorem rot_c6 (x : UInt32) : HCall Try.E 29 [.u32 x, .int .i64 (-8)] (.ret (.u32 (rotS x 24 8)) []) := by
  refine HCall.of_walk (R := RS) (T := T0) (fun _ _ => .unroll 6) 3 rfl rfl ?_
  rw [rot_w6]
  exact ⟨rfl, rfl⟩
theorem rot_w7 (x : UInt32) (K : AV → Heap → Prop) : walk Try.E RS T0.C (fun _ _ => .unroll 6) 3 29 [.u32 x, .int .i64 (-7)] K = K (.u32 (rotS x 25 7)) [] := by kernel_rfl
theorem rot_c7 (x : UInt32) : HCall Try.E 29 [.u32 x, .int .i64 (-7)] (.ret (.u32 (rotS x 25 7)) []) := by
  refine HCall.of_walk (R := RS) (T := T0) (fun _ _ => .unroll 6) 3 rfl rfl ?_
  rw [rot_w7]
  exact ⟨rfl, rfl⟩
noncomputable def T1 : Ctr Try.E := T0.add 29 (fun
    | [.u32 x, .int .i64 k] => bif k == 16 then some (true, .ret (.u32 (rotS x 16 16)) []) else bif k == 12 then some (true, .ret (.u32 (rotS x 12 20)) []) else bif k == 8 then some (true, .ret (.u32 (rotS x 8 24)) []) else bif k == 7 then some (true, .ret (.u32 (rotS x 7 25)) []) else bif k == -16 then some (true, .ret (.u32 (rotS x 16 16)) []) else bif k == -12 then some (true, .ret (.u32 (rotS x 20 12)) []) else bif k == -8 then some (true, .ret (.u32 (rotS x 24 8)) []) else bif k == -7 then some (true, .ret (.u32 (rotS x 25 7)) []) else none
    | _ => none) (by
      intro args pre out h hp
      split at h
      · rename_i x k
        by_cases h0 : k = 16
        · subst h0
          simp only [beq_self_eq_true, cond_true, Int.reduceBEq, Int.reduceNeg, cond_false, Option.some.injEq, Prod.mk.injEq] at h
          obtain ⟨rfl, rfl⟩ := h
          exact rot_c0 _
        by_cases h1 : k = 12
        · subst h1
          simp only [beq_self_eq_true, cond_true, Int.reduceBEq, Int.reduceNeg, cond_false, Option.some.injEq, Prod.mk.injEq] at h
          obtain ⟨rfl, rfl⟩ := h
          exact rot_c1 _
        by_cases h2 : k = 8
        · subst h2
          simp only [beq_self_eq_true, cond_true, Int.reduceBEq, Int.reduceNeg, cond_false, Option.some.injEq, Prod.mk.injEq] at h
          obtain ⟨rfl, rfl⟩ := h
          exact rot_c2 _
        by_cases h3 : k = 7
        · subst h3
          simp only [beq_self_eq_true, cond_true, Int.reduceBEq, Int.reduceNeg, cond_false, Option.some.injEq, Prod.mk.injEq] at h
          obtain ⟨rfl, rfl⟩ := h
          exact rot_c3 _
        by_cases h4 : k = -16
        · subst h4
          simp only [beq_self_eq_true, cond_true, Int.reduceBEq, Int.reduceNeg, cond_false, Option.some.injEq, Prod.mk.injEq] at h
          obtain ⟨rfl, rfl⟩ := h
          exact rot_c4 _
        by_cases h5 : k = -12
        · subst h5
          simp only [beq_self_eq_true, cond_true, Int.reduceBEq, Int.reduceNeg, cond_false, Option.some.injEq, Prod.mk.injEq] at h
          obtain ⟨rfl, rfl⟩ := h
          exact rot_c5 _
        by_cases h6 : k = -8
        · subst h6
          simp only [beq_self_eq_true, cond_true, Int.reduceBEq, Int.reduceNeg, cond_false, Option.some.injEq, Prod.mk.injEq] at h
          obtain ⟨rfl, rfl⟩ := h
          exact rot_c6 _
        by_cases h7 : k = -7
        · subst h7
          simp only [beq_self_eq_true, cond_true, Int.reduceBEq, Int.reduceNeg, cond_false, Option.some.injEq, Prod.mk.injEq] at h
          obtain ⟨rfl, rfl⟩ := h
          exact rot_c7 _
        simp only [beq_eq_false_iff_ne.2 h0, beq_eq_false_iff_ne.2 h1, beq_eq_false_iff_ne.2 h2, beq_eq_false_iff_ne.2 h3, beq_eq_false_iff_ne.2 h4, beq_eq_false_iff_ne.2 h5, beq_eq_false_iff_ne.2 h6, beq_eq_false_iff_ne.2 h7, cond_false, reduceCtorEq] at h
      · simp at h)

def blockT (key nonce : List UInt8) (c : UInt32) (n : Nat) : List AV :=
  [.b8 32 key, .u32 c, .b8 12 nonce, .ptr 0 0, .any, .ptr 1 0, .ptr 2 0, .ptr 3 0, .any, .any, .ptr 4 0] ++ List.replicate 31 .any ++ [.int .i64 n] ++ List.replicate 58 .any
def blockH (key nonce : List UInt8) (c : UInt32) (n : Nat) : Heap :=
  [.blk [.b8 32 key] [], .blk [.b8 12 nonce] [], .blk [.b8 64 (List.replicate 64 0)] [], .blk [.w32 16 (roundsS (startS key c nonce) n)] [], .blk [.w32 16 (startS key c nonce)] []]
end Go.Proofs.Ytdipeoacmapehaa

set_option linter.unusedSimpArgs false
set_option linter.unusedVariables false
namespace Go.Proofs.Ytdipeoacmapehaa
open Go Go.V Go.Cha
set_option maxHeartbeats 0
set_option maxRecDepth 100000

def blockT1 (key nonce : List UInt8) (c : UInt32) (n : Nat) : List AV :=
  [.b8 32 key, .u32 c, .b8 12 nonce, .ptr 0 0, .any, .ptr 1 0, .ptr 2 0, .ptr 3 0, .any, .any, .ptr 4 0] ++ List.replicate 31 .any ++ [.int .i64 (wr .i64 ((n : Int) + 1))] ++ List.replicate 58 .any
def blockH1 (key nonce : List UInt8) (c : UInt32) (n : Nat) : Heap :=
  [.blk [.b8 32 key] [], .blk [.b8 12 nonce] [], .blk [.b8 64 (List.replicate 64 0)] [], .blk [.w32 16 (droundS (roundsS (startS key c nonce) n))] [], .blk [.w32 16 (startS key c nonce)] []]

theorem block_w (key nonce : List UInt8) (c : UInt32) (K : AV → Heap → Prop) : walk Try.E RS T1.C (fun f l => bif f == 19 && l == 14 then .inv Nat (fun n => n ≤ 10) (fun n => 10 - n) (blockT key nonce c) (blockH key nonce c) else .unroll 17) 5 19 [.b8 32 key, .u32 c, .b8 12 nonce] K =
    ((∃ a : Nat, a ≤ 10 ∧ leS 5 ⟨blockT key nonce c 0, blockH key nonce c 0⟩ (blockT key nonce c a) (blockH key nonce c a)) ∧
      ∀ a : Nat, a ≤ 10 → ite2 (ltI (a : Int) 10) (∃ b : Nat, (10 - b < 10 - a ∧ b ≤ 10) ∧ leS 5 ⟨blockT1 key nonce c a, blockH1 key nonce c a⟩ (blockT key nonce c b) (blockH key nonce c b))
        (K (.b8 64 (outS (roundsS (startS key c nonce) a) (startS key c nonce))) [])) := by kernel_rfl
end Go.Proofs.Ytdipeoacmapehaa

set_option linter.unusedSimpArgs false
set_option linter.unusedVariables false
namespace Go.Proofs.Ytdipeoacmapehaa
open Go Go.V Go.Cha
set_option maxRecDepth 100000

theorem wrap64 {n : Int} (h : -9223372036854775808 ≤ n) (h2 : n ≤ 9223372036854775807) : IntKind.i64.wrap n = n := by
  have := IntKind.wrap_i64 n
  rw [this]; omega

theorem block_c (key nonce : List UInt8) (c : UInt32) : HCall Try.E 19 [.b8 32 key, .u32 c, .b8 12 nonce] (.ret (.b8 64 (blockS key c nonce)) []) := by
  refine HCall.of_walk (R := RS) (T := T1) (fun f l => bif f == 19 && l == 14 then .inv Nat (fun n => n ≤ 10) (fun n => 10 - n) (blockT key nonce c) (blockH key nonce c) else .unroll 17) 5 rfl rfl ?_
  rw [block_w]
  refine ⟨⟨0, Nat.zero_le _, ?_⟩, fun a ha => ?_⟩
  · exact ⟨rfl, rfl, rfl, rfl, rfl, rfl, rfl, rfl, rfl, trivial⟩
  rcases Nat.lt_or_ge a 10 with h | h
  · rw [ltI_eq, decide_eq_true (show (a : Int) < 10 by omega)]
    refine ⟨a + 1, ⟨by omega, h⟩, rfl, rfl, rfl, ?_, rfl, rfl, rfl, rfl, rfl, trivial⟩
    rw [wr_eq, wrap64 (by omega) (by omega)]; rfl
  · obtain rfl : a = 10 := by omega
    rw [ltI_eq, decide_eq_false (show ¬ ((10 : Nat) : Int) < 10 by decide), blockS_eq]
    exact ⟨rfl, rfl⟩

noncomputable def T2 : Ctr Try.E := T1.add 19 (fun
    | [.b8 32 key, .u32 c, .b8 12 nonce] => some (true, .ret (.b8 64 (blockS key c nonce)) [])
    | _ => none) (by
      intro args pre out h hp
      split at h
      · simp only [Option.some.injEq, Prod.mk.injEq] at h
        obtain ⟨rfl, rfl⟩ := h
        exact block_c _ _ _
      · simp at h)
end Go.Proofs.Ytdipeoacmapehaa

set_option linter.unusedSimpArgs false
set_option linter.unusedVariables false
namespace Go.Proofs.Ytdipeoacmapehaa
open Go Go.V Go.Cha
set_option maxRecDepth 100000
theorem picked_w (n m : Int) (K : AV → Heap → Prop) : walk Try.E RS T0.C (fun _ _ => .unroll 6) 3 6 [.int .i64 n, .int .i64 m] K =
    cnd (m != 0) (ite2 (ltI (n.tmod m) 0) (K (.int .i64 (wr .i64 (n.tmod m + m))) []) (K (.int .i64 (n.tmod m)) [])) := by kernel_rfl
theorem picked_c (n m : Int) (h1 : 0 < m) (h2 : m ≤ 9223372036854775807) : HCall Try.E 6 [.int .i64 n, .int .i64 m] (.ret (.int .i64 (n % m)) []) := by
  refine HCall.of_walk (R := RS) (T := T0) (fun _ _ => .unroll 6) 3 rfl rfl ?_
  rw [picked_w, cnd_eq, ltI_eq, wr_eq]
  refine ⟨by simp; omega, ?_⟩
  have e := pick_val (n := n) h1
  have h6 := Int.emod_nonneg n (show m ≠ 0 by omega)
  have h7 := Int.emod_lt_of_pos n h1
  rw [ite2_eq]
  refine ⟨fun h => ?_, fun h => ?_⟩
  · rw [if_pos (of_decide_eq_true h)] at e
    rw [e, wrapI (by omega) (by omega)]; exact ⟨rfl, rfl⟩
  · rw [if_neg (of_decide_eq_false h)] at e
    rw [e]; exact ⟨rfl, rfl⟩
noncomputable def T3 : Ctr Try.E := T2.add 6 (fun
    | [.int .i64 n, .int .i64 m] => some (decide (0 < m) && decide (m ≤ 9223372036854775807), .ret (.int .i64 (n % m)) [])
    | _ => none) (by
      intro args pre out h hp
      split at h
      · simp only [Option.some.injEq, Prod.mk.injEq] at h
        obtain ⟨rfl, rfl⟩ := h
        simp only [Bool.and_eq_true, decide_eq_true_eq] at hp
        exact picked_c _ _ hp.1 hp.2
      · simp at h)
end Go.Proofs.Ytdipeoacmapehaa

set_option linter.unusedSimpArgs false
set_option linter.unusedVariables false
namespace Go.Proofs.Ytdipeoacmapehaa
open Go Go.V Go.Cha
set_option maxHeartbeats 0
set_option maxRecDepth 100000

structure StrI where
  k : Nat
  i : Nat
section
variable (key nonce b : List UInt8) (c : UInt32)
noncomputable def strT (t12 t13 : AV) (at_ : Int) : List AV :=
  [.b8 32 key, .u32 c, .b8 12 nonce, .any, .ptr 0 0, .any, .ptr 1 0, .any, .vec8 true [], .int .i64 0, .sl 2 0 1 b.length, .int .i64 at_, t12, t13] ++ List.replicate 50 .any
noncomputable def strTo (k : Nat) : List AV := strT key nonce b c .any .any ((64 * k : Nat) : Int)
noncomputable def strHo (k : Nat) : Heap := [.blk [.b8 32 key] [], .blk [.b8 12 nonce] [], .grow8 (streamN key c nonce (64 * k) b) []]
noncomputable def strTi (s : StrI) : List AV := strT key nonce b c (.ptr 3 0) (.int .i64 (s.i : Nat)) ((64 * s.k : Nat) : Int)
noncomputable def strHi (s : StrI) : Heap := [.blk [.b8 32 key] [], .blk [.b8 12 nonce] [], .grow8 (streamN key c nonce s.i b) [], .blk [.b8 64 (blockS key (c + UInt32.ofNat s.k) nonce)] []]
def strOo (k : Nat) : Prop := 64 * k ≤ b.length + 63 ∧ b.length ≤ 1600
def strOi (g : AV) (s : StrI) : Prop := g = .int .i64 ((64 * s.k : Nat) : Int) ∧ 64 * s.k < b.length ∧ 64 * s.k ≤ s.i ∧ s.i ≤ 64 * s.k + 64 ∧ s.i ≤ b.length ∧ b.length ≤ 1600
noncomputable def strL (f l : Nat) : LPlan :=
  bif f == 17 then (bif l == 7 then .inv Nat (strOo b) (fun k => b.length + 64 - 64 * k) (strTo key nonce b c) (strHo key nonce b c)
    else .invg StrI 11 (strOi b) (fun s => b.length - s.i) (strTi key nonce b c) (strHi key nonce b c)) else .unroll 17
end
end Go.Proofs.Ytdipeoacmapehaa

set_option linter.unusedSimpArgs false
set_option linter.unusedVariables false
namespace Go.Proofs.Ytdipeoacmapehaa
open Go Go.V Go.Cha
set_option maxHeartbeats 0
set_option maxRecDepth 100000

theorem stream_eq (key nonce b : List UInt8) (c : UInt32) (full : Bool) (K : AV → Heap → Prop) : walk Try.E RS T3.C (strL key nonce b c) 5 17 [.b8 32 key, .u32 c, .b8 12 nonce, .vec8 full b] K = (
 let x0 : Nat := (List.length b)
 let x1 : Int := ((x0 : Nat) : Int)
 ite2 (ltI 1600 x1)
 -- THEN
 (K (AV.tup [AV.vec8 Bool.true [], AV.int IntKind.i64 1]) [])
 -- ELSE
 (ite2 (ltI (wr IntKind.i64 (subI 4294967296 (((UInt32.toNat c) : Nat) : Int))) (wr IntKind.i64 (Int.tdiv (wr IntKind.i64 (x1 + 63)) 64)))
 -- THEN
 (K (AV.tup [AV.vec8 Bool.true [], AV.int IntKind.i64 11]) [])
 -- ELSE
 (cnd (leB (x0 * 1) 140737488355328)
 ((∃ w0 : Nat, (strOo b w0) ∧ ((AV.b8 32 key = AV.b8 32 key) ∧ ((AV.u32 c = AV.u32 c) ∧ ((AV.b8 12 nonce = AV.b8 12 nonce) ∧ ((AV.vec8 Bool.true [] = AV.vec8 Bool.true []) ∧ ((AV.int IntKind.i64 0 = AV.int IntKind.i64 0) ∧ ((AV.sl 2 0 1 x0 = AV.sl 2 0 1 x0) ∧ ((AV.int IntKind.i64 0 = AV.int IntKind.i64 (((64 * w0) : Nat) : Int)) ∧ ((AV.b8 32 key = AV.b8 32 key) ∧ ((AV.b8 12 nonce = AV.b8 12 nonce) ∧ ((b = Cha.streamN key c nonce (64 * w0) b) ∧ True))))))))))) ∧ (∀ w1 : Nat, (strOo b w1 → ite2 (ltI (((64 * w1) : Nat) : Int) x1)
 -- THEN
 ((∃ w2 : StrI, (strOi b (AV.int IntKind.i64 (((64 * w1) : Nat) : Int)) w2) ∧ ((AV.b8 32 key = AV.b8 32 key) ∧ ((AV.u32 c = AV.u32 c) ∧ ((AV.b8 12 nonce = AV.b8 12 nonce) ∧ ((AV.vec8 Bool.true [] = AV.vec8 Bool.true []) ∧ ((AV.int IntKind.i64 0 = AV.int IntKind.i64 0) ∧ ((AV.sl 2 0 1 x0 = AV.sl 2 0 1 x0) ∧ ((AV.int IntKind.i64 (((64 * w1) : Nat) : Int) = AV.int IntKind.i64 (((64 * (StrI.k w2)) : Nat) : Int)) ∧ ((AV.int IntKind.i64 (((64 * w1) : Nat) : Int) = AV.int IntKind.i64 (((StrI.i w2) : Nat) : Int)) ∧ ((AV.b8 32 key = AV.b8 32 key) ∧ ((AV.b8 12 nonce = AV.b8 12 nonce) ∧ ((Cha.streamN key c nonce (64 * w1) b = Cha.streamN key c nonce (StrI.i w2) b) ∧ ((AV.b8 64 (Cha.blockS key (c + (UInt32.ofNat (Int.toNat ((wr IntKind.i64 (Int.tdiv (((64 * w1) : Nat) : Int) 64)) % 4294967296)))) nonce) = AV.b8 64 (Cha.blockS key (c + (UInt32.ofNat (StrI.k w2))) nonce)) ∧ True))))))))))))) ∧ (∀ w3 : StrI, (strOi b (AV.int IntKind.i64 (((64 * w1) : Nat) : Int)) w3 → ite2 (ltI (((StrI.i w3) : Nat) : Int) (cond Bool.false (Max.max (wr IntKind.i64 ((((64 * (StrI.k w3)) : Nat) : Int) + 64)) x1) (Min.min (wr IntKind.i64 ((((64 * (StrI.k w3)) : Nat) : Int) + 64)) x1)))
 -- THEN
 (cnd ((inB (((StrI.i w3) : Nat) : Int) x0) && Bool.true)
 (cnd (leB (0 + x0) (List.length (Cha.streamN key c nonce (StrI.i w3) b)))
 (cnd (inB (wr IntKind.i64 (subI (((StrI.i w3) : Nat) : Int) (((64 * (StrI.k w3)) : Nat) : Int))) 64)
 (cnd ((inB (((StrI.i w3) : Nat) : Int) x0) && Bool.true)
 (cnd ((Bool.true && ((leB (0 + x0) (szL (Ent.cells (Ent.grow8 (Cha.streamN key c nonce (StrI.i w3) b) [])))) && Bool.true)) && Bool.true)
 ((∃ w4 : StrI, ((((fun s => x0 - (StrI.i s)) w4) < ((fun s => x0 - (StrI.i s)) w3)) ∧ (strOi b (AV.int IntKind.i64 (((64 * w1) : Nat) : Int)) w4)) ∧ ((AV.b8 32 key = AV.b8 32 key) ∧ ((AV.u32 c = AV.u32 c) ∧ ((AV.b8 12 nonce = AV.b8 12 nonce) ∧ ((AV.vec8 Bool.true [] = AV.vec8 Bool.true []) ∧ ((AV.int IntKind.i64 0 = AV.int IntKind.i64 0) ∧ ((AV.sl 2 0 1 x0 = AV.sl 2 0 1 x0) ∧ ((AV.int IntKind.i64 (((64 * (StrI.k w3)) : Nat) : Int) = AV.int IntKind.i64 (((64 * (StrI.k w4)) : Nat) : Int)) ∧ ((AV.int IntKind.i64 (wr IntKind.i64 ((((StrI.i w3) : Nat) : Int) + 1)) = AV.int IntKind.i64 (((StrI.i w4) : Nat) : Int)) ∧ ((AV.b8 32 key = AV.b8 32 key) ∧ ((AV.b8 12 nonce = AV.b8 12 nonce) ∧ ((List.set (Cha.streamN key c nonce (StrI.i w3) b) (ofs 0 (((StrI.i w3) : Nat) : Int)) ((List.getD (Cha.streamN key c nonce (StrI.i w3) b) (ofs 0 (((StrI.i w3) : Nat) : Int)) 0) ^^^ (List.getD (Cha.blockS key (c + (UInt32.ofNat (StrI.k w3))) nonce) (ofs 0 (wr IntKind.i64 (subI (((StrI.i w3) : Nat) : Int) (((64 * (StrI.k w3)) : Nat) : Int)))) 0)) = Cha.streamN key c nonce (StrI.i w4) b) ∧ ((AV.b8 64 (Cha.blockS key (c + (UInt32.ofNat (StrI.k w3))) nonce) = AV.b8 64 (Cha.blockS key (c + (UInt32.ofNat (StrI.k w4))) nonce)) ∧ True)))))))))))))))))))
 -- ELSE
 ((∃ w5 : Nat, ((((fun k => (x0 + 64) - (64 * k)) w5) < ((fun k => (x0 + 64) - (64 * k)) w1)) ∧ (strOo b w5)) ∧ ((AV.b8 32 key = AV.b8 32 key) ∧ ((AV.u32 c = AV.u32 c) ∧ ((AV.b8 12 nonce = AV.b8 12 nonce) ∧ ((AV.vec8 Bool.true [] = AV.vec8 Bool.true []) ∧ ((AV.int IntKind.i64 0 = AV.int IntKind.i64 0) ∧ ((AV.sl 2 0 1 x0 = AV.sl 2 0 1 x0) ∧ ((AV.int IntKind.i64 (wr IntKind.i64 ((((64 * (StrI.k w3)) : Nat) : Int) + 64)) = AV.int IntKind.i64 (((64 * w5) : Nat) : Int)) ∧ ((AV.b8 32 key = AV.b8 32 key) ∧ ((AV.b8 12 nonce = AV.b8 12 nonce) ∧ ((Cha.streamN key c nonce (StrI.i w3) b = Cha.streamN key c nonce (64 * w5) b) ∧ True)))))))))))))))
 -- ELSE
 (K (AV.tup [AV.sl 0 0 1 x0, AV.int IntKind.i64 0]) [Ent.grow8 (Cha.streamN key c nonce (64 * w1) b) []]))))))) := by kernel_rfl

end Go.Proofs.Ytdipeoacmapehaa

set_option linter.unusedSimpArgs false
set_option linter.unusedVariables false
namespace Go.Proofs.Ytdipeoacmapehaa
open Go Go.V Go.Cha
set_option maxRecDepth 100000

def overF (c : UInt32) (n : Nat) : Bool := ltB (4294967296 - c.toNat) ((n + 63) / 64)
noncomputable def overB : UInt32 → Nat → Bool := (sealed overF).val
theorem overB_eq (c : UInt32) (n : Nat) : overB c n = overF c n := by rw [overB, (sealed overF).property]
theorem over_i {c : UInt32} {n : Nat} (h : n ≤ 1600) : ltI (wr .i64 (subI 4294967296 (c.toNat : Int))) (wr .i64 (Int.tdiv (wr .i64 ((n : Int) + 63)) 64)) = overB c n := by
  have := c.toNat_lt
  rw [subI_eq, wr_of (z := (n : Int) + 63) (by omega) (by omega), wr_of (z := 4294967296 - (c.toNat : Int)) (by omega) (by omega), Int.tdiv_eq_ediv_of_nonneg (by omega), wr_of (by omega) (by omega)]
  rw [overB_eq]; unfold overF
  by_cases e : 4294967296 - c.toNat < (n + 63) / 64
  · rw [ltB_of e, ltI_of (by omega)]
  · rw [ltB_no (by omega), ltI_no (by omega)]

noncomputable def streamO (key : List UInt8) (c : UInt32) (nonce b : List UInt8) : Out :=
  .alt (ltB 1600 b.length) (.ret (.tup [.vec8 true [], .int .i64 1]) []) (.alt (overB c b.length) (.ret (.tup [.vec8 true [], .int .i64 11]) []) (.ret (.tup [.sl 0 0 1 b.length, .int .i64 0]) [.grow8 (streamS key c nonce b) []]))

theorem stream_c (key nonce b : List UInt8) (c : UInt32) (full : Bool) : HCall Try.E 17 [.b8 32 key, .u32 c, .b8 12 nonce, .vec8 full b] (streamO key c nonce b) := by
  refine HCall.of_walk (R := RS) (T := T3) (strL key nonce b c) 5 rfl rfl ?_
  rw [stream_eq]
  dsimp only
  unfold streamO
  rw [show ltI 1600 (b.length : Int) = ltB 1600 b.length from rfl]
  rcases Bool.eq_false_or_eq_true (ltB 1600 b.length) with h | h
  · rw [h]; exact ⟨rfl, rfl⟩
  rw [h]
  have h1 := of_ltB_no h
  rw [over_i h1]
  rcases Bool.eq_false_or_eq_true (overB c b.length) with h2 | h2
  · rw [h2]; exact ⟨rfl, rfl⟩
  rw [h2]
  rw [Nat.mul_one, leB_of (by omega)]
  refine ⟨⟨0, ⟨by omega, h1⟩, rfl, rfl, rfl, rfl, rfl, rfl, rfl, rfl, rfl, ?_, trivial⟩, fun k hk => ?_⟩
  · rw [Nat.mul_zero]; exact (turned_zero _ _).symm
  obtain ⟨hk1, _⟩ := hk
  have e0 : Int.tdiv ((64 * k : Nat) : Int) 64 = (k : Int) := by
    rw [Int.tdiv_eq_ediv_of_nonneg (by omega)]; omega
  cases h3 : ltI ((64 * k : Nat) : Int) (b.length : Int)
  · have := of_ltI_no h3
    refine ⟨rfl, ?_⟩
    unfold streamS streamN
    rw [turned_past (n := 64 * k) (by omega)]
  have h4 := of_ltI h3
  refine ⟨⟨⟨k, 64 * k⟩, ⟨rfl, by show 64 * k < b.length; omega, Nat.le_refl _, by show 64 * k ≤ 64 * k + 64; omega, by show 64 * k ≤ b.length; omega, h1⟩, rfl, rfl, rfl, rfl, rfl, rfl, rfl, rfl, rfl, rfl, rfl, ?_, trivial⟩, fun s hs => ?_⟩
  · show AV.b8 64 _ = AV.b8 64 _
    rw [e0, wr_of (by omega) (by omega)]
    have : (Int.toNat ((k : Int) % 4294967296)) = k := by omega
    rw [this]
  obtain ⟨g1, g2, g3, g4, g5, _⟩ := hs
  obtain ⟨sk, i⟩ := s
  simp only at g1 g2 g3 g4 g5
  obtain rfl : sk = k := by
    have : ((64 * k : Nat) : Int) = ((64 * sk : Nat) : Int) := by injection g1
    omega
  show ite2 (ltI (i : Int) (min (wr .i64 (((64 * sk : Nat) : Int) + 64)) (b.length : Int))) _ _
  rw [wr_of (z := ((64 * sk : Nat) : Int) + 64) (by omega) (by omega)]
  cases h5 : ltI (i : Int) (min (((64 * sk : Nat) : Int) + 64) (b.length : Int))
  · have h6 := of_ltI_no h5
    refine ⟨sk + 1, ⟨by show b.length + 64 - 64 * (sk + 1) < b.length + 64 - 64 * sk; omega, by omega, h1⟩, rfl, rfl, rfl, rfl, rfl, rfl, ?_, rfl, rfl, ?_, trivial⟩
    · congr 1
    · rcases Nat.lt_or_ge i b.length with h7 | h7
      · rw [show i = 64 * (sk + 1) by omega]
      · unfold streamN
        rw [turned_past h7, turned_past (n := 64 * (sk + 1)) (by omega)]
  have h6 := of_ltI h5
  have h7 : i < b.length := by omega
  have h8 : i < 64 * sk + 64 := by omega
  have e1 : subI (i : Int) ((64 * sk : Nat) : Int) = ((i - 64 * sk : Nat) : Int) := by rw [subI_eq]; omega
  show cnd (inB (i : Int) b.length && true) _
  rw [inB_of (by omega) (by omega), length_streamN, Nat.zero_add, leB_of (Nat.le_refl _)]
  show cnd (inB (wr .i64 (subI (i : Int) ((64 * sk : Nat) : Int))) 64) _
  rw [e1, wr_of (by omega) (by omega), inB_of (by omega) (by omega)]
  have e2 : szL (Ent.cells (Ent.grow8 (streamN key c nonce i b) [])) = b.length := by
    show (streamN key c nonce i b).length + 0 = _
    rw [length_streamN, Nat.add_zero]
  show cnd (true && ((leB b.length (szL (Ent.cells (Ent.grow8 (streamN key c nonce i b) [])))) && true) && true) _
  rw [e2, leB_of (Nat.le_refl _)]
  refine ⟨⟨sk, i + 1⟩, ⟨by show b.length - (i + 1) < b.length - i; omega, rfl, g2, by show 64 * sk ≤ i + 1; omega, by show i + 1 ≤ 64 * sk + 64; omega, by show i + 1 ≤ b.length; omega, h1⟩, rfl, rfl, rfl, rfl, rfl, rfl, rfl, ?_, rfl, rfl, ?_, rfl, trivial⟩
  · show AV.int .i64 (wr .i64 ((i : Int) + 1)) = AV.int .i64 ((i + 1 : Nat) : Int)
    rw [wr_of (by omega) (by omega)]; rfl
  · rw [ofs0, ofs0]
    show List.set (turned _ i b) i (List.getD (turned _ i b) i 0 ^^^ _) = turned _ (i + 1) b
    rw [← turned_succ h7]
    congr 2
    unfold keyAt
    rw [show i / 64 = sk by omega, show i % 64 = i - 64 * sk by omega]
end Go.Proofs.Ytdipeoacmapehaa

set_option linter.unusedSimpArgs false
set_option linter.unusedVariables false
namespace Go.Proofs.Ytdipeoacmapehaa
open Go Go.V Go.Cha
noncomputable def T4 : Ctr Try.E := T3.add 17 (fun
    | [.b8 32 key, .u32 c, .b8 12 nonce, .vec8 _ b] => some (true, streamO key c nonce b)
    | _ => none) (by
      intro args pre out h hp
      split at h
      · simp only [Option.some.injEq, Prod.mk.injEq] at h
        obtain ⟨rfl, rfl⟩ := h
        exact stream_c _ _ _ _ _
      · simp at h)
/-- Where it is known that the bytes are few enough. -/
theorem stream_c2 (key nonce b : List UInt8) (c : UInt32) (full : Bool) (h1 : ltB 1600 b.length = false) (h2 : overB c b.length = false) :
    HCall Try.E 17 [.b8 32 key, .u32 c, .b8 12 nonce, .vec8 full b] (.ret (.tup [.sl 0 0 1 b.length, .int .i64 0]) [.grow8 (streamS key c nonce b) []]) := by
  have h := stream_c key nonce b c full
  unfold streamO at h
  rw [h1, h2] at h
  obtain ⟨a, _, c⟩ := h
  exact ⟨a, rfl, c⟩
noncomputable def T4p : Ctr Try.E := T3.add 17 (fun
    | [.b8 32 key, .u32 c, .b8 12 nonce, .vec8 _ b] => some (!(ltB 1600 b.length) && !(overB c b.length), .ret (.tup [.sl 0 0 1 b.length, .int .i64 0]) [.grow8 (streamS key c nonce b) []])
    | _ => none) (by
      intro args pre out h hp
      split at h
      · simp only [Option.some.injEq, Prod.mk.injEq] at h
        obtain ⟨rfl, rfl⟩ := h
        simp only [Bool.and_eq_true, Bool.not_eq_true'] at hp
        exact stream_c2 _ _ _ _ _ hp.1 hp.2
      · simp at h)
end Go.Proofs.Ytdipeoacmapehaa
