import Derived.Test.YtdipeoacmapehaaDoorZzaf
import Derived.Test.YtdipeoacmapehaaDoorZzag
import Derived.Test.YtdipeoacmapehaaDoorZzab
import Derived.Test.YtdipeoacmapehaaDoorZzac
import Derived.Test.YtdipeoacmapehaaDoorZzae
set_option linter.unusedSimpArgs false
set_option linter.unusedVariables false
namespace Go.Proofs.YtdipeoacmapehaaDoor
open Go Go.V Go.Cha
set_option maxRecDepth 100000
noncomputable abbrev RS := ROps.std Tryd.E
noncomputable abbrev T0 := Ctr.nil Tryd.E

theorem rot_w0 (x : UInt32) (K : AV → Heap → Prop) : walk Tryd.E RS T0.C (fun _ _ => .unroll 6) 3 29 [.u32 x, .int .i64 (16)] K = K (.u32 (rotS x 16 16)) [] := by kernel_rfl
theorem rot_c0 (x : UInt32) : HCall Tryd.E 29 [.u32 x, .int .i64 (16)] (.ret (.u32 (rotS x 16 16)) []) := by
  refine HCall.of_walk (R := RS) (T := T0) (fun _ _ => .unroll 6) 3 rfl rfl ?_
  rw [rot_w0]
  exact ⟨rfl, rfl⟩
theorem rot_w1 (x : UInt32) (K : AV → Heap → Prop) : walk Tryd.E RS T0.C (fun _ _ => .unroll 6) 3 29 [.u32 x, .int .i64 (12)] K = K (.u32 (rotS x 12 20)) [] := by kernel_rfl
theorem rot_c1 (x : UInt32) : HCall Tryd.E 29 [.u32 x, .int .i64 (12)] (.ret (.u32 (rotS x 12 20)) []) := by
  refine HCall.of_walk (R := RS) (T := T0) (fun _ _ => .unroll 6) 3 rfl rfl ?_
  rw [rot_w1]
  exact ⟨rfl, rfl⟩
theorem rot_w2 (x : UInt32) (K : AV → Heap → Prop) : walk Tryd.E RS T0.C (fun _ _ => .unroll 6) 3 29 [.u32 x, .int .i64 (8)] K = K (.u32 (rotS x 8 24)) [] := by kernel_rfl
theorem rot_c2 (x : UInt32) : HCall Tryd.E 29 [.u32 x, .int .i64 (8)] (.ret (.u32 (rotS x 8 24)) []) := by
  refine HCall.of_walk (R := RS) (T := T0) (fun _ _ => .unroll 6) 3 rfl rfl ?_
  rw [rot_w2]
  exact ⟨rfl, rfl⟩
theorem rot_w3 (x : UInt32) (K : AV → Heap → Prop) : walk Tryd.E RS T0.C (fun _ _ => .unroll 6) 3 29 [.u32 x, .int .i64 (7)] K = K (.u32 (rotS x 7 25)) [] := by kernel_rfl
theorem rot_c3 (x : UInt32) : HCall Tryd.E 29 [.u32 x, .int .i64 (7)] (.ret (.u32 (rotS x 7 25)) []) := by
  refine HCall.of_walk (R := RS) (T := T0) (fun _ _ => .unroll 6) 3 rfl rfl ?_
  rw [rot_w3]
  exact ⟨rfl, rfl⟩
theorem rot_w4 (x : UInt32) (K : AV → Heap → Prop) : walk Tryd.E RS T0.C (fun _ _ => .unroll 6) 3 29 [.u32 x, .int .i64 (-16)] K = K (.u32 (rotS x 16 16)) [] := by kernel_rfl
theorem rot_c4 (x : UInt32) : HCall Tryd.E 29 [.u32 x, .int .i64 (-16)] (.ret (.u32 (rotS x 16 16)) []) := by
  refine HCall.of_walk (R := RS) (T := T0) (fun _ _ => .unroll 6) 3 rfl rfl ?_
  rw [rot_w4]
  exact ⟨rfl, rfl⟩
theorem rot_w5 (x : UInt32) (K : AV → Heap → Prop) : walk Tryd.E RS T0.C (fun _ _ => .unroll 6) 3 29 [.u32 x, .int .i64 (-12)] K = K (.u32 (rotS x 20 12)) [] := by kernel_rfl
theorem rot_c5 (x : UInt32) : HCall Tryd.E 29 [.u32 x, .int .i64 (-12)] (.ret (.u32 (rotS x 20 12)) []) := by
  refine HCall.of_walk (R := RS) (T := T0) (fun _ _ => .unroll 6) 3 rfl rfl ?_
  rw [rot_w5]
  exact ⟨rfl, rfl⟩
theorem rot_w6 (x : UInt32) (K : AV → Heap → Prop) : walk Tryd.E RS T0.C (fun _ _ => .unroll 6) 3 29 [.u32 x, .int .i64 (-8)] K = K (.u32 (rotS x 24 8)) [] := by kernel_rfl
theorem rot_c6 (x : UInt32) : HCall Tryd.E 29 [.u32 x, .int .i64 (-8)] (.ret (.u32 (rotS x 24 8)) []) := by
  refine HCall.of_walk (R := RS) (T := T0) (fun _ _ => .unroll 6) 3 rfl rfl ?_
  rw [rot_w6]
  exact ⟨rfl, rfl⟩
theorem rot_w7 (x : UInt32) (K : AV → Heap → Prop) : walk Tryd.E RS T0.C (fun _ _ => .unroll 6) 3 29 [.u32 x, .int .i64 (-7)] K = K (.u32 (rotS x 25 7)) [] := by kernel_rfl
theorem rot_c7 (x : UInt32) : HCall Tryd.E 29 [.u32 x, .int .i64 (-7)] (.ret (.u32 (rotS x 25 7)) []) := by
  refine HCall.of_walk (R := RS) (T := T0) (fun _ _ => .unroll 6) 3 rfl rfl ?_
  rw [rot_w7]
  exact ⟨rfl, rfl⟩
noncomputable def T1 : Ctr Tryd.E := T0.add 29 (fun
    | [.u32 x, .int .i64 k] => bif k == 16 then some (true, .ret (.u32 (rotS x 16 16)) []) else bif k == 12 then some (true, .ret (.u32 (rotS x 12 20)) []) else bif k == 8 then some (true, .ret (.u32 (rotS x 8 24)) []) else bif k == 7 then some (true, .ret (.u32 (rotS x 7 25)) []) else bif k == -16 then some (true, .ret (.u32 (rotS x 16 16)) []) else bif k == -12 then some (true, .ret (.u32 (rotS x 20 12)) []) else bif k == -8 then some (true, .ret (.u32 (rotS x 24 8)) []) else bif k == -7 then some (true, .ret (.u32 (rotS x 25 7)) []) else none
    | _ => none) (by
      intro args pre out h hp
      split at h
      · rename_i x k
        by_cases h0 : k = 16
        · subst h0
          simp only [beq_self_eq_true, cond_true, Int.reduceBEq, Int.reduceNeg, cond_false, Option.some.injEq, Prod.mk.injEq] at h
          obtain ⟨rfl, rfl⟩ := h
          exact rot_c0 _
        by_cases h1 : k = 12
        · subst h1
          simp only [beq_self_eq_true, cond_true, Int.reduceBEq, Int.reduceNeg, cond_false, Option.some.injEq, Prod.mk.injEq] at h
          obtain ⟨rfl, rfl⟩ := h
          exact rot_c1 _
        by_cases h2 : k = 8
        · subst h2
          simp only [beq_self_eq_true, cond_true, Int.reduceBEq, Int.reduceNeg, cond_false, Option.some.injEq, Prod.mk.injEq] at h
          obtain ⟨rfl, rfl⟩ := h
          exact rot_c2 _
        by_cases h3 : k = 7
        · subst h3
          simp only [beq_self_eq_true, cond_true, Int.reduceBEq, Int.reduceNeg, cond_false, Option.some.injEq, Prod.mk.injEq] at h
          obtain ⟨rfl, rfl⟩ := h
          exact rot_c3 _
        by_cases h4 : k = -16
        · subst h4
          simp only [beq_self_eq_true, cond_true, Int.reduceBEq, Int.reduceNeg, cond_false, Option.some.injEq, Prod.mk.injEq] at h
          obtain ⟨rfl, rfl⟩ := h
          exact rot_c4 _
        by_cases h5 : k = -12
        · subst h5
          simp only [beq_self_eq_true, cond_true, Int.reduceBEq, Int.reduceNeg, cond_false, Option.some.injEq, Prod.mk.injEq] at h
          obtain ⟨rfl, rfl⟩ := h
          exact rot_c5 _
        by_cases h6 : k = -8
        · subst h6
          simp only [beq_self_eq_true, cond_true, Int.reduceBEq, Int.reduceNeg, cond_false, Option.some.injEq, Prod.mk.injEq] at h
          obtain ⟨rfl, rfl⟩ := h
          exact rot_c6 _
        by_cases h7 : k = -7
        · subst h7
          simp only [beq_self_eq_true, cond_true, Int.reduceBEq, Int.reduceNeg, cond_false, Option.some.injEq, Prod.mk.injEq] at h
          obtain ⟨rfl, rfl⟩ := h
          exact rot_c7 _
        simp only [beq_eq_false_iff_ne.2 h0, beq_eq_false_iff_ne.2 h1, beq_eq_false_iff_ne.2 h2, beq_eq_false_iff_ne.2 h3, beq_eq_false_iff_ne.2 h4, beq_eq_false_iff_ne.2 h5, beq_eq_false_iff_ne.2 h6, beq_eq_false_iff_ne.2 h7, cond_false, reduceCtorEq] at h
      · simp at h)

def blockT (key nonce : List UInt8) (c : UInt32) (n : Nat) : List AV :=
  [.b8 32 key, .u32 c, .b8 12 nonce, .ptr 0 0, .any, .ptr 1 0, .ptr 2 0, .ptr 3 0, .any, .any, .ptr 4 0] ++ List.replicate 31 .any ++ [.int .i64 n] ++ List.replicate 58 .any
def blockH (key nonce : List UInt8) (c : UInt32) (n : Nat) : Heap :=
  [.blk [.b8 32 key] [], .blk [.b8 12 nonce] [], .blk [.b8 64 (List.replicate 64 0)] [], .blk [.w32 16 (roundsS (startS key c nonce) n)] [], .blk [.w32 16 (startS key c nonce)] []]
end Go.Proofs.YtdipeoacmapehaaDoor

set_option linter.unusedSimpArgs false
set_option linter.unusedVariables false
namespace Go.Proofs.YtdipeoacmapehaaDoor
open Go Go.V Go.Cha Go.Bla
/-- The loops of squeeze. -/
noncomputable def squeezeL (held : List UInt8) (v : List UInt32) : FuncId → Nat → LPlan := fun f l =>
  bif f == 22 && l == 3 then .rel [0, 1, 2, 4, 5] [] Nat (fun _ i => i ≤ 16) (fun i => 16 - i) (fun i => [(17, .int .i64 (i : Nat))]) (fun i => [(2, .blk [.w32 16 (wordsB held i)] [])])
  else bif f == 22 && l == 22 then .rel [0, 1, 2, 4, 5, 8, 10, 77] [] Nat (fun _ n => n ≤ 10) (fun n => 10 - n) (fun n => [(78, .int .i64 (n : Nat))]) (fun n => [(3, .blk [.w32 16 (roundsB (wordsB held 16) v n)] [])])
  else .unroll 17
end Go.Proofs.YtdipeoacmapehaaDoor

set_option linter.unusedSimpArgs false
set_option linter.unusedVariables false
namespace Go.Proofs.YtdipeoacmapehaaDoor
open Go Go.V Go.Cha Go.Bla
set_option maxHeartbeats 0
set_option maxRecDepth 100000

def sqA (h : List UInt32) (held : List UInt8) (n len : Int) : List AV := [.w32 8 h, .b8 64 held, .int .i64 n, .int .i64 len]
def sqT (h : List UInt32) (held : List UInt8) (n len : Int) (last : Bool) (k : Int) : List AV := [.agg (sqA h held n len), .bool last, .ptr 0 0, .any, .ptr 1 0, .ptr 2 0] ++ List.replicate 11 .any ++ [.int .i64 k] ++ List.replicate 143 .any
def sqH (h : List UInt32) (held : List UInt8) (n len : Int) (m : List UInt32) : Heap := [.blk (sqA h held n len) [], .blk [.w32 8 [0, 0, 0, 0, 0, 0, 0, 0]] [], .blk [.w32 16 m] []]
def sqU (h : List UInt32) (held : List UInt8) (n len : Int) (last : Bool) (k : Int) : List AV := [.agg (sqA h held n len), .bool last, .ptr 0 0, .any, .ptr 1 0, .ptr 2 0, .any, .any, .ptr 3 0, .any, .fn (.func 28) [] [.ptr 3 0]] ++ List.replicate 66 .any ++ [.n64 160 ordersL, .int .i64 k] ++ List.replicate 82 .any
def sqI (h : List UInt32) (held : List UInt8) (n len : Int) (m v : List UInt32) : Heap := [.blk (sqA h held n len) [], .blk [.w32 8 [0, 0, 0, 0, 0, 0, 0, 0]] [], .blk [.w32 16 m] [], .blk [.w32 16 v] []]
def wordC (i k : Int) : Bool := inB (wr .i64 (wr .i64 (4 * i) + k)) 64
def wordT (held : List UInt8) (i k : Int) (j : Nat) (l : List UInt32) : List UInt32 := l.set j (shl32 (l.getD j 0) 8 ||| (held.getD (Int.toNat (wr .i64 (wr .i64 (4 * i) + k))) 0).toUInt32)

def sqP (h : List UInt32) (held : List UInt8) (n len : Int) (last : Bool) (K : AV → Heap → Prop) : Prop :=
  ((∃ a : Nat, a ≤ 16 ∧ leS 3 ⟨sqT h held n len last 0, sqH h held n len [0, 0, 0, 0, 0, 0, 0, 0, 0, 0, 0, 0, 0, 0, 0, 0]⟩ (sqT h held n len last (a : Int)) (sqH h held n len (wordsB held a))) ∧
   ∀ a : Nat, a ≤ 16 → ite2 (ltI (a : Int) 16)
     (cnd (inB (a : Int) 16) (cnd (wordC a 3) (cnd (inB (a : Int) 16) (cnd (inB (a : Int) 16) (cnd (wordC a 2) (cnd (inB (a : Int) 16) (cnd (inB (a : Int) 16) (cnd (wordC a 1) (cnd (inB (a : Int) 16) (cnd (inB (a : Int) 16) (cnd (wordC a 0) (cnd (inB (a : Int) 16)
       (∃ b : Nat, (16 - b < 16 - a ∧ b ≤ 16) ∧ leS 3 ⟨sqT h held n len last (wr .i64 ((a : Int) + 1)), sqH h held n len (wordT held a 0 a (wordT held a 1 a (wordT held a 2 a (wordT held a 3 a (wordsB held a)))))⟩ (sqT h held n len last (b : Int)) (sqH h held n len (wordsB held b)))))))))))))))
     ((∃ r : Nat, r ≤ 10 ∧ leS 4 ⟨sqU h held n len last 0, sqI h held n len (wordsB held a) (startB h len last)⟩ (sqU h held n len last (r : Int)) (sqI h held n len (wordsB held a) (roundsB (wordsB held 16) (startB h len last) r))) ∧
      ∀ r : Nat, r ≤ 10 → ite2 (ltI (r : Int) 10)
        (cnd (inB (r : Int) 10 && true) (cnd (cB r 0) (cnd (cB r 1) (cnd (cB r 2) (cnd (cB r 3) (cnd (cB r 4) (cnd (cB r 5) (cnd (cB r 6) (cnd (cB r 7) (cnd (cB r 8) (cnd (cB r 9) (cnd (cB r 10) (cnd (cB r 11) (cnd (cB r 12) (cnd (cB r 13) (cnd (cB r 14) (cnd (cB r 15) ((∃ b : Nat, (10 - b < 10 - r ∧ b ≤ 10) ∧ leS 4 ⟨sqU h held n len last (wr .i64 ((r : Int) + 1)), sqI h held n len (wordsB held a) (roundB (wordsB held a) r (roundsB (wordsB held 16) (startB h len last) r))⟩ (sqU h held n len last (b : Int)) (sqI h held n len (wordsB held a) (roundsB (wordsB held 16) (startB h len last) b)))))))))))))))))))))
        (K (.w32 8 (outB h (roundsB (wordsB held 16) (startB h len last) r))) [])))
theorem squeezeT_w (h : List UInt32) (held : List UInt8) (n len : Int) (K : AV → Heap → Prop) : walk Tryd.E RS T1.C (squeezeL held (startB h len true)) 5 22 [.agg [.w32 8 h, .b8 64 held, .int .i64 n, .int .i64 len], .bool true] K = sqP h held n len true K := by kernel_rfl
theorem squeezeF_w (h : List UInt32) (held : List UInt8) (n len : Int) (K : AV → Heap → Prop) : walk Tryd.E RS T1.C (squeezeL held (startB h len false)) 5 22 [.agg [.w32 8 h, .b8 64 held, .int .i64 n, .int .i64 len], .bool false] K = sqP h held n len false K := by kernel_rfl
end Go.Proofs.YtdipeoacmapehaaDoor

set_option linter.unusedSimpArgs false
set_option linter.unusedVariables false
namespace Go.Proofs.YtdipeoacmapehaaDoor
open Go Go.V Go.Cha Go.Bla
set_option maxRecDepth 100000

theorem le_sqT (h : List UInt32) (held : List UInt8) (n len : Int) (last : Bool) (k : Int) (m : List UInt32) : leS 3 ⟨sqT h held n len last k, sqH h held n len m⟩ (sqT h held n len last k) (sqH h held n len m) :=
  ⟨rfl, rfl, rfl, rfl, rfl, rfl, rfl, rfl, rfl, trivial⟩
theorem le_sqU (h : List UInt32) (held : List UInt8) (n len : Int) (last : Bool) (k : Int) (m v : List UInt32) : leS 4 ⟨sqU h held n len last k, sqI h held n len m v⟩ (sqU h held n len last k) (sqI h held n len m v) :=
  ⟨rfl, rfl, rfl, rfl, rfl, rfl, rfl, rfl, rfl, rfl, rfl, rfl, trivial⟩

theorem word_steps (held : List UInt8) (a : Nat) (ha : a < 16) : wordT held a 0 a (wordT held a 1 a (wordT held a 2 a (wordT held a 3 a (wordsB held a)))) = wordsB held (a + 1) := by
  have hl := length_wordsB held a
  have h0 := words_get held (Nat.le_refl a)
  have ix : ∀ k : Nat, k ≤ 3 → Int.toNat (wr .i64 (wr .i64 (4 * (a : Int)) + (k : Int))) = 4 * a + k := fun k hk => by
    rw [wr_of (z := 4 * (a : Int)) (by omega) (by omega), wr_of (by omega) (by omega)]; omega
  rw [← words_succ]
  unfold wordT wordB
  rw [h0, show (3 : Int) = ((3 : Nat) : Int) from rfl, show (2 : Int) = ((2 : Nat) : Int) from rfl, show (1 : Int) = ((1 : Nat) : Int) from rfl, show (0 : Int) = ((0 : Nat) : Int) from rfl, ix 3 (by decide), ix 2 (by decide), ix 1 (by decide), ix 0 (by decide)]
  rw [getD_set_same (by first | (simp only [List.length_set]; omega) | omega), List.set_set, getD_set_same (by first | (simp only [List.length_set]; omega) | omega), List.set_set, getD_set_same (by first | (simp only [List.length_set]; omega) | omega), List.set_set]
  rfl
theorem wordC_ok {a k : Nat} (ha : a < 16) (hk : k ≤ 3) : wordC a k = true := by
  unfold wordC
  rw [wr_of (z := 4 * (a : Int)) (by omega) (by omega), wr_of (by omega) (by omega)]
  exact inB_of (by omega) (by omega)

theorem sq_law (h : List UInt32) (held : List UInt8) (n len : Int) (last : Bool) :
    ((∃ a : Nat, a ≤ 16 ∧ leS 3 ⟨sqT h held n len last 0, sqH h held n len [0, 0, 0, 0, 0, 0, 0, 0, 0, 0, 0, 0, 0, 0, 0, 0]⟩ (sqT h held n len last (a : Int)) (sqH h held n len (wordsB held a))) ∧
     (∀ a : Nat, a < 16 → (∃ b : Nat, (16 - b < 16 - a ∧ b ≤ 16) ∧ leS 3 ⟨sqT h held n len last (wr .i64 ((a : Int) + 1)), sqH h held n len (wordT held a 0 a (wordT held a 1 a (wordT held a 2 a (wordT held a 3 a (wordsB held a)))))⟩ (sqT h held n len last (b : Int)) (sqH h held n len (wordsB held b)))) ∧
     (∀ m v : List UInt32, ∃ r : Nat, r ≤ 10 ∧ leS 4 ⟨sqU h held n len last 0, sqI h held n len m v⟩ (sqU h held n len last (r : Int)) (sqI h held n len m (roundsB m v r))) ∧
     (∀ (m v : List UInt32) (r : Nat), r < 10 → (∃ b : Nat, (10 - b < 10 - r ∧ b ≤ 10) ∧ leS 4 ⟨sqU h held n len last (wr .i64 ((r : Int) + 1)), sqI h held n len m (roundB m r (roundsB m v r))⟩ (sqU h held n len last (b : Int)) (sqI h held n len m (roundsB m v b))))) := by
  refine ⟨⟨0, by omega, ?_⟩, fun a ha => ⟨a + 1, ⟨by omega, by omega⟩, ?_⟩, fun m v => ⟨0, by omega, ?_⟩, fun m v r hr => ⟨r + 1, ⟨by omega, by omega⟩, ?_⟩⟩
  · rw [words_zero]; exact le_sqT ..
  · rw [word_steps held a ha, wr_of (by omega) (by omega)]; exact le_sqT ..
  · rw [Bla.rounds_zero]; exact le_sqU ..
  · rw [Bla.rounds_succ, wr_of (by omega) (by omega)]; exact le_sqU ..

theorem sq_go (h : List UInt32) (held : List UInt8) (n len : Int) (last : Bool) : ∀ K : AV → Heap → Prop, K (.w32 8 (squeezeS h held len last)) [] → sqP h held n len last K := by
  obtain ⟨p1, p2, p3, p4⟩ := sq_law h held n len last
  intro K hK
  refine ⟨p1, fun a ha => ?_⟩
  rcases Nat.lt_or_ge a 16 with h1 | h1
  · rw [ltI_of (by omega), inB_of (by omega) (by omega), show wordC a 3 = true from wordC_ok (k := 3) h1 (by decide), show wordC a 2 = true from wordC_ok (k := 2) h1 (by decide), show wordC a 1 = true from wordC_ok (k := 1) h1 (by decide), show wordC a 0 = true from wordC_ok (k := 0) h1 (by decide)]
    exact p2 a h1
  · obtain rfl : a = 16 := by omega
    rw [ltI_no (by omega)]
    refine ⟨p3 _ _, fun r hr => ?_⟩
    rcases Nat.lt_or_ge r 10 with h2 | h2
    · rw [ltI_of (by omega), inB_of (by omega) (by omega)]
      have c := fun i hi => cB_ok (i := i) h2 hi
      rw [c 0 (by decide), c 1 (by decide), c 2 (by decide), c 3 (by decide), c 4 (by decide), c 5 (by decide), c 6 (by decide), c 7 (by decide), c 8 (by decide), c 9 (by decide), c 10 (by decide), c 11 (by decide), c 12 (by decide), c 13 (by decide), c 14 (by decide), c 15 (by decide)]
      exact p4 _ _ r h2
    · obtain rfl : r = 10 := by omega
      rw [ltI_no (by omega)]
      rw [squeezeS_eq] at hK
      unfold squeezeF at hK
      rw [← wordsB_eq, ← roundsB_eq] at hK
      exact ite2_iff.2 ⟨fun h => Bool.noConfusion h, fun _ => hK⟩
theorem squeeze_cT (h : List UInt32) (held : List UInt8) (n len : Int) : HCall Tryd.E 22 [.agg [.w32 8 h, .b8 64 held, .int .i64 n, .int .i64 len], .bool true] (.ret (.w32 8 (squeezeS h held len true)) []) := by
  refine HCall.of_walk (R := RS) (T := T1) (squeezeL held (startB h len true)) 5 rfl rfl ?_
  exact Eq.mpr (squeezeT_w h held n len _) (sq_go h held n len true _ has_refl)
theorem squeeze_cF (h : List UInt32) (held : List UInt8) (n len : Int) : HCall Tryd.E 22 [.agg [.w32 8 h, .b8 64 held, .int .i64 n, .int .i64 len], .bool false] (.ret (.w32 8 (squeezeS h held len false)) []) := by
  refine HCall.of_walk (R := RS) (T := T1) (squeezeL held (startB h len false)) 5 rfl rfl ?_
  exact Eq.mpr (squeezeF_w h held n len _) (sq_go h held n len false _ has_refl)
theorem squeeze_c (h : List UInt32) (held : List UInt8) (n len : Int) : ∀ last : Bool, HCall Tryd.E 22 [.agg [.w32 8 h, .b8 64 held, .int .i64 n, .int .i64 len], .bool last] (.ret (.w32 8 (squeezeS h held len last)) [])
  | true => squeeze_cT h held n len
  | false => squeeze_cF h held n len
noncomputable def B1 : Ctr Tryd.E := T1.add 22 (fun
    | [.agg [.w32 8 h, .b8 64 held, .int .i64 _, .int .i64 len], .bool last] => some (true, .ret (.w32 8 (squeezeS h held len last)) [])
    | _ => none) (by
      intro args pre out h hp
      split at h
      · simp only [Option.some.injEq, Prod.mk.injEq] at h
        obtain ⟨rfl, rfl⟩ := h
        exact squeeze_c ..
      · simp at h)
end Go.Proofs.YtdipeoacmapehaaDoor

set_option linter.unusedSimpArgs false
set_option linter.unusedVariables false
namespace Go.Proofs.YtdipeoacmapehaaDoor
open Go Go.V Go.Cha Go.Bla
set_option maxHeartbeats 0
set_option maxRecDepth 100000

theorem bcheck_eq (h : List UInt32) (held : List UInt8) (n len : Int) (K : AV → Heap → Prop) : walk Tryd.E (ROps.frz Tryd.E) B1.C (fun _ l => bif l == 4 then Inv.count [47, 48] 48 49 else .unroll 17) 5 21 [.agg [.w32 8 h, .b8 64 held, .int .i64 n, .int .i64 len]] K = (
 let x0 : List UInt8 := (sliceL (Option.some n) Option.none held)
 let x1 : Nat := (List.length x0)
 let x2 : Int := ((x1 : Nat) : Int)
 let x3 : List (Nat × Nat) := [((0 + 8) + (loN (Option.some n)), (0 + 8) + (hiN 64 Option.none))]
 ite2 (ltI n 0)
 -- THEN
 (K (AV.int IntKind.i64 9) [])
 -- ELSE
 (ite2 (cond Bool.false Bool.true (ltI 64 n))
 -- THEN
 (K (AV.int IntKind.i64 9) [])
 -- ELSE
 (ite2 (cond Bool.false Bool.true (ltI len n))
 -- THEN
 (K (AV.int IntKind.i64 9) [])
 -- ELSE
 (ite2 (cond Bool.false Bool.true (ltI 1073741824 len))
 -- THEN
 (K (AV.int IntKind.i64 9) [])
 -- ELSE
 (ite2 (cond Bool.false Bool.true ((Int.tmod (wr IntKind.i64 (subI len n)) 64) != 0))
 -- THEN
 (K (AV.int IntKind.i64 9) [])
 -- ELSE
 (ite2 (n == 0)
 -- THEN
 (ite2 (cond Bool.false Bool.true (cond Bool.true (ltI 0 len) Bool.false))
 -- THEN
 (K (AV.int IntKind.i64 9) [])
 -- ELSE
 (cnd (Bool.true && (sliceOk (Option.some n) Option.none 64))
 ((∃ w0 : Nat, (Inv.upTo [AV.int IntKind.i64 x2] w0) ∧ ((AV.vec8 Bool.false x0 = AV.vec8 Bool.false x0) ∧ ((AV.int IntKind.i64 x2 = AV.int IntKind.i64 x2) ∧ ((AV.int IntKind.i64 0 = AV.int IntKind.i64 ((w0 : Nat) : Int)) ∧ cnd (eqF x3 x3)
 ((AV.w32 8 h = AV.w32 8 h) ∧ ((AV.b8 64 held = AV.b8 64 held) ∧ ((AV.int IntKind.i64 n = AV.int IntKind.i64 n) ∧ ((AV.int IntKind.i64 len = AV.int IntKind.i64 len) ∧ True)))))))) ∧ (∀ w1 : Nat, (Inv.upTo [AV.int IntKind.i64 x2] w1 → ite2 (ltI ((w1 : Nat) : Int) x2)
 -- THEN
 (cnd ((inB ((w1 : Nat) : Int) x1) && Bool.true)
 (cnd (leB (0 + x1) x1)
 (ite2 ((((UInt8.toNat (List.getD x0 (ofs 0 ((w1 : Nat) : Int)) 0)) : Nat) : Int) != 0)
 -- THEN
 (K (AV.int IntKind.i64 9) [])
 -- ELSE
 ((∃ w2 : Nat, (((Inv.up w2) < (Inv.up w1)) ∧ (Inv.upTo [AV.int IntKind.i64 x2] w2)) ∧ ((AV.vec8 Bool.false x0 = AV.vec8 Bool.false x0) ∧ ((AV.int IntKind.i64 x2 = AV.int IntKind.i64 x2) ∧ ((AV.int IntKind.i64 (wr IntKind.i64 (((w1 : Nat) : Int) + 1)) = AV.int IntKind.i64 ((w2 : Nat) : Int)) ∧ cnd (eqF x3 x3)
 ((AV.w32 8 h = AV.w32 8 h) ∧ ((AV.b8 64 held = AV.b8 64 held) ∧ ((AV.int IntKind.i64 n = AV.int IntKind.i64 n) ∧ ((AV.int IntKind.i64 len = AV.int IntKind.i64 len) ∧ True))))))))))))
 -- ELSE
 (K (AV.int IntKind.i64 0) []))))))
 -- ELSE
 (cnd (Bool.true && (sliceOk (Option.some n) Option.none 64))
 ((∃ w3 : Nat, (Inv.upTo [AV.int IntKind.i64 x2] w3) ∧ ((AV.vec8 Bool.false x0 = AV.vec8 Bool.false x0) ∧ ((AV.int IntKind.i64 x2 = AV.int IntKind.i64 x2) ∧ ((AV.int IntKind.i64 0 = AV.int IntKind.i64 ((w3 : Nat) : Int)) ∧ cnd (eqF x3 x3)
 ((AV.w32 8 h = AV.w32 8 h) ∧ ((AV.b8 64 held = AV.b8 64 held) ∧ ((AV.int IntKind.i64 n = AV.int IntKind.i64 n) ∧ ((AV.int IntKind.i64 len = AV.int IntKind.i64 len) ∧ True)))))))) ∧ (∀ w4 : Nat, (Inv.upTo [AV.int IntKind.i64 x2] w4 → ite2 (ltI ((w4 : Nat) : Int) x2)
 -- THEN
 (cnd ((inB ((w4 : Nat) : Int) x1) && Bool.true)
 (cnd (leB (0 + x1) x1)
 (ite2 ((((UInt8.toNat (List.getD x0 (ofs 0 ((w4 : Nat) : Int)) 0)) : Nat) : Int) != 0)
 -- THEN
 (K (AV.int IntKind.i64 9) [])
 -- ELSE
 ((∃ w5 : Nat, (((Inv.up w5) < (Inv.up w4)) ∧ (Inv.upTo [AV.int IntKind.i64 x2] w5)) ∧ ((AV.vec8 Bool.false x0 = AV.vec8 Bool.false x0) ∧ ((AV.int IntKind.i64 x2 = AV.int IntKind.i64 x2) ∧ ((AV.int IntKind.i64 (wr IntKind.i64 (((w4 : Nat) : Int) + 1)) = AV.int IntKind.i64 ((w5 : Nat) : Int)) ∧ cnd (eqF x3 x3)
 ((AV.w32 8 h = AV.w32 8 h) ∧ ((AV.b8 64 held = AV.b8 64 held) ∧ ((AV.int IntKind.i64 n = AV.int IntKind.i64 n) ∧ ((AV.int IntKind.i64 len = AV.int IntKind.i64 len) ∧ True))))))))))))
 -- ELSE
 (K (AV.int IntKind.i64 0) []))))))))))) := by kernel_rfl

end Go.Proofs.YtdipeoacmapehaaDoor

set_option linter.unusedSimpArgs false
set_option linter.unusedVariables false
namespace Go.Proofs.YtdipeoacmapehaaDoor
open Go Go.V Go.Cha Go.Bla
set_option maxRecDepth 100000

theorem bbegin_w (K : AV → Heap → Prop) : walk Tryd.E RS B1.C (fun _ l => .unroll 17) 5 7 [] K = K (.agg [.w32 8 (iv.set 0 1795745351), .b8 64 zero64, .int .i64 0, .int .i64 0]) [] := by kernel_rfl
theorem bbegin_c : HCall Tryd.E 7 [] (.ret (.agg [.w32 8 startS.h, .b8 64 startS.held, .int .i64 ((startS.n : Nat) : Int), .int .i64 ((startS.len : Nat) : Int)]) []) := by
  refine HCall.of_walk (R := RS) (T := B1) (fun _ _ => .unroll 17) 5 rfl rfl ?_
  rw [bbegin_w]
  exact ⟨rfl, rfl⟩

theorem eqF_refl : ∀ x : List (Nat × Nat), eqF x x = true
  | [] => rfl
  | (a, b) :: r => by simp [eqF, eqF_refl r]

theorem bcheck_c (h : List UInt32) (held : List UInt8) (n len : Int) (o : okP held n len) : HCall Tryd.E 21 [.agg [.w32 8 h, .b8 64 held, .int .i64 n, .int .i64 len]] (.ret (.int .i64 0) []) := by
  refine HCall.of_lens rfl rfl fun hl => ?_
  have hh : held.length = 64 := hl (.agg _) (List.mem_cons_self ..) (.b8 64 held) (by simp)
  clear hl
  refine HCall.of_walk (R := ROps.frz Tryd.E) (T := B1) (fun _ l => bif l == 4 then Inv.count [47, 48] 48 49 else .unroll 17) 5 rfl rfl ?_
  rw [bcheck_eq]
  obtain ⟨p1, p2, p3, p4, p5, p6, p7⟩ := o
  have e5 : sliceOk (some n) none 64 = true := by
    show (nnB _ && leB (Int.toNat _) _) = true
    rw [nnB_iff.2 p1, leB_of (by omega)]; rfl
  have e6 : sliceL (some n) none held = held.drop n.toNat := rfl
  have e7 : (Int.tmod (wr .i64 (subI len n)) 64 != 0) = false := by
    rw [subI_eq, wr_of (by omega) (by omega), Int.tmod_eq_emod_of_nonneg (by omega), p5]; rfl
  dsimp only
  rw [e5, e6, e7, ltI_no (x := n) (by omega), ltI_no (x := 64) (by omega), ltI_no (x := len) (by omega), ltI_no (x := 1073741824) (by omega), eqF_refl]
  have hl : (held.drop n.toNat).length = 64 - n.toNat := by rw [List.length_drop, hh]
  have hz : ∀ i, (held.drop n.toNat).getD i 0 = 0 := fun i => by
    rw [List.getD_eq_getElem?_getD, List.getElem?_drop, ← List.getD_eq_getElem?_getD]
    exact p7 _ (by omega)
  generalize held.drop n.toNat = l at *
  have go : (∃ w0 : Nat, Inv.upTo [AV.int .i64 ((l.length : Nat) : Int)] w0 ∧ ((AV.vec8 false l = AV.vec8 false l) ∧ ((AV.int .i64 ((l.length : Nat) : Int) = AV.int .i64 ((l.length : Nat) : Int)) ∧ ((AV.int .i64 0 = AV.int .i64 ((w0 : Nat) : Int)) ∧ cnd true ((AV.w32 8 h = AV.w32 8 h) ∧ ((AV.b8 64 held = AV.b8 64 held) ∧ ((AV.int .i64 n = AV.int .i64 n) ∧ ((AV.int .i64 len = AV.int .i64 len) ∧ True)))))))) ∧ (∀ w1 : Nat, (Inv.upTo [AV.int .i64 ((l.length : Nat) : Int)] w1 → ite2 (ltI ((w1 : Nat) : Int) ((l.length : Nat) : Int))
 (cnd ((inB ((w1 : Nat) : Int) l.length) && true)
 (cnd (leB (0 + l.length) l.length)
 (ite2 ((((UInt8.toNat (List.getD l (ofs 0 ((w1 : Nat) : Int)) 0)) : Nat) : Int) != 0)
 ((Out.ret (AV.int .i64 0) []).has (AV.int .i64 9) [])
 ((∃ w2 : Nat, (((Inv.up w2) < (Inv.up w1)) ∧ (Inv.upTo [AV.int .i64 ((l.length : Nat) : Int)] w2)) ∧ ((AV.vec8 false l = AV.vec8 false l) ∧ ((AV.int .i64 ((l.length : Nat) : Int) = AV.int .i64 ((l.length : Nat) : Int)) ∧ ((AV.int .i64 (wr .i64 (((w1 : Nat) : Int) + 1)) = AV.int .i64 ((w2 : Nat) : Int)) ∧ cnd true ((AV.w32 8 h = AV.w32 8 h) ∧ ((AV.b8 64 held = AV.b8 64 held) ∧ ((AV.int .i64 n = AV.int .i64 n) ∧ ((AV.int .i64 len = AV.int .i64 len) ∧ True))))))))))))
 ((Out.ret (AV.int .i64 0) []).has (AV.int .i64 0) []))) := by
    refine ⟨⟨0, by rw [Inv.upTo_int]; omega, rfl, rfl, rfl, rfl, rfl, rfl, rfl, trivial⟩, fun w1 hi => ?_⟩
    rw [Inv.upTo_int] at hi
    rcases Nat.lt_or_ge w1 l.length with h1 | h1
    · rw [ltI_of (by omega), inB_of (by omega) (by omega), leB_of (by omega), hz, wr_of (by omega) (by omega)]
      exact ⟨w1 + 1, ⟨Inv.up_lt (by omega), by rw [Inv.upTo_int]; omega⟩, rfl, rfl, rfl, rfl, rfl, rfl, rfl, trivial⟩
    · rw [ltI_no (by omega)]
      exact ite2_iff.2 ⟨fun h => Bool.noConfusion h, fun _ => ⟨rfl, rfl⟩⟩
  by_cases hn : n = 0
  · subst hn
    have := p6 rfl
    subst this
    exact go
  · have : (n == 0) = false := beq_eq_false_iff_ne.2 hn
    rw [this]
    exact go
noncomputable def B2 : Ctr Tryd.E := (B1.add 7 (fun
    | [] => some (true, .ret (.agg [.w32 8 startS.h, .b8 64 startS.held, .int .i64 ((startS.n : Nat) : Int), .int .i64 ((startS.len : Nat) : Int)]) [])
    | _ => none) (by
      intro args pre out h hp
      split at h
      · simp only [Option.some.injEq, Prod.mk.injEq] at h
        obtain ⟨rfl, rfl⟩ := h
        exact bbegin_c
      · simp at h)).add 21 (fun
    | [.agg [.w32 8 _, .b8 64 held, .int .i64 n, .int .i64 len]] => some (okS held n len, .ret (.int .i64 0) [])
    | _ => none) (by
      intro args pre out h hp
      split at h
      · simp only [Option.some.injEq, Prod.mk.injEq] at h
        obtain ⟨rfl, rfl⟩ := h
        exact bcheck_c _ _ _ _ (okS_iff.1 hp)
      · simp at h)
end Go.Proofs.YtdipeoacmapehaaDoor

set_option linter.unusedSimpArgs false
set_option linter.unusedVariables false
namespace Go.Proofs.YtdipeoacmapehaaDoor
open Go Go.V Go.Cha Go.Bla
noncomputable def bsA (s : BS) : AV := .agg [.w32 8 s.h, .b8 64 s.held, .int .i64 ((s.n : Nat) : Int), .int .i64 ((s.len : Nat) : Int)]
noncomputable def baddL (s : BS) (b : List UInt8) : LPlan := .rel [2, 4, 22, 23] [23] Nat Inv.upTo Inv.up (fun i => [(24, .int .i64 (i : Nat))])
  (fun i => [(0, .blk [.w32 8 (addB s (b.take i)).h, .b8 64 (addB s (b.take i)).held, .int .i64 (((addB s (b.take i)).n : Nat) : Int), .int .i64 (((addB s (b.take i)).len : Nat) : Int)] [])])
end Go.Proofs.YtdipeoacmapehaaDoor

set_option linter.unusedSimpArgs false
set_option linter.unusedVariables false
namespace Go.Proofs.YtdipeoacmapehaaDoor
open Go Go.V Go.Cha Go.Bla
set_option maxHeartbeats 0
set_option maxRecDepth 100000

theorem badd_eq (s : BS) (full : Bool) (b : List UInt8) (K : AV → Heap → Prop) : walk Tryd.E RS B2.C (fun _ l => baddL s b) 5 8 [.agg [.w32 8 s.h, .b8 64 s.held, .int .i64 ((s.n : Nat) : Int), .int .i64 ((s.len : Nat) : Int)], .vec8 full b] K = (
 let x0 : List UInt8 := (Bla.BS.held s)
 let x1 : Int := (((Bla.BS.n s) : Nat) : Int)
 let x2 : Int := (((Bla.BS.len s) : Nat) : Int)
 let x3 : Nat := (List.length b)
 let x4 : Int := ((x3 : Nat) : Int)
 let x5 : List UInt8 := (List.replicate 64 0)
 cnd (Bla.okS x0 x1 x2)
 (ite2 (ltI (wr IntKind.i64 (subI 1073741824 x2)) x4)
 -- THEN
 (K (AV.tup [AV.agg [AV.w32 8 [0, 0, 0, 0, 0, 0, 0, 0], AV.b8 64 x5, AV.int IntKind.i64 0, AV.int IntKind.i64 0], AV.int IntKind.i64 1]) [])
 -- ELSE
 ((∃ w0 : Nat, (Inv.upTo [AV.int IntKind.i64 x4] w0) ∧ ((AV.vec8 full b = AV.vec8 full b) ∧ ((AV.int IntKind.i64 x4 = AV.int IntKind.i64 x4) ∧ ((AV.int IntKind.i64 0 = AV.int IntKind.i64 ((w0 : Nat) : Int)) ∧ ((AV.w32 8 (Bla.BS.h s) = AV.w32 8 (Bla.BS.h (Bla.addB s (List.take w0 b)))) ∧ ((AV.b8 64 x0 = AV.b8 64 (Bla.BS.held (Bla.addB s (List.take w0 b)))) ∧ ((AV.int IntKind.i64 x1 = AV.int IntKind.i64 (((Bla.BS.n (Bla.addB s (List.take w0 b))) : Nat) : Int)) ∧ ((AV.int IntKind.i64 x2 = AV.int IntKind.i64 (((Bla.BS.len (Bla.addB s (List.take w0 b))) : Nat) : Int)) ∧ ((AV.w32 8 [0, 0, 0, 0, 0, 0, 0, 0] = AV.w32 8 [0, 0, 0, 0, 0, 0, 0, 0]) ∧ ((AV.b8 64 x5 = AV.b8 64 x5) ∧ ((AV.int IntKind.i64 0 = AV.int IntKind.i64 0) ∧ ((AV.int IntKind.i64 0 = AV.int IntKind.i64 0) ∧ True)))))))))))) ∧ (∀ w1 : Nat, (Inv.upTo [AV.int IntKind.i64 x4] w1 → ite2 (ltI ((w1 : Nat) : Int) x4)
 -- THEN
 (cnd ((inB ((w1 : Nat) : Int) x3) && Bool.true)
 (cnd (leB (0 + x3) x3)
 (ite2 ((((Bla.BS.n (Bla.addB s (List.take w1 b))) : Nat) : Int) == 64)
 -- THEN
 ((∃ w2 : Nat, (((Inv.up w2) < (Inv.up w1)) ∧ (Inv.upTo [AV.int IntKind.i64 x4] w2)) ∧ ((AV.vec8 full b = AV.vec8 full b) ∧ ((AV.int IntKind.i64 x4 = AV.int IntKind.i64 x4) ∧ ((AV.int IntKind.i64 (wr IntKind.i64 (((w1 : Nat) : Int) + 1)) = AV.int IntKind.i64 ((w2 : Nat) : Int)) ∧ ((AV.w32 8 (Bla.squeezeS (Bla.BS.h (Bla.addB s (List.take w1 b))) (Bla.BS.held (Bla.addB s (List.take w1 b))) (((Bla.BS.len (Bla.addB s (List.take w1 b))) : Nat) : Int) Bool.false) = AV.w32 8 (Bla.BS.h (Bla.addB s (List.take w2 b)))) ∧ ((AV.b8 64 (List.set x5 0 (List.getD b (ofs 0 ((w1 : Nat) : Int)) 0)) = AV.b8 64 (Bla.BS.held (Bla.addB s (List.take w2 b)))) ∧ ((AV.int IntKind.i64 1 = AV.int IntKind.i64 (((Bla.BS.n (Bla.addB s (List.take w2 b))) : Nat) : Int)) ∧ ((AV.int IntKind.i64 (wr IntKind.i64 ((((Bla.BS.len (Bla.addB s (List.take w1 b))) : Nat) : Int) + 1)) = AV.int IntKind.i64 (((Bla.BS.len (Bla.addB s (List.take w2 b))) : Nat) : Int)) ∧ ((AV.w32 8 [0, 0, 0, 0, 0, 0, 0, 0] = AV.w32 8 [0, 0, 0, 0, 0, 0, 0, 0]) ∧ ((AV.b8 64 x5 = AV.b8 64 x5) ∧ ((AV.int IntKind.i64 0 = AV.int IntKind.i64 0) ∧ ((AV.int IntKind.i64 0 = AV.int IntKind.i64 0) ∧ True)))))))))))))
 -- ELSE
 (cnd (inB (((Bla.BS.n (Bla.addB s (List.take w1 b))) : Nat) : Int) 64)
 ((∃ w3 : Nat, (((Inv.up w3) < (Inv.up w1)) ∧ (Inv.upTo [AV.int IntKind.i64 x4] w3)) ∧ ((AV.vec8 full b = AV.vec8 full b) ∧ ((AV.int IntKind.i64 x4 = AV.int IntKind.i64 x4) ∧ ((AV.int IntKind.i64 (wr IntKind.i64 (((w1 : Nat) : Int) + 1)) = AV.int IntKind.i64 ((w3 : Nat) : Int)) ∧ ((AV.w32 8 (Bla.BS.h (Bla.addB s (List.take w1 b))) = AV.w32 8 (Bla.BS.h (Bla.addB s (List.take w3 b)))) ∧ ((AV.b8 64 (List.set (Bla.BS.held (Bla.addB s (List.take w1 b))) (Int.toNat (((Bla.BS.n (Bla.addB s (List.take w1 b))) : Nat) : Int)) (List.getD b (ofs 0 ((w1 : Nat) : Int)) 0)) = AV.b8 64 (Bla.BS.held (Bla.addB s (List.take w3 b)))) ∧ ((AV.int IntKind.i64 (wr IntKind.i64 ((((Bla.BS.n (Bla.addB s (List.take w1 b))) : Nat) : Int) + 1)) = AV.int IntKind.i64 (((Bla.BS.n (Bla.addB s (List.take w3 b))) : Nat) : Int)) ∧ ((AV.int IntKind.i64 (wr IntKind.i64 ((((Bla.BS.len (Bla.addB s (List.take w1 b))) : Nat) : Int) + 1)) = AV.int IntKind.i64 (((Bla.BS.len (Bla.addB s (List.take w3 b))) : Nat) : Int)) ∧ ((AV.w32 8 [0, 0, 0, 0, 0, 0, 0, 0] = AV.w32 8 [0, 0, 0, 0, 0, 0, 0, 0]) ∧ ((AV.b8 64 x5 = AV.b8 64 x5) ∧ ((AV.int IntKind.i64 0 = AV.int IntKind.i64 0) ∧ ((AV.int IntKind.i64 0 = AV.int IntKind.i64 0) ∧ True)))))))))))))))))
 -- ELSE
 (K (AV.tup [AV.agg [AV.w32 8 (Bla.BS.h (Bla.addB s (List.take w1 b))), AV.b8 64 (Bla.BS.held (Bla.addB s (List.take w1 b))), AV.int IntKind.i64 (((Bla.BS.n (Bla.addB s (List.take w1 b))) : Nat) : Int), AV.int IntKind.i64 (((Bla.BS.len (Bla.addB s (List.take w1 b))) : Nat) : Int)], AV.int IntKind.i64 0]) [])))))) := by kernel_rfl

end Go.Proofs.YtdipeoacmapehaaDoor

set_option linter.unusedSimpArgs false
set_option linter.unusedVariables false
namespace Go.Proofs.YtdipeoacmapehaaDoor
open Go Go.V Go.Cha Go.Bla
set_option maxRecDepth 100000

theorem badd_s (s : BS) (full : Bool) (b : List UInt8) (o : s.ok) (hb : s.len + b.length ≤ 1073741824) :
    HCall Tryd.E 8 [.agg [.w32 8 s.h, .b8 64 s.held, .int .i64 ((s.n : Nat) : Int), .int .i64 ((s.len : Nat) : Int)], .vec8 full b]
      (.ret (.tup [.agg [.w32 8 (addB s b).h, .b8 64 (addB s b).held, .int .i64 (((addB s b).n : Nat) : Int), .int .i64 (((addB s b).len : Nat) : Int)], .int .i64 0]) []) := by
  refine HCall.of_walk (R := RS) (T := B2) (fun _ _ => baddL s b) 5 rfl rfl ?_
  rw [badd_eq]
  dsimp only
  rw [o.s, subI_eq, wr_of (z := 1073741824 - ((s.len : Nat) : Int)) (by omega) (by omega), ltI_no (x := 1073741824 - ((s.len : Nat) : Int)) (by omega)]
  refine ⟨⟨0, by rw [Inv.upTo_int]; omega, ?_⟩, fun i hi => ?_⟩
  · rw [List.take_zero, addB_nil]
    exact ⟨rfl, rfl, rfl, rfl, rfl, rfl, rfl, rfl, rfl, rfl, rfl, trivial⟩
  · rw [Inv.upTo_int] at hi
    have hlt : (b.take i).length = i := by rw [List.length_take]; omega
    obtain ⟨os, ol⟩ := addB_ok (b := b.take i) o (by omega)
    rw [hlt] at ol
    have hn := os.n
    rcases Nat.lt_or_ge i b.length with h | h
    · have hstep := take_addB (s := s) h
      generalize hS : addB s (b.take i) = S at *
      rw [ltI_of (by omega), inB_of (by omega) (by omega), leB_of (by omega)]
      show ite2 (((S.n : Nat) : Int) == 64) _ _
      rw [wr_of (z := (i : Int) + 1) (by omega) (by omega), wr_of (z := ((S.n : Nat) : Int) + 1) (by omega) (by omega), wr_of (z := ((S.len : Nat) : Int) + 1) (by omega) (by omega), show ofs 0 ((i : Nat) : Int) = i from rfl, Int.toNat_natCast]
      unfold stepB at hstep
      by_cases e : S.n = 64
      · rw [if_pos e] at hstep
        refine ite2_iff.2 ⟨fun _ => ⟨i + 1, ⟨Inv.up_lt (by omega), by rw [Inv.upTo_int]; omega⟩, ?_⟩, fun h => ?_⟩
        · rw [hstep]
          exact ⟨rfl, rfl, rfl, rfl, rfl, rfl, rfl, rfl, rfl, rfl, rfl, trivial⟩
        · rw [e] at h; exact absurd h (by decide)
      · rw [if_neg e] at hstep
        refine ite2_iff.2 ⟨fun h => ?_, fun _ => ?_⟩
        · have : ((S.n : Nat) : Int) = 64 := eq_of_beq h
          omega
        · rw [inB_of (by omega) (by omega)]
          refine ⟨i + 1, ⟨Inv.up_lt (by omega), by rw [Inv.upTo_int]; omega⟩, ?_⟩
          rw [hstep]
          exact ⟨rfl, rfl, rfl, rfl, rfl, rfl, rfl, rfl, rfl, rfl, rfl, trivial⟩
    · rw [ltI_no (by omega), List.take_of_length_le h]
      exact ite2_iff.2 ⟨fun h => Bool.noConfusion h, fun _ => ⟨rfl, rfl⟩⟩

theorem bend_w (s : BS) (K : AV → Heap → Prop) : walk Tryd.E RS B2.C (fun _ _ => .unroll 33) 5 9 [.agg [.w32 8 s.h, .b8 64 s.held, .int .i64 ((s.n : Nat) : Int), .int .i64 ((s.len : Nat) : Int)]] K =
  cnd (okS s.held ((s.n : Nat) : Int) ((s.len : Nat) : Int)) (K (.tup [.b8 32 (bytesB (squeezeS s.h s.held ((s.len : Nat) : Int) true)), .int .i64 0]) []) := by kernel_rfl
theorem bend_s (s : BS) (o : s.ok) : HCall Tryd.E 9 [.agg [.w32 8 s.h, .b8 64 s.held, .int .i64 ((s.n : Nat) : Int), .int .i64 ((s.len : Nat) : Int)]] (.ret (.tup [.b8 32 (endB s), .int .i64 0]) []) := by
  refine HCall.of_walk (R := RS) (T := B2) (fun _ _ => .unroll 33) 5 rfl rfl ?_
  rw [bend_w, o.s, endB_eq]
  unfold endF
  exact ⟨rfl, rfl⟩

theorem BS.of {h : List UInt32} {held : List UInt8} {n len : Int} (hh : held.length = 64) (ok : okP held n len) : BS.ok ⟨h, held, n.toNat, len.toNat⟩ ∧ ((n.toNat : Nat) : Int) = n ∧ ((len.toNat : Nat) : Int) = len := by
  have e1 : ((n.toNat : Nat) : Int) = n := by have := ok.1; omega
  have e2 : ((len.toNat : Nat) : Int) = len := by have := ok.1; have := ok.2.2.1; omega
  exact ⟨⟨hh, by show okP held ((n.toNat : Nat) : Int) ((len.toNat : Nat) : Int); rw [e1, e2]; exact ok⟩, e1, e2⟩

noncomputable def bsO (h : List UInt32) (held : List UInt8) (n len : Int) (b : List UInt8) : BS := addB ⟨h, held, n.toNat, len.toNat⟩ b
theorem badd_c (h : List UInt32) (held : List UInt8) (n len : Int) (full : Bool) (b : List UInt8) (ok : okP held n len) (hb : len.toNat + b.length ≤ 1073741824) :
    HCall Tryd.E 8 [.agg [.w32 8 h, .b8 64 held, .int .i64 n, .int .i64 len], .vec8 full b]
      (.ret (.tup [.agg [.w32 8 (bsO h held n len b).h, .b8 64 (bsO h held n len b).held, .int .i64 (((bsO h held n len b).n : Nat) : Int), .int .i64 (((bsO h held n len b).len : Nat) : Int)], .int .i64 0]) []) := by
  refine HCall.of_lens rfl rfl fun hl => ?_
  have hh : held.length = 64 := hl (.agg _) (List.mem_cons_self ..) (.b8 64 held) (by simp)
  obtain ⟨o, e1, e2⟩ := BS.of (h := h) hh ok
  have := badd_s ⟨h, held, n.toNat, len.toNat⟩ full b o hb
  dsimp only at this
  rw [e1, e2] at this
  exact this
theorem bend_c (h : List UInt32) (held : List UInt8) (n len : Int) (ok : okP held n len) :
    HCall Tryd.E 9 [.agg [.w32 8 h, .b8 64 held, .int .i64 n, .int .i64 len]] (.ret (.tup [.b8 32 (endB ⟨h, held, n.toNat, len.toNat⟩), .int .i64 0]) []) := by
  refine HCall.of_lens rfl rfl fun hl => ?_
  have hh : held.length = 64 := hl (.agg _) (List.mem_cons_self ..) (.b8 64 held) (by simp)
  obtain ⟨o, e1, e2⟩ := BS.of (h := h) hh ok
  have := bend_s ⟨h, held, n.toNat, len.toNat⟩ o
  dsimp only at this
  rw [e1, e2] at this
  exact this
noncomputable def B3 : Ctr Tryd.E := (B2.add 8 (fun
    | [.agg [.w32 8 h, .b8 64 held, .int .i64 n, .int .i64 len], .vec8 _ b] => some (okS held n len && leB (len.toNat + b.length) 1073741824, .ret (.tup [.agg [.w32 8 (bsO h held n len b).h, .b8 64 (bsO h held n len b).held, .int .i64 (((bsO h held n len b).n : Nat) : Int), .int .i64 (((bsO h held n len b).len : Nat) : Int)], .int .i64 0]) [])
    | _ => none) (by
      intro args pre out h hp
      split at h
      · simp only [Option.some.injEq, Prod.mk.injEq] at h
        obtain ⟨rfl, rfl⟩ := h
        simp only [Bool.and_eq_true, leB_iff] at hp
        exact badd_c _ _ _ _ _ _ (okS_iff.1 hp.1) hp.2
      · simp at h)).add 9 (fun
    | [.agg [.w32 8 h, .b8 64 held, .int .i64 n, .int .i64 len]] => some (okS held n len, .ret (.tup [.b8 32 (endB ⟨h, held, n.toNat, len.toNat⟩), .int .i64 0]) [])
    | _ => none) (by
      intro args pre out h hp
      split at h
      · simp only [Option.some.injEq, Prod.mk.injEq] at h
        obtain ⟨rfl, rfl⟩ := h
        exact bend_c _ _ _ _ (okS_iff.1 hp)
      · simp at h)
end Go.Proofs.YtdipeoacmapehaaDoor

set_option linter.unusedSimpArgs false
set_option linter.unusedVariables false
namespace Go.Proofs.YtdipeoacmapehaaDoor
open Go Go.V Go.Cha
set_option maxHeartbeats 0
set_option maxRecDepth 100000

def blockT1 (key nonce : List UInt8) (c : UInt32) (n : Nat) : List AV :=
  [.b8 32 key, .u32 c, .b8 12 nonce, .ptr 0 0, .any, .ptr 1 0, .ptr 2 0, .ptr 3 0, .any, .any, .ptr 4 0] ++ List.replicate 31 .any ++ [.int .i64 (wr .i64 ((n : Int) + 1))] ++ List.replicate 58 .any
def blockH1 (key nonce : List UInt8) (c : UInt32) (n : Nat) : Heap :=
  [.blk [.b8 32 key] [], .blk [.b8 12 nonce] [], .blk [.b8 64 (List.replicate 64 0)] [], .blk [.w32 16 (droundS (roundsS (startS key c nonce) n))] [], .blk [.w32 16 (startS key c nonce)] []]

theorem block_w (key nonce : List UInt8) (c : UInt32) (K : AV → Heap → Prop) : walk Tryd.E RS T1.C (fun f l => bif f == 40 && l == 14 then .inv Nat (fun n => n ≤ 10) (fun n => 10 - n) (blockT key nonce c) (blockH key nonce c) else .unroll 17) 5 40 [.b8 32 key, .u32 c, .b8 12 nonce] K =
    ((∃ a : Nat, a ≤ 10 ∧ leS 5 ⟨blockT key nonce c 0, blockH key nonce c 0⟩ (blockT key nonce c a) (blockH key nonce c a)) ∧
      ∀ a : Nat, a ≤ 10 → ite2 (ltI (a : Int) 10) (∃ b : Nat, (10 - b < 10 - a ∧ b ≤ 10) ∧ leS 5 ⟨blockT1 key nonce c a, blockH1 key nonce c a⟩ (blockT key nonce c b) (blockH key nonce c b))
        (K (.b8 64 (outS (roundsS (startS key c nonce) a) (startS key c nonce))) [])) := by kernel_rfl
end Go.Proofs.YtdipeoacmapehaaDoor

set_option linter.unusedSimpArgs false
set_option linter.unusedVariables false
namespace Go.Proofs.YtdipeoacmapehaaDoor
open Go Go.V Go.Cha
set_option maxRecDepth 100000

theorem wrap64 {n : Int} (h : -9223372036854775808 ≤ n) (h2 : n ≤ 9223372036854775807) : IntKind.i64.wrap n = n := by
  have := IntKind.wrap_i64 n
  rw [this]; omega

theorem block_c (key nonce : List UInt8) (c : UInt32) : HCall Tryd.E 40 [.b8 32 key, .u32 c, .b8 12 nonce] (.ret (.b8 64 (blockS key c nonce)) []) := by
  refine HCall.of_walk (R := RS) (T := T1) (fun f l => bif f == 40 && l == 14 then .inv Nat (fun n => n ≤ 10) (fun n => 10 - n) (blockT key nonce c) (blockH key nonce c) else .unroll 17) 5 rfl rfl ?_
  rw [block_w]
  refine ⟨⟨0, Nat.zero_le _, ?_⟩, fun a ha => ?_⟩
  · exact ⟨rfl, rfl, rfl, rfl, rfl, rfl, rfl, rfl, rfl, trivial⟩
  rcases Nat.lt_or_ge a 10 with h | h
  · rw [ltI_eq, decide_eq_true (show (a : Int) < 10 by omega)]
    refine ⟨a + 1, ⟨by omega, h⟩, rfl, rfl, rfl, ?_, rfl, rfl, rfl, rfl, rfl, trivial⟩
    rw [wr_eq, wrap64 (by omega) (by omega)]; rfl
  · obtain rfl : a = 10 := by omega
    rw [ltI_eq, decide_eq_false (show ¬ ((10 : Nat) : Int) < 10 by decide), blockS_eq]
    exact ⟨rfl, rfl⟩

noncomputable def T2 : Ctr Tryd.E := T1.add 40 (fun
    | [.b8 32 key, .u32 c, .b8 12 nonce] => some (true, .ret (.b8 64 (blockS key c nonce)) [])
    | _ => none) (by
      intro args pre out h hp
      split at h
      · simp only [Option.some.injEq, Prod.mk.injEq] at h
        obtain ⟨rfl, rfl⟩ := h
        exact block_c _ _ _
      · simp at h)
end Go.Proofs.YtdipeoacmapehaaDoor

set_option linter.unusedSimpArgs false
set_option linter.unusedVariables false
namespace Go.Proofs.YtdipeoacmapehaaDoor
open Go Go.V Go.Cha
set_option maxRecDepth 100000
theorem picked_w (n m : Int) (K : AV → Heap → Prop) : walk Tryd.E RS T0.C (fun _ _ => .unroll 6) 3 6 [.int .i64 n, .int .i64 m] K =
    cnd (m != 0) (ite2 (ltI (n.tmod m) 0) (K (.int .i64 (wr .i64 (n.tmod m + m))) []) (K (.int .i64 (n.tmod m)) [])) := by kernel_rfl
theorem picked_c (n m : Int) (h1 : 0 < m) (h2 : m ≤ 9223372036854775807) : HCall Tryd.E 6 [.int .i64 n, .int .i64 m] (.ret (.int .i64 (n % m)) []) := by
  refine HCall.of_walk (R := RS) (T := T0) (fun _ _ => .unroll 6) 3 rfl rfl ?_
  rw [picked_w, cnd_eq, ltI_eq, wr_eq]
  refine ⟨by simp; omega, ?_⟩
  have e := pick_val (n := n) h1
  have h6 := Int.emod_nonneg n (show m ≠ 0 by omega)
  have h7 := Int.emod_lt_of_pos n h1
  rw [ite2_eq]
  refine ⟨fun h => ?_, fun h => ?_⟩
  · rw [if_pos (of_decide_eq_true h)] at e
    rw [e, wrapI (by omega) (by omega)]; exact ⟨rfl, rfl⟩
  · rw [if_neg (of_decide_eq_false h)] at e
    rw [e]; exact ⟨rfl, rfl⟩
noncomputable def T3 : Ctr Tryd.E := T2.add 6 (fun
    | [.int .i64 n, .int .i64 m] => some (decide (0 < m) && decide (m ≤ 9223372036854775807), .ret (.int .i64 (n % m)) [])
    | _ => none) (by
      intro args pre out h hp
      split at h
      · simp only [Option.some.injEq, Prod.mk.injEq] at h
        obtain ⟨rfl, rfl⟩ := h
        simp only [Bool.and_eq_true, decide_eq_true_eq] at hp
        exact picked_c _ _ hp.1 hp.2
      · simp at h)
end Go.Proofs.YtdipeoacmapehaaDoor

set_option linter.unusedSimpArgs false
set_option linter.unusedVariables false
namespace Go.Proofs.YtdipeoacmapehaaDoor
open Go Go.V Go.Cha Go.Bla
set_option maxHeartbeats 0
set_option maxRecDepth 100000

theorem bsum_eq (full : Bool) (b : List UInt8) (K : AV → Heap → Prop) : walk Tryd.E RS B3.C (fun _ l => .unroll 5) 5 11 [.vec8 full b] K = (
 let x0 : List UInt8 := (Bla.BS.held Bla.startS)
 let x1 : List UInt8 := (Bla.BS.held (bsO (Bla.BS.h Bla.startS) x0 (((Bla.BS.n Bla.startS) : Nat) : Int) (((Bla.BS.len Bla.startS) : Nat) : Int) b))
 let x2 : Int := (((Bla.BS.n (bsO (Bla.BS.h Bla.startS) x0 (((Bla.BS.n Bla.startS) : Nat) : Int) (((Bla.BS.len Bla.startS) : Nat) : Int) b)) : Nat) : Int)
 let x3 : Int := (((Bla.BS.len (bsO (Bla.BS.h Bla.startS) x0 (((Bla.BS.n Bla.startS) : Nat) : Int) (((Bla.BS.len Bla.startS) : Nat) : Int) b)) : Nat) : Int)
 cnd ((Bla.okS x0 0 0) && (leB (0 + (List.length b)) 1073741824))
 (cnd (Bla.okS x1 x2 x3)
 (K (AV.b8 32 (Bla.endB (Bla.BS.mk (Bla.BS.h (bsO (Bla.BS.h Bla.startS) x0 (((Bla.BS.n Bla.startS) : Nat) : Int) (((Bla.BS.len Bla.startS) : Nat) : Int) b)) x1 (Int.toNat x2) (Int.toNat x3)))) []))) := by kernel_rfl

end Go.Proofs.YtdipeoacmapehaaDoor

set_option linter.unusedSimpArgs false
set_option linter.unusedVariables false
namespace Go.Proofs.YtdipeoacmapehaaDoor
open Go Go.V Go.Cha Go.Bla
set_option maxRecDepth 100000
theorem bsO_start (b : List UInt8) : bsO startS.h startS.held ((startS.n : Nat) : Int) ((startS.len : Nat) : Int) b = addB startS b := rfl
theorem bs_eta (s : BS) : BS.mk s.h s.held (Int.toNat ((s.n : Nat) : Int)) (Int.toNat ((s.len : Nat) : Int)) = s := rfl
theorem bsum_c (full : Bool) (b : List UInt8) (h : b.length ≤ 1073741824) : HCall Tryd.E 11 [.vec8 full b] (.ret (.b8 32 (sumS b)) []) := by
  refine HCall.of_walk (R := RS) (T := B3) (fun _ _ => .unroll 5) 5 rfl rfl ?_
  rw [bsum_eq]
  obtain ⟨o, _⟩ := addB_ok (b := b) startS_ok (by show 0 + b.length ≤ _; omega)
  dsimp only
  rw [bsO_start, bs_eta, show okS startS.held 0 0 = true from startS_ok.s, o.s, leB_of (by omega), sumS_eq]
  exact ⟨rfl, rfl⟩
noncomputable def B4 : Ctr Tryd.E := (B3.add 11 (fun
    | [.vec8 _ b] => some (leB b.length 1073741824, .ret (.b8 32 (sumS b)) [])
    | _ => none) (by
      intro args pre out h hp
      split at h
      · simp only [Option.some.injEq, Prod.mk.injEq] at h
        obtain ⟨rfl, rfl⟩ := h
        exact bsum_c _ _ (leB_iff.1 hp)
      · simp at h)).add 6 (fun
    | [.int .i64 n, .int .i64 m] => some (decide (0 < m) && decide (m ≤ 9223372036854775807), .ret (.int .i64 (n % m)) [])
    | _ => none) (by
      intro args pre out h hp
      split at h
      · simp only [Option.some.injEq, Prod.mk.injEq] at h
        obtain ⟨rfl, rfl⟩ := h
        simp only [Bool.and_eq_true, decide_eq_true_eq] at hp
        exact picked_c _ _ hp.1 hp.2
      · simp at h)
end Go.Proofs.YtdipeoacmapehaaDoor

set_option linter.unusedSimpArgs false
set_option linter.unusedVariables false
namespace Go.Proofs.YtdipeoacmapehaaDoor
open Go Go.V Go.Cha Go.Bla
noncomputable abbrev RR := ROps.rows Tryd.E
set_option maxHeartbeats 0
set_option maxRecDepth 100000

theorem kcat1_eq (fa : Bool) (a : List UInt8) (K : AV → Heap → Prop) : walk Tryd.E RR B4.C (fun _ l => .unroll 5) 5 31 [.vec false 1 [.vec8 fa a]] K = (
 let x0 : Nat := (List.length a)
 cnd (leB (x0 * 1) 140737488355328)
 (K (AV.sl 0 0 1 x0) [Ent.grow8 a []])) := by kernel_rfl

theorem kcat2_eq (fa fb : Bool) (a b : List UInt8) (K : AV → Heap → Prop) : walk Tryd.E RR B4.C (fun _ l => .unroll 5) 5 31 [.vec false 1 [.vec8 fa a, .vec8 fb b]] K = (
 let x0 : Nat := (List.length a)
 let x1 : Nat := 140737488355328
 let x2 : Nat := (x0 + (List.length b))
 cnd (leB (x0 * 1) x1)
 (cnd (x0 == x0)
 (cnd (leB (x2 * 1) x1)
 (K (AV.sl 0 0 1 x2) [Ent.grow8 (a ++ b) []])))) := by kernel_rfl

end Go.Proofs.YtdipeoacmapehaaDoor

set_option linter.unusedSimpArgs false
set_option linter.unusedVariables false
namespace Go.Proofs.YtdipeoacmapehaaDoor
open Go Go.V Go.Cha Go.Bla
set_option maxRecDepth 100000

theorem kcat1_c (fa : Bool) (a : List UInt8) (h : a.length ≤ 1000000) : HCall Tryd.E 31 [.vec false 1 [.vec8 fa a]] (.ret (.sl 0 0 1 a.length) [.grow8 a []]) := by
  refine HCall.of_walk (R := RR) (T := B4) (fun _ _ => .unroll 5) 5 rfl rfl ?_
  rw [kcat1_eq]
  dsimp only
  rw [leB_of (by omega)]
  exact ⟨rfl, rfl⟩
theorem kcat2_c (fa fb : Bool) (a b : List UInt8) (h : a.length + b.length ≤ 1000000) : HCall Tryd.E 31 [.vec false 1 [.vec8 fa a, .vec8 fb b]] (.ret (.sl 0 0 1 (a.length + b.length)) [.grow8 (a ++ b) []]) := by
  refine HCall.of_walk (R := RR) (T := B4) (fun _ _ => .unroll 5) 5 rfl rfl ?_
  rw [kcat2_eq]
  dsimp only
  rw [leB_of (by omega), leB_of (by omega), beq_self_eq_true]
  exact ⟨rfl, rfl⟩
noncomputable def K1 : Ctr Tryd.E := B4.add 31 (fun
    | [.vec false 1 [.vec8 _ a]] => some (leB a.length 1000000, .ret (.sl 0 0 1 a.length) [.grow8 a []])
    | [.vec false 1 [.vec8 _ a, .vec8 _ b]] => some (leB (a.length + b.length) 1000000, .ret (.sl 0 0 1 (a.length + b.length)) [.grow8 (a ++ b) []])
    | _ => none) (by
      intro args pre out h hp
      split at h
      · simp only [Option.some.injEq, Prod.mk.injEq] at h
        obtain ⟨rfl, rfl⟩ := h
        exact kcat1_c _ _ (leB_iff.1 hp)
      · simp only [Option.some.injEq, Prod.mk.injEq] at h
        obtain ⟨rfl, rfl⟩ := h
        exact kcat2_c _ _ _ _ (leB_iff.1 hp)
      · simp at h)
end Go.Proofs.YtdipeoacmapehaaDoor

set_option linter.unusedSimpArgs false
set_option linter.unusedVariables false
namespace Go.Proofs.YtdipeoacmapehaaDoor
open Go Go.V Go.Cha Go.Bla
set_option maxHeartbeats 0
set_option maxRecDepth 100000

theorem ksum1_eq (fa : Bool) (a : List UInt8) (K : AV → Heap → Prop) : walk Tryd.E RS K1.C (fun _ l => .unroll 5) 5 35 [.vec false 1 [.vec8 fa a]] K = (
 let x0 : Nat := (List.length a)
 let x1 : List UInt8 := (List.take x0 (List.drop 0 a))
 cnd (leB x0 1000000)
 (cnd ((Bool.true && (leB (0 + x0) x0)) && Bool.true)
 (cnd (leB (List.length x1) 1073741824)
 (K (AV.sl 0 0 1 32) [Ent.blk [AV.b8 32 (Bla.sumS x1)] []])))) := by kernel_rfl

theorem ksum2_eq (fa fb : Bool) (a b : List UInt8) (K : AV → Heap → Prop) : walk Tryd.E RS K1.C (fun _ l => .unroll 5) 5 35 [.vec false 1 [.vec8 fa a, .vec8 fb b]] K = (
 let x0 : Nat := ((List.length a) + (List.length b))
 let x1 : List UInt8 := (List.take x0 (List.drop 0 (a ++ b)))
 cnd (leB x0 1000000)
 (cnd ((Bool.true && (leB (0 + x0) (List.length (a ++ b)))) && Bool.true)
 (cnd (leB (List.length x1) 1073741824)
 (K (AV.sl 0 0 1 32) [Ent.blk [AV.b8 32 (Bla.sumS x1)] []])))) := by kernel_rfl

end Go.Proofs.YtdipeoacmapehaaDoor

set_option linter.unusedSimpArgs false
set_option linter.unusedVariables false
namespace Go.Proofs.YtdipeoacmapehaaDoor
open Go Go.V Go.Cha Go.Bla
set_option maxRecDepth 100000

theorem take_drop_all (l : List UInt8) (n : Nat) (h : l.length = n) : List.take n (List.drop 0 l) = l := by
  subst h; simp
theorem ksum1_c (fa : Bool) (a : List UInt8) (h : a.length ≤ 1000000) : HCall Tryd.E 35 [.vec false 1 [.vec8 fa a]] (.ret (.sl 0 0 1 32) [.blk [.b8 32 (sumS a)] []]) := by
  refine HCall.of_walk (R := RS) (T := K1) (fun _ _ => .unroll 5) 5 rfl rfl ?_
  rw [ksum1_eq]
  dsimp only
  rw [take_drop_all _ _ rfl, leB_of h, leB_of (by omega), leB_of (by omega)]
  exact ⟨rfl, rfl⟩
theorem ksum2_c (fa fb : Bool) (a b : List UInt8) (h : a.length + b.length ≤ 1000000) : HCall Tryd.E 35 [.vec false 1 [.vec8 fa a, .vec8 fb b]] (.ret (.sl 0 0 1 32) [.blk [.b8 32 (sumS (a ++ b))] []]) := by
  refine HCall.of_walk (R := RS) (T := K1) (fun _ _ => .unroll 5) 5 rfl rfl ?_
  rw [ksum2_eq]
  dsimp only
  rw [take_drop_all _ _ (by simp), leB_of h, leB_of (by simp), leB_of (by simp; omega)]
  exact ⟨rfl, rfl⟩
noncomputable def K2 : Ctr Tryd.E := K1.add 35 (fun
    | [.vec false 1 [.vec8 _ a]] => some (leB a.length 1000000, .ret (.sl 0 0 1 32) [.blk [.b8 32 (sumS a)] []])
    | [.vec false 1 [.vec8 _ a, .vec8 _ b]] => some (leB (a.length + b.length) 1000000, .ret (.sl 0 0 1 32) [.blk [.b8 32 (sumS (a ++ b))] []])
    | _ => none) (by
      intro args pre out h hp
      split at h
      · simp only [Option.some.injEq, Prod.mk.injEq] at h
        obtain ⟨rfl, rfl⟩ := h
        exact ksum1_c _ _ (leB_iff.1 hp)
      · simp only [Option.some.injEq, Prod.mk.injEq] at h
        obtain ⟨rfl, rfl⟩ := h
        exact ksum2_c _ _ _ _ (leB_iff.1 hp)
      · simp at h)
end Go.Proofs.YtdipeoacmapehaaDoor

set_option linter.unusedSimpArgs false
set_option linter.unusedVariables false
namespace Go.Proofs.YtdipeoacmapehaaDoor
open Go Go.V Go.Cha Go.Bla
set_option maxRecDepth 100000
noncomputable abbrev RQ := ROps.rows0 Tryd.E
/-- A short key's block; and the first of it turned by a byte. -/
def padK (key : List UInt8) : List UInt8 := key.take 64 ++ List.replicate (64 - key.length) 0
def xorTo (c : UInt8) (i : Nat) (l : List UInt8) : List UInt8 := (l.take i).map (· ^^^ c) ++ l.drop i
noncomputable def macL (key : List UInt8) : LPlan := .rel [0, 1, 4, 5, 6] [] Nat (fun _ i => i ≤ 64) (fun i => 64 - i) (fun i => [(20, .int .i64 (i : Nat))]) (fun i => [(1, .blk [.b8 64 (xorTo 54 i (padK key))] []), (2, .blk [.b8 64 (xorTo 92 i (padK key))] [])])
end Go.Proofs.YtdipeoacmapehaaDoor

set_option linter.unusedSimpArgs false
set_option linter.unusedVariables false
namespace Go.Proofs.YtdipeoacmapehaaDoor
open Go Go.V Go.Cha Go.Bla
set_option maxHeartbeats 0
set_option maxRecDepth 100000

theorem kmac_eq (fk fb : Bool) (key b : List UInt8) (K : AV → Heap → Prop) : walk Tryd.E RQ K2.C (fun f l => macL key) 5 30 [.vec8 fk key, .vec8 fb b] K = (
 let x0 : Nat := (List.length key)
 let x1 : List UInt8 := (Bla.sumS key)
 let x2 : List UInt8 := (List.replicate 64 0)
 let x3 : List UInt8 := ((List.take 64 x1) ++ (List.drop (Min.min (List.length x1) 64) x2))
 let x4 : Nat := (List.length x3)
 let x5 : Nat := (List.length b)
 let x6 : List UInt8 := (Bla.sumS (x3 ++ b))
 let x7 : Nat := (x4 + (List.length x6))
 let x8 : List UInt8 := (List.take x7 (List.drop 0 (x3 ++ x6)))
 ite2 (ltI 64 ((x0 : Nat) : Int))
 -- THEN
 (cnd (leB x0 1000000)
 ((∃ w0 : Nat, (w0 ≤ 64) ∧ ((AV.sl (shift 2 0) 0 1 32 = AV.sl (shift 2 0) 0 1 32) ∧ ((AV.vec8 fb b = AV.vec8 fb b) ∧ ((AV.int IntKind.i64 0 = AV.int IntKind.i64 ((w0 : Nat) : Int)) ∧ ((AV.b8 32 [0, 0, 0, 0, 0, 0, 0, 0, 0, 0, 0, 0, 0, 0, 0, 0, 0, 0, 0, 0, 0, 0, 0, 0, 0, 0, 0, 0, 0, 0, 0, 0] = AV.b8 32 [0, 0, 0, 0, 0, 0, 0, 0, 0, 0, 0, 0, 0, 0, 0, 0, 0, 0, 0, 0, 0, 0, 0, 0, 0, 0, 0, 0, 0, 0, 0, 0]) ∧ False))))) ∧ (∀ w1 : Nat, (w1 ≤ 64 → ite2 (ltI ((w1 : Nat) : Int) 64)
 -- THEN
 (cnd (inB ((w1 : Nat) : Int) 64)
 (cnd (inB ((w1 : Nat) : Int) 64)
 (cnd (inB ((w1 : Nat) : Int) 64)
 (cnd (inB ((w1 : Nat) : Int) 64)
 ((∃ w2 : Nat, ((((fun i => 64 - i) w2) < ((fun i => 64 - i) w1)) ∧ (w2 ≤ 64)) ∧ ((AV.sl (shift 2 0) 0 1 32 = AV.sl (shift 2 0) 0 1 32) ∧ ((AV.vec8 fb b = AV.vec8 fb b) ∧ ((AV.int IntKind.i64 (wr IntKind.i64 (((w1 : Nat) : Int) + 1)) = AV.int IntKind.i64 ((w2 : Nat) : Int)) ∧ ((AV.b8 32 [0, 0, 0, 0, 0, 0, 0, 0, 0, 0, 0, 0, 0, 0, 0, 0, 0, 0, 0, 0, 0, 0, 0, 0, 0, 0, 0, 0, 0, 0, 0, 0] = AV.b8 32 [0, 0, 0, 0, 0, 0, 0, 0, 0, 0, 0, 0, 0, 0, 0, 0, 0, 0, 0, 0, 0, 0, 0, 0, 0, 0, 0, 0, 0, 0, 0, 0]) ∧ ((AV.b8 64 (xorTo 54 w1 (padK key)) = AV.b8 64 (xorTo 54 w2 (padK key))) ∧ ((AV.b8 64 (xorTo 92 w1 (padK key)) = AV.b8 64 (xorTo 92 w2 (padK key))) ∧ ((AV.b8 64 (List.set x3 (ofs 0 ((w1 : Nat) : Int)) ((List.getD x3 (ofs 0 ((w1 : Nat) : Int)) 0) ^^^ 54)) = AV.b8 64 x3) ∧ ((AV.b8 64 (List.set x3 (ofs 0 ((w1 : Nat) : Int)) ((List.getD x3 (ofs 0 ((w1 : Nat) : Int)) 0) ^^^ 92)) = AV.b8 64 x3) ∧ True))))))))))))))
 -- ELSE
 (cnd (leB (x4 + x5) 1000000)
 (cnd (leB x7 1000000)
 (cnd ((Bool.true && (leB (0 + x7) (List.length (x3 ++ x6)))) && Bool.true)
 (cnd (leB (List.length x8) 1073741824)
 (K (AV.b8 32 (Bla.sumS x8)) [])))))))))
 -- ELSE
 ((∃ w3 : Nat, (w3 ≤ 64) ∧ ((AV.vec8 fk key = AV.vec8 fk key) ∧ ((AV.vec8 fb b = AV.vec8 fb b) ∧ ((AV.int IntKind.i64 0 = AV.int IntKind.i64 ((w3 : Nat) : Int)) ∧ ((AV.b8 32 [0, 0, 0, 0, 0, 0, 0, 0, 0, 0, 0, 0, 0, 0, 0, 0, 0, 0, 0, 0, 0, 0, 0, 0, 0, 0, 0, 0, 0, 0, 0, 0] = AV.b8 32 [0, 0, 0, 0, 0, 0, 0, 0, 0, 0, 0, 0, 0, 0, 0, 0, 0, 0, 0, 0, 0, 0, 0, 0, 0, 0, 0, 0, 0, 0, 0, 0]) ∧ ((AV.b8 64 ((List.take 64 key) ++ (List.drop (Min.min x0 64) x2)) = AV.b8 64 (xorTo 54 w3 (padK key))) ∧ ((AV.b8 64 ((List.take 64 key) ++ (List.drop (Min.min x0 64) x2)) = AV.b8 64 (xorTo 92 w3 (padK key))) ∧ True))))))) ∧ (∀ w4 : Nat, (w4 ≤ 64 → ite2 (ltI ((w4 : Nat) : Int) 64)
 -- THEN
 (cnd (inB ((w4 : Nat) : Int) 64)
 (cnd (inB ((w4 : Nat) : Int) 64)
 (cnd (inB ((w4 : Nat) : Int) 64)
 (cnd (inB ((w4 : Nat) : Int) 64)
 ((∃ w5 : Nat, ((((fun i => 64 - i) w5) < ((fun i => 64 - i) w4)) ∧ (w5 ≤ 64)) ∧ ((AV.vec8 fk key = AV.vec8 fk key) ∧ ((AV.vec8 fb b = AV.vec8 fb b) ∧ ((AV.int IntKind.i64 (wr IntKind.i64 (((w4 : Nat) : Int) + 1)) = AV.int IntKind.i64 ((w5 : Nat) : Int)) ∧ ((AV.b8 32 [0, 0, 0, 0, 0, 0, 0, 0, 0, 0, 0, 0, 0, 0, 0, 0, 0, 0, 0, 0, 0, 0, 0, 0, 0, 0, 0, 0, 0, 0, 0, 0] = AV.b8 32 [0, 0, 0, 0, 0, 0, 0, 0, 0, 0, 0, 0, 0, 0, 0, 0, 0, 0, 0, 0, 0, 0, 0, 0, 0, 0, 0, 0, 0, 0, 0, 0]) ∧ ((AV.b8 64 (List.set (xorTo 54 w4 (padK key)) (ofs 0 ((w4 : Nat) : Int)) ((List.getD (xorTo 54 w4 (padK key)) (ofs 0 ((w4 : Nat) : Int)) 0) ^^^ 54)) = AV.b8 64 (xorTo 54 w5 (padK key))) ∧ ((AV.b8 64 (List.set (xorTo 92 w4 (padK key)) (ofs 0 ((w4 : Nat) : Int)) ((List.getD (xorTo 92 w4 (padK key)) (ofs 0 ((w4 : Nat) : Int)) 0) ^^^ 92)) = AV.b8 64 (xorTo 92 w5 (padK key))) ∧ True))))))))))))
 -- ELSE
 (cnd (leB ((List.length (xorTo 54 w4 (padK key))) + x5) 1000000)
 (cnd (leB ((List.length (xorTo 92 w4 (padK key))) + (List.length (Bla.sumS ((xorTo 54 w4 (padK key)) ++ b)))) 1000000)
 (cnd ((Bool.true && (leB (0 + ((List.length (xorTo 92 w4 (padK key))) + (List.length (Bla.sumS ((xorTo 54 w4 (padK key)) ++ b))))) (List.length ((xorTo 92 w4 (padK key)) ++ (Bla.sumS ((xorTo 54 w4 (padK key)) ++ b)))))) && Bool.true)
 (cnd (leB (List.length (List.take ((List.length (xorTo 92 w4 (padK key))) + (List.length (Bla.sumS ((xorTo 54 w4 (padK key)) ++ b)))) (List.drop 0 ((xorTo 92 w4 (padK key)) ++ (Bla.sumS ((xorTo 54 w4 (padK key)) ++ b)))))) 1073741824)
 (K (AV.b8 32 (Bla.sumS (List.take ((List.length (xorTo 92 w4 (padK key))) + (List.length (Bla.sumS ((xorTo 54 w4 (padK key)) ++ b)))) (List.drop 0 ((xorTo 92 w4 (padK key)) ++ (Bla.sumS ((xorTo 54 w4 (padK key)) ++ b))))))) []))))))))) := by kernel_rfl

end Go.Proofs.YtdipeoacmapehaaDoor

set_option linter.unusedSimpArgs false
set_option linter.unusedVariables false
namespace Go.Proofs.YtdipeoacmapehaaDoor
open Go Go.V Go.Cha Go.Bla
set_option maxRecDepth 100000

theorem padK_length (key : List UInt8) (h : key.length ≤ 64) : (padK key).length = 64 := by
  simp [padK]; omega
theorem xorTo_length (c : UInt8) (i : Nat) (l : List UInt8) : (xorTo c i l).length = l.length := by
  simp [xorTo]; omega
theorem xorTo_zero (c : UInt8) (l : List UInt8) : xorTo c 0 l = l := by simp [xorTo]
theorem xorTo_step (c : UInt8) (i : Nat) (l : List UInt8) (h : i < l.length) : (xorTo c i l).set i ((xorTo c i l).getD i 0 ^^^ c) = xorTo c (i + 1) l := by
  have hl : ((l.take i).map (· ^^^ c)).length = i := by simp; omega
  have hg : (xorTo c i l).getD i 0 = l[i] := by
    unfold xorTo
    rw [List.getD_eq_getElem?_getD, List.getElem?_append_right (by omega), hl, Nat.sub_self, List.getElem?_drop]
    simp [h]
  rw [hg]
  unfold xorTo
  rw [List.set_append_right _ _ (by omega), hl, Nat.sub_self, List.drop_eq_getElem_cons h, List.set_cons_zero, List.take_succ_eq_append_getElem h, List.map_append, List.append_assoc]
  rfl
theorem pad_start (key : List UInt8) (h : key.length ≤ 64) : List.take 64 key ++ List.drop (min key.length 64) (List.replicate 64 0) = padK key := by
  unfold padK
  rw [Nat.min_eq_left h, List.drop_replicate]
noncomputable def macS (key b : List UInt8) : List UInt8 := sumS (xorTo 92 64 (padK key) ++ sumS (xorTo 54 64 (padK key) ++ b))

theorem take_drop_app (a b : List UInt8) (n : Nat) (h : (a ++ b).length = n) : List.take n (List.drop 0 (a ++ b)) = a ++ b := by subst h; rw [List.drop_zero, List.take_length]

theorem kmac_c (fk fb : Bool) (key b : List UInt8) (h1 : key.length ≤ 64) (h2 : b.length ≤ 100000) : HCall Tryd.E 30 [.vec8 fk key, .vec8 fb b] (.ret (.b8 32 (macS key b)) []) := by
  refine HCall.of_walk (R := RQ) (T := K2) (fun _ _ => macL key) 5 rfl rfl ?_
  rw [kmac_eq]
  dsimp only
  refine ite2_iff.2 ⟨fun h => ?_, fun _ => ?_⟩
  · have := of_ltI h
    omega
  have hp : (padK key).length = 64 := padK_length key h1
  refine ⟨⟨0, by omega, rfl, rfl, rfl, rfl, ?_, ?_, trivial⟩, fun i hi => ite2_iff.2 ⟨fun h => ?_, fun h => ?_⟩⟩
  · rw [xorTo_zero, ← pad_start key h1]
  · rw [xorTo_zero, ← pad_start key h1]
  · have hi' : i < 64 := by have := of_ltI h; omega
    have hin : inB ((i : Nat) : Int) 64 = true := inB_iff.2 (by omega)
    have ho : ofs 0 ((i : Nat) : Int) = i := by simp [ofs]
    rw [hin, ho, xorTo_step _ _ _ (by omega), xorTo_step _ _ _ (by omega)]
    refine ⟨i + 1, ⟨by show 64 - (i + 1) < 64 - i; omega, by omega⟩, rfl, rfl, ?_, rfl, rfl, rfl, trivial⟩
    rw [wr_of (by omega) (by omega)]
    rfl
  · have hi' : i = 64 := by
      have : ¬ ((i : Nat) : Int) < 64 := fun hh => by rw [ltI_of hh] at h; simp at h
      omega
    subst hi'
    have l1 : (xorTo 92 64 (padK key)).length = 64 := by rw [xorTo_length, hp]
    have l2 : (xorTo 54 64 (padK key)).length = 64 := by rw [xorTo_length, hp]
    have e := take_drop_app (xorTo 92 64 (padK key)) (sumS (xorTo 54 64 (padK key) ++ b)) ((xorTo 92 64 (padK key)).length + (sumS (xorTo 54 64 (padK key) ++ b)).length) (by simp)
    rw [e]
    rw [leB_of (by omega), leB_of (by rw [l1, length_sumS]; omega), leB_of (by rw [List.length_append]; omega), leB_of (by rw [List.length_append, l1, length_sumS]; omega)]
    exact ⟨rfl, rfl⟩
end Go.Proofs.YtdipeoacmapehaaDoor

set_option linter.unusedSimpArgs false
set_option linter.unusedVariables false
namespace Go.Proofs.YtdipeoacmapehaaDoor
open Go Go.V Go.Cha Go.Bla
set_option maxRecDepth 100000
noncomputable def K3 : Ctr Tryd.E := K2.add 30 (fun
    | [.vec8 _ key, .vec8 _ b] => some (leB key.length 64 && leB b.length 100000, .ret (.b8 32 (macS key b)) [])
    | _ => none) (by
      intro args pre out h hp
      split at h
      · simp only [Option.some.injEq, Prod.mk.injEq] at h
        obtain ⟨rfl, rfl⟩ := h
        simp only [Bool.and_eq_true] at hp
        exact kmac_c _ _ _ _ (leB_iff.1 hp.1) (leB_iff.1 hp.2)
      · simp at h)
theorem length_macS (key b : List UInt8) : (macS key b).length = 32 := length_sumS _
end Go.Proofs.YtdipeoacmapehaaDoor

set_option linter.unusedSimpArgs false
set_option linter.unusedVariables false
namespace Go.Proofs.YtdipeoacmapehaaDoor
open Go Go.V Go.Cha Go.Bla
set_option maxHeartbeats 0
set_option maxRecDepth 100000

theorem kthree_eq (fb : Bool) (chain b : List UInt8) (K : AV → Heap → Prop) : walk Tryd.E RQ K3.C (fun f l => .unroll 5) 5 25 [.b8 32 chain, .vec8 fb b] K = (
 let x0 : List UInt8 := (macS chain b)
 let x1 : Bool := (leB (List.length x0) 64)
 let x2 : List UInt8 := (macS x0 (List.take 1 (List.drop 0 ([] ++ (List.take 1 (List.drop 0 [1]))))))
 let x3 : Nat := ((List.length x2) + 1)
 let x4 : List UInt8 := (x2 ++ (List.take 1 (List.drop 0 [2])))
 let x5 : List UInt8 := (List.take x3 (List.drop 0 x4))
 let x6 : Nat := ((List.length (macS x0 x5)) + 1)
 let x7 : List UInt8 := ((macS x0 x5) ++ (List.take 1 (List.drop 0 [3])))
 let x8 : List UInt8 := (List.take x6 (List.drop 0 x7))
 cnd ((leB (List.length chain) 64) && (leB (List.length b) 100000))
 (cnd (x1 && Bool.true)
 (cnd (leB x3 1000000)
 (cnd (Bool.true && ((Bool.true && (leB (0 + x3) (List.length x4))) && Bool.true))
 (cnd (x1 && (leB (List.length x5) 100000))
 (cnd (leB x6 1000000)
 (cnd (Bool.true && ((Bool.true && (leB (0 + x6) (List.length x7))) && Bool.true))
 (cnd (x1 && (leB (List.length x8) 100000))
 (K (AV.agg [AV.b8 32 x2, AV.b8 32 (macS x0 x5), AV.b8 32 (macS x0 x8)]) []))))))))) := by kernel_rfl

end Go.Proofs.YtdipeoacmapehaaDoor

set_option linter.unusedSimpArgs false
set_option linter.unusedVariables false
namespace Go.Proofs.YtdipeoacmapehaaDoor
open Go Go.V Go.Cha Go.Bla
set_option maxRecDepth 100000
noncomputable def key1 (chain b : List UInt8) : List UInt8 := macS (macS chain b) [1]
noncomputable def key2 (chain b : List UInt8) : List UInt8 := macS (macS chain b) (key1 chain b ++ [2])
noncomputable def key3 (chain b : List UInt8) : List UInt8 := macS (macS chain b) (key2 chain b ++ [3])
theorem take_snoc (a : List UInt8) (x : UInt8) : List.take (a.length + 1) (List.drop 0 (a ++ (List.take 1 (List.drop 0 [x])))) = a ++ [x] := by
  rw [List.drop_zero]
  exact List.take_of_length_le (by simp)
theorem kthree_c (fb : Bool) (chain b : List UInt8) (h1 : chain.length ≤ 64) (h2 : b.length ≤ 100000) : HCall Tryd.E 25 [.b8 32 chain, .vec8 fb b] (.ret (.agg [.b8 32 (key1 chain b), .b8 32 (key2 chain b), .b8 32 (key3 chain b)]) []) := by
  refine HCall.of_walk (R := RQ) (T := K3) (fun _ _ => .unroll 5) 5 rfl rfl ?_
  rw [kthree_eq]
  dsimp only
  rw [show macS (macS chain b) (List.take 1 (List.drop 0 ([] ++ List.take 1 (List.drop 0 [1])))) = key1 chain b from rfl]
  rw [take_snoc]
  rw [show macS (macS chain b) (key1 chain b ++ [2]) = key2 chain b from rfl]
  rw [take_snoc]
  rw [show macS (macS chain b) (key2 chain b ++ [3]) = key3 chain b from rfl]
  have e0 : (macS chain b).length = 32 := length_macS _ _
  have e1 : (key1 chain b).length = 32 := length_macS _ _
  have e2 : (key2 chain b).length = 32 := length_macS _ _
  simp only [List.length_append, List.length_cons, List.length_nil, List.length_take, List.length_drop, e0, e1, e2]
  rw [leB_of h1, leB_of h2]
  exact ⟨rfl, rfl⟩
noncomputable def K4 : Ctr Tryd.E := K3.add 25 (fun
    | [.b8 32 chain, .vec8 _ b] => some (leB chain.length 64 && leB b.length 100000, .ret (.agg [.b8 32 (key1 chain b), .b8 32 (key2 chain b), .b8 32 (key3 chain b)]) [])
    | _ => none) (by
      intro args pre out h hp
      split at h
      · simp only [Option.some.injEq, Prod.mk.injEq] at h
        obtain ⟨rfl, rfl⟩ := h
        simp only [Bool.and_eq_true] at hp
        exact kthree_c _ _ _ (leB_iff.1 hp.1) (leB_iff.1 hp.2)
      · simp at h)
end Go.Proofs.YtdipeoacmapehaaDoor

set_option linter.unusedSimpArgs false
set_option linter.unusedVariables false
namespace Go.Proofs.YtdipeoacmapehaaDoor
open Go Go.V Go.Cha
set_option maxHeartbeats 0
set_option maxRecDepth 100000

theorem half_eq (full : Bool) (b : List UInt8) (K : AV → Heap → Prop) : walk Tryd.E RS T0.C (fun _ _ => .unroll 10) 5 52 [.vec8 full b] K = (
 let x0 : Nat := (List.length b)
 let x1 : Bool := leB (0 + x0) x0
 cnd ((inB 7 x0) && Bool.true)
 (cnd (x1)
 (cnd ((inB 6 x0) && Bool.true)
 (cnd (x1)
 (cnd ((inB 5 x0) && Bool.true)
 (cnd (x1)
 (cnd ((inB 4 x0) && Bool.true)
 (cnd (x1)
 (cnd ((inB 3 x0) && Bool.true)
 (cnd (x1)
 (cnd ((inB 2 x0) && Bool.true)
 (cnd (x1)
 (cnd ((inB 1 x0) && Bool.true)
 (cnd (x1)
 (cnd ((inB 0 x0) && Bool.true)
 (cnd (x1)
 (K (AV.u64 ((shl64 ((shl64 ((shl64 ((shl64 ((shl64 ((shl64 ((shl64 (0 ||| (UInt8.toUInt64 (List.getD b 7 0))) 8) ||| (UInt8.toUInt64 (List.getD b 6 0))) 8) ||| (UInt8.toUInt64 (List.getD b 5 0))) 8) ||| (UInt8.toUInt64 (List.getD b 4 0))) 8) ||| (UInt8.toUInt64 (List.getD b 3 0))) 8) ||| (UInt8.toUInt64 (List.getD b 2 0))) 8) ||| (UInt8.toUInt64 (List.getD b 1 0))) 8) ||| (UInt8.toUInt64 (List.getD b 0 0)))) []))))))))))))))))) := by kernel_rfl

theorem plus3_eq (a0 a1 a2 b0 b1 b2 : UInt64) (K : AV → Heap → Prop) : walk Tryd.E RS T0.C (fun _ _ => .unroll 10) 5 55 [.w64 3 [a0, a1, a2], .w64 3 [b0, b1, b2]] K = (
 let x0 : UInt64 := (List.getD [a0, a1, a2] 0 0)
 let x1 : UInt64 := (List.getD [b0, b1, b2] 0 0)
 let x2 : UInt64 := (carry64 x0 x1 0)
 let x3 : List UInt64 := (List.set [a0, a1, a2] 0 ((x0 + x1) + 0))
 let x4 : UInt64 := (List.getD x3 1 0)
 let x5 : UInt64 := (List.getD [b0, b1, b2] 1 0)
 let x6 : UInt64 := (carry64 x4 x5 x2)
 let x7 : List UInt64 := (List.set x3 1 ((x4 + x5) + x2))
 cnd (bit1 x2)
 (cnd (bit1 x6)
 (K (AV.w64 3 (List.set x7 2 (((List.getD x7 2 0) + (List.getD [b0, b1, b2] 2 0)) + x6))) []))) := by kernel_rfl

theorem mul64_eq (x y : UInt64) (K : AV → Heap → Prop) : walk Tryd.E RS T0.C (fun _ _ => .unroll 10) 5 56 [.u64 x, .u64 y] K = (
 let x0 : UInt64 := (y &&& 4294967295)
 let x1 : UInt64 := (x &&& 4294967295)
 let x2 : UInt64 := (((shr64 x 32) * x0) + (shr64 (x1 * x0) 32))
 K (AV.tup [AV.u64 ((((shr64 x 32) * (shr64 y 32)) + (shr64 x2 32)) + (shr64 ((x2 &&& 4294967295) + (x1 * (shr64 y 32))) 32)), AV.u64 (x * y)]) []) := by kernel_rfl

end Go.Proofs.YtdipeoacmapehaaDoor

set_option linter.unusedSimpArgs false
set_option linter.unusedVariables false
namespace Go.Proofs.YtdipeoacmapehaaDoor
open Go Go.V Go.Fld Go.Pol
set_option maxRecDepth 100000

theorem half_c (full : Bool) (b : List UInt8) (h : b.length = 8) : HCall Tryd.E 52 [.vec8 full b] (.ret (.u64 (halfS b)) []) := by
  refine HCall.of_walk (R := RS) (T := T0) (fun _ _ => .unroll 10) 5 rfl rfl ?_
  rw [half_eq, halfS_eq, h]
  exact ⟨rfl, rfl⟩

theorem plus3_c (a b : List UInt64) : HCall Tryd.E 55 [.w64 3 a, .w64 3 b] (.ret (.w64 3 (w3 (v3 a + v3 b))) []) := by
  refine HCall.of_len rfl rfl fun hl => ?_
  have ha : a.length = 3 := hl _ (List.mem_cons_self ..)
  have hb : b.length = 3 := hl (.w64 3 b) (by simp)
  rw [eta3 ha, eta3 hb]
  generalize a.getD 0 0 = a0; generalize a.getD 1 0 = a1; generalize a.getD 2 0 = a2
  generalize b.getD 0 0 = b0; generalize b.getD 1 0 = b1; generalize b.getD 2 0 = b2
  refine HCall.of_walk (R := RS) (T := T0) (fun _ _ => .unroll 10) 5 rfl rfl ?_
  rw [plus3_eq]
  simp only [List.getD_cons_zero, List.getD_cons_succ, List.set_cons_zero, List.set_cons_succ, bit1, bit1_carry, cnd_true]
  refine ⟨?_, rfl⟩
  congr 1
  symm
  have z : (0 : UInt64).toNat = 0 := rfl
  have p0 := add_part a0 b0 0 (by decide)
  have p1 := add_part a1 b1 _ p0.2
  have p2 := add_part a2 b2 _ p1.2
  generalize carry64 a0 b0 0 = c0 at *
  generalize carry64 a1 b1 c0 = c1 at *
  generalize carry64 a2 b2 c1 = c2 at *
  apply w3_mk
  rw [v3_mk, v3_mk]
  have := lt64 (a2 + b2 + c1)
  have := lt64 (a1 + b1 + c0)
  have := lt64 (a0 + b0 + 0)
  have := lt64 a2
  have := lt64 b2
  omega

theorem mul64_c (x y : UInt64) : HCall Tryd.E 56 [.u64 x, .u64 y] (.ret (.tup [.u64 (mulhi x y), .u64 (x * y)]) []) := by
  refine HCall.of_walk (R := RS) (T := T0) (fun _ _ => .unroll 10) 5 rfl rfl ?_
  rw [mul64_eq]
  refine ⟨?_, rfl⟩
  rw [mulhi_eq, ← mul64_hi]

noncomputable def P1 : Ctr Tryd.E := ((T0.add 52 (fun
    | [.vec8 _ b] => some (b.length == 8, .ret (.u64 (halfS b)) [])
    | _ => none) (by
      intro args pre out h hp
      split at h
      · simp only [Option.some.injEq, Prod.mk.injEq] at h
        obtain ⟨rfl, rfl⟩ := h
        exact half_c _ _ (by simpa using hp)
      · simp at h)).add 55 (fun
    | [.w64 3 a, .w64 3 b] => some (true, .ret (.w64 3 (w3 (v3 a + v3 b))) [])
    | _ => none) (by
      intro args pre out h hp
      split at h
      · simp only [Option.some.injEq, Prod.mk.injEq] at h
        obtain ⟨rfl, rfl⟩ := h
        exact plus3_c _ _
      · simp at h)).add 56 (fun
    | [.u64 x, .u64 y] => some (true, .ret (.tup [.u64 (mulhi x y), .u64 (x * y)]) [])
    | _ => none) (by
      intro args pre out h hp
      split at h
      · simp only [Option.some.injEq, Prod.mk.injEq] at h
        obtain ⟨rfl, rfl⟩ := h
        exact mul64_c _ _
      · simp at h)
end Go.Proofs.YtdipeoacmapehaaDoor

set_option linter.unusedSimpArgs false
set_option linter.unusedVariables false
namespace Go.Proofs.YtdipeoacmapehaaDoor
open Go Go.V Go.Fld Go.Pol
set_option maxHeartbeats 0
set_option maxRecDepth 100000

theorem times_eq (a0 a1 a2 r0 r1 : UInt64) (K : AV → Heap → Prop) : walk Tryd.E RS P1.C (fun _ l => bif l == 23 then .unroll 3 else .unroll 10) 5 54 [.w64 3 [a0, a1, a2], .w64 2 [r0, r1]] K = (
 let x0 : UInt64 := (List.getD [a0, a1, a2] 0 0)
 let x1 : UInt64 := (List.getD [r0, r1] 0 0)
 let x2 : UInt64 := (((x0 * x1) + 0) + 0)
 let x3 : List UInt64 := (List.set [0, 0, 0, 0, 0] 0 ((x2 + 0) + 0))
 let x4 : UInt64 := (List.getD [r0, r1] 1 0)
 let x5 : UInt64 := (List.getD x3 1 0)
 let x6 : UInt64 := (((x0 * x4) + x5) + 0)
 let x7 : UInt64 := (((Fld.mulhi x0 x1) + (carry64 (x0 * x1) 0 0)) + (carry64 x2 0 0))
 let x8 : List UInt64 := (List.set (List.set x3 1 ((x6 + x7) + 0)) 2 (((Fld.mulhi x0 x4) + (carry64 (x0 * x4) x5 0)) + (carry64 x6 x7 0)))
 let x9 : UInt64 := (List.getD [a0, a1, a2] 1 0)
 let x10 : UInt64 := (List.getD x8 1 0)
 let x11 : UInt64 := (((x9 * x1) + x10) + 0)
 let x12 : List UInt64 := (List.set x8 1 ((x11 + 0) + 0))
 let x13 : UInt64 := (List.getD x12 2 0)
 let x14 : UInt64 := (((x9 * x4) + x13) + 0)
 let x15 : UInt64 := (((Fld.mulhi x9 x1) + (carry64 (x9 * x1) x10 0)) + (carry64 x11 0 0))
 let x16 : List UInt64 := (List.set (List.set x12 2 ((x14 + x15) + 0)) 3 (((Fld.mulhi x9 x4) + (carry64 (x9 * x4) x13 0)) + (carry64 x14 x15 0)))
 let x17 : UInt64 := (List.getD [a0, a1, a2] 2 0)
 let x18 : UInt64 := (List.getD x16 2 0)
 let x19 : UInt64 := (((x17 * x1) + x18) + 0)
 let x20 : List UInt64 := (List.set x16 2 ((x19 + 0) + 0))
 let x21 : UInt64 := (List.getD x20 3 0)
 let x22 : UInt64 := (((x17 * x4) + x21) + 0)
 let x23 : UInt64 := (((Fld.mulhi x17 x1) + (carry64 (x17 * x1) x18 0)) + (carry64 x19 0 0))
 let x24 : List UInt64 := (List.set (List.set x20 3 ((x22 + x23) + 0)) 4 (((Fld.mulhi x17 x4) + (carry64 (x17 * x4) x21 0)) + (carry64 x22 x23 0)))
 let x25 : UInt64 := (List.getD x24 2 0)
 let x26 : UInt64 := (List.getD x24 3 0)
 let x27 : UInt64 := (List.getD x24 4 0)
 let x28 : Nat := (Pol.v3 (List.set (List.set (List.set [0, 0, 0] 0 ((shr64 x25 2) ||| (shl64 x26 62))) 1 ((shr64 x26 2) ||| (shl64 x27 62))) 2 (shr64 x27 2)))
 let x29 : List UInt64 := (Pol.w3 ((Pol.v3 (Pol.w3 ((Pol.v3 (Pol.w3 ((Pol.v3 (Pol.w3 ((Pol.v3 (Pol.w3 ((Pol.v3 (List.set (List.set (List.set [0, 0, 0] 0 (List.getD x24 0 0)) 1 (List.getD x24 1 0)) 2 (x25 &&& 3))) + x28))) + x28))) + x28))) + x28))) + x28))
 let x30 : UInt64 := (List.getD x29 2 0)
 let x31 : List UInt64 := (Pol.w3 ((Pol.v3 (List.set x29 2 (x30 &&& 3))) + (Pol.v3 (List.set [0, 0, 0] 0 (5 * (shr64 x30 2))))))
 let x32 : UInt64 := (List.getD x31 2 0)
 let x33 : List UInt64 := (Pol.w3 ((Pol.v3 (List.set x31 2 (x32 &&& 3))) + (Pol.v3 (List.set [0, 0, 0] 0 (5 * (shr64 x32 2))))))
 let x34 : Nat := (Pol.v3 (List.set [0, 0, 0] 0 5))
 let x35 : List UInt64 := (Pol.w3 ((Pol.v3 x33) + x34))
 let x36 : UInt64 := (List.getD x35 2 0)
 let x37 : List UInt64 := (Pol.w3 ((Pol.v3 x31) + x34))
 let x38 : UInt64 := (List.getD x37 2 0)
 let x39 : List UInt64 := (Pol.w3 ((Pol.v3 x29) + x34))
 let x40 : UInt64 := (List.getD x39 2 0)
 ite2 (ltI 3 (((UInt64.toNat x30) : Nat) : Int))
 -- THEN
 (ite2 (ltI 3 (((UInt64.toNat x32) : Nat) : Int))
 -- THEN
 (ite2 (ltI 3 (((UInt64.toNat (List.getD x33 2 0)) : Nat) : Int))
 -- THEN
 (False)
 -- ELSE
 (ite2 (ltI 3 (((UInt64.toNat x36) : Nat) : Int))
 -- THEN
 (K (AV.w64 3 (List.set x35 2 (x36 &&& 3))) [])
 -- ELSE
 (K (AV.w64 3 x33) [])))
 -- ELSE
 (ite2 (ltI 3 (((UInt64.toNat x38) : Nat) : Int))
 -- THEN
 (K (AV.w64 3 (List.set x37 2 (x38 &&& 3))) [])
 -- ELSE
 (K (AV.w64 3 x31) [])))
 -- ELSE
 (ite2 (ltI 3 (((UInt64.toNat x40) : Nat) : Int))
 -- THEN
 (K (AV.w64 3 (List.set x39 2 (x40 &&& 3))) [])
 -- ELSE
 (K (AV.w64 3 x29) []))) := by kernel_rfl

end Go.Proofs.YtdipeoacmapehaaDoor

set_option linter.unusedSimpArgs false
set_option linter.unusedVariables false
namespace Go.Proofs.YtdipeoacmapehaaDoor
open Go Go.V Go.Fld Go.Pol
set_option maxRecDepth 100000


theorem times_c (a r : List UInt64) (ha : v3 a < 2722258935367507707706996859454145691648) (hr : v2 r < 21267647932558653966460912964485513216) : HCall Tryd.E 54 [.w64 3 a, .w64 2 r] (.ret (.w64 3 (w3 (v3 a * v2 r % q))) []) := by
  refine HCall.of_len rfl rfl fun hl => ?_
  have hla : a.length = 3 := hl _ (List.mem_cons_self ..)
  have hlr : r.length = 2 := hl (.w64 2 r) (by simp)
  rw [eta3 hla] at ha ⊢
  rw [eta2 hlr] at hr ⊢
  generalize a.getD 0 0 = a0 at *; generalize a.getD 1 0 = a1 at *; generalize a.getD 2 0 = a2 at *
  generalize r.getD 0 0 = r0 at *; generalize r.getD 1 0 = r1 at *
  refine HCall.of_walk (R := RS) (T := P1) (fun _ l => bif l == 23 then .unroll 3 else .unroll 10) 5 rfl rfl ?_
  rw [times_eq]
  rw [v3_mk] at ha ⊢
  rw [v2_mk] at hr ⊢
  intro x0 x1 x2 x3 x4 x5 x6 x7 x8 x9 x10 x11 x12 x13 x14 x15 x16 x17 x18 x19 x20 x21 x22 x23 x24 x25 x26 x27 x28 x29 x30 x31 x32 x33 x34 x35 x36 x37 x38 x39 x40
  have hV : (a0.toNat + 18446744073709551616 * a1.toNat + 340282366920938463463374607431768211456 * a2.toNat) * (r0.toNat + 18446744073709551616 * r1.toNat) < 57896044618658097711785492504343953926634992332820282019728792003956564819968 :=
    Nat.lt_of_lt_of_le (Nat.mul_lt_mul'' ha hr) (by decide)
  have z : (0 : UInt64).toNat = 0 := rfl
  have c0 : (x24.getD 0 0).toNat + 18446744073709551616 * x7.toNat = a0.toNat * r0.toNat + (0 : UInt64).toNat + (0 : UInt64).toNat := cell a0 r0 0 0
  have c1 : x10.toNat + 18446744073709551616 * x13.toNat = a0.toNat * r1.toNat + (0 : UInt64).toNat + x7.toNat := cell a0 r1 0 x7
  have c2 : (x24.getD 1 0).toNat + 18446744073709551616 * x15.toNat = a1.toNat * r0.toNat + x10.toNat + (0 : UInt64).toNat := cell a1 r0 x10 0
  have c3 : x18.toNat + 18446744073709551616 * x21.toNat = a1.toNat * r1.toNat + x13.toNat + x15.toNat := cell a1 r1 x13 x15
  have c4 : x25.toNat + 18446744073709551616 * x23.toNat = a2.toNat * r0.toNat + x18.toNat + (0 : UInt64).toNat := cell a2 r0 x18 0
  have c5 : x26.toNat + 18446744073709551616 * x27.toNat = a2.toNat * r1.toNat + x21.toNat + x23.toNat := cell a2 r1 x21 x23
  rw [z] at c0 c1 c2 c4
  have hp := prod6 c0 c1 c2 c3 c4 c5
  have e29 : x29 = w3 (v3 (w3 (v3 (w3 (v3 (w3 (v3 (w3 (v3 [x24.getD 0 0, x24.getD 1 0, x25 &&& 3] + x28)) + x28)) + x28)) + x28)) + x28) := rfl
  have e28 : x28 = v3 [shr64 x25 2 ||| shl64 x26 62, shr64 x26 2 ||| shl64 x27 62, shr64 x27 2] := rfl
  have e31 : x31 = w3 (v3 (x29.set 2 (x29.getD 2 0 &&& 3)) + v3 [5 * shr64 (x29.getD 2 0) 2, 0, 0]) := rfl
  have e34 : x34 = v3 [5, 0, 0] := rfl
  have e37 : x37 = w3 (v3 x31 + x34) := rfl
  have e39 : x39 = w3 (v3 x29 + x34) := rfl
  have e30 : x30 = x29.getD 2 0 := rfl
  have e32 : x32 = x31.getD 2 0 := rfl
  have e38 : x38 = x37.getD 2 0 := rfl
  have e40 : x40 = x39.getD 2 0 := rfl
  clear_value x40 x39 x38 x37 x36 x35 x34 x33 x32 x31 x30 x29 x28 x27 x26 x25
  generalize x24.getD 0 0 = l0 at c0 hp e29
  generalize x24.getD 1 0 = l1 at c2 hp e29
  clear c0 c1 c2 c3 c4 c5 z
  clear x24 x23 x22 x21 x20 x19 x18 x17 x16 x15 x14 x13 x12 x11 x10 x9 x8 x7 x6 x5 x4 x3 x2 x1 x0
  rw [← hp] at hV ⊢
  have b0 := lt64 l0; have b1 := lt64 l1; have b2 := lt64 x25; have b3 := lt64 x26; have b4 := lt64 x27
  clear hp ha hr
  rw [v3_mk, join, join, shr2, hi_of (l3 := x26.toNat) (l4 := x27.toNat) b0 b1] at e28
  rw [v3_mk, and3, lo_of (l3 := x26.toNat) (l4 := x27.toNat) b0 b1] at e29
  subst e30 e32 e38 e40
  generalize l0.toNat + 18446744073709551616 * l1.toNat + 340282366920938463463374607431768211456 * x25.toNat + 6277101735386680763835789423207666416102355444464034512896 * x26.toNat + 115792089237316195423570985008687907853269984665640564039457584007913129639936 * x27.toNat = V at *
  have key := last e28 e29 e31 e34 e37 e39 hV
  rcases key with ⟨k1, k2, k3⟩ | ⟨k1, k2, k3⟩ | ⟨k1, k2, k3⟩
  · rw [k1, k2]
    exact ⟨by rw [k3], rfl⟩
  · rw [k1, k2]
    exact ⟨by rw [k3], rfl⟩
  · rw [k1, k2.1, k2.2]
    exact ⟨by rw [k3], rfl⟩

noncomputable def P2 : Ctr Tryd.E := P1.add 54 (fun
    | [.w64 3 a, .w64 2 r] => some (ltQ (v3 a) 2722258935367507707706996859454145691648 && ltQ (v2 r) 21267647932558653966460912964485513216, .ret (.w64 3 (w3 (v3 a * v2 r % q))) [])
    | _ => none) (by
      intro args pre out h hp
      split at h
      · simp only [Option.some.injEq, Prod.mk.injEq] at h
        obtain ⟨rfl, rfl⟩ := h
        rw [Bool.and_eq_true, ltQ_iff, ltQ_iff] at hp
        exact times_c _ _ hp.1 hp.2
      · simp at h)
end Go.Proofs.YtdipeoacmapehaaDoor

set_option linter.unusedSimpArgs false
set_option linter.unusedVariables false
namespace Go.Proofs.YtdipeoacmapehaaDoor
open Go Go.V Go.Fld Go.Pol
set_option maxHeartbeats 0
set_option maxRecDepth 100000

theorem soak_eq (r p a : List UInt64) (h : List UInt8) (n : Int) (K : AV → Heap → Prop) : walk Tryd.E RS P2.C (fun _ _ => .unroll 17) 5 51 [.agg [.w64 2 r, .w64 2 p, .w64 3 a, .b8 16 h, .int .i64 n]] K = (
 let x0 : List UInt8 := (List.take 8 h)
 let x1 : List UInt8 := (List.drop 8 h)
 let x2 : Int := (wr IntKind.i64 (Int.tdiv n 8))
 let x3 : Int := (wr IntKind.i64 (8 * (Int.tmod n 8)))
 let x4 : List UInt64 := (List.set (List.set (List.set [0, 0, 0] 0 (Pol.halfS x0)) 1 (Pol.halfS x1)) 2 1)
 let x5 : List UInt64 := (List.set x4 2 0)
 let x6 : Nat := (Pol.v3 (Pol.w3 ((Pol.v3 a) + (Pol.v3 (List.set x5 (ofs 0 x2) ((List.getD x5 (ofs 0 x2) 0) ||| (shl64 1 (Int.toNat x3))))))))
 let x7 : Nat := 2722258935367507707706996859454145691648
 let x8 : Bool := (Pol.ltQ (Pol.v2 r) 21267647932558653966460912964485513216)
 let x9 : Nat := 1361129467683753853853498429727072845819
 let x10 : Nat := (Pol.v3 (Pol.w3 ((Pol.v3 a) + (Pol.v3 x4))))
 cnd ((List.length x0) == 8)
 (cnd ((List.length x1) == 8)
 (ite2 (ltI n 16)
 -- THEN
 (cnd (inB x2 3)
 (cnd (nnB x3)
 (cnd (inB x2 3)
 (cnd ((Pol.ltQ x6 x7) && x8)
 (K (AV.agg [AV.w64 2 r, AV.w64 2 p, AV.w64 3 (Pol.w3 ((x6 * (Pol.v2 r)) % x9)), AV.b8 16 [0, 0, 0, 0, 0, 0, 0, 0, 0, 0, 0, 0, 0, 0, 0, 0], AV.int IntKind.i64 0]) [])))))
 -- ELSE
 (cnd ((Pol.ltQ x10 x7) && x8)
 (K (AV.agg [AV.w64 2 r, AV.w64 2 p, AV.w64 3 (Pol.w3 ((x10 * (Pol.v2 r)) % x9)), AV.b8 16 [0, 0, 0, 0, 0, 0, 0, 0, 0, 0, 0, 0, 0, 0, 0, 0], AV.int IntKind.i64 0]) []))))) := by kernel_rfl

theorem begin_eq (k : List UInt8) (K : AV → Heap → Prop) : walk Tryd.E RS P2.C (fun _ _ => .unroll 17) 5 47 [.b8 32 k] K = (
 let x0 : List UInt8 := (List.take 8 k)
 let x1 : List UInt8 := (List.take 8 (List.drop 8 k))
 let x2 : List UInt8 := (List.take 8 (List.drop 16 k))
 let x3 : List UInt8 := (List.drop 24 k)
 cnd ((List.length x0) == 8)
 (cnd ((List.length x1) == 8)
 (cnd ((List.length x2) == 8)
 (cnd ((List.length x3) == 8)
 (K (AV.agg [AV.w64 2 (List.set (List.set [0, 0] 0 ((Pol.halfS x0) &&& 1152921487695413247)) 1 ((Pol.halfS x1) &&& 1152921487695413244)), AV.w64 2 (List.set (List.set [0, 0] 0 (Pol.halfS x2)) 1 (Pol.halfS x3)), AV.w64 3 [0, 0, 0], AV.b8 16 [0, 0, 0, 0, 0, 0, 0, 0, 0, 0, 0, 0, 0, 0, 0, 0], AV.int IntKind.i64 0]) []))))) := by kernel_rfl

end Go.Proofs.YtdipeoacmapehaaDoor

set_option linter.unusedSimpArgs false
set_option linter.unusedVariables false
namespace Go.Proofs.YtdipeoacmapehaaDoor
open Go Go.V Go.Fld Go.Pol
set_option maxHeartbeats 0
set_option maxRecDepth 100000

theorem check0_eq (r p a : List UInt64) (K : AV → Heap → Prop) : walk Tryd.E RS P2.C (fun _ _ => .unroll 17) 5 50 [.agg [.w64 2 r, .w64 2 p, .w64 3 a, .b8 16 [0, 0, 0, 0, 0, 0, 0, 0, 0, 0, 0, 0, 0, 0, 0, 0], .int .i64 0]] K = (
 let x0 : Int := (((UInt64.toNat (List.getD a 2 0)) : Nat) : Int)
 ite2 ((((UInt64.toNat ((List.getD r 0 0) &&& 17293822586014138368)) : Nat) : Int) != 0)
 -- THEN
 (K (AV.int IntKind.i64 9) [])
 -- ELSE
 (ite2 (cond Bool.false Bool.true ((((UInt64.toNat ((List.getD r 1 0) &&& 17293822586014138371)) : Nat) : Int) != 0))
 -- THEN
 (K (AV.int IntKind.i64 9) [])
 -- ELSE
 (ite2 (cond Bool.false Bool.true (ltI 3 x0))
 -- THEN
 (K (AV.int IntKind.i64 9) [])
 -- ELSE
 (ite2 (x0 == 3)
 -- THEN
 (ite2 (cond Bool.true ((((UInt64.toNat (List.getD a 1 0)) : Nat) : Int) == 18446744073709551615) Bool.false)
 -- THEN
 (ite2 (cond Bool.false Bool.true (cond Bool.true (Bool.not (ltI (((UInt64.toNat (List.getD a 0 0)) : Nat) : Int) 18446744073709551611)) Bool.false))
 -- THEN
 (K (AV.int IntKind.i64 9) [])
 -- ELSE
 (K (AV.int IntKind.i64 0) []))
 -- ELSE
 (K (AV.int IntKind.i64 0) []))
 -- ELSE
 (K (AV.int IntKind.i64 0) []))))) := by kernel_rfl

theorem check1_eq (r p a : List UInt64) (h0 : UInt8) (K : AV → Heap → Prop) : walk Tryd.E RS P2.C (fun _ _ => .unroll 17) 5 50 [.agg [.w64 2 r, .w64 2 p, .w64 3 a, .b8 16 [h0, 0, 0, 0, 0, 0, 0, 0, 0, 0, 0, 0, 0, 0, 0, 0], .int .i64 1]] K = (
 let x0 : Int := (((UInt64.toNat (List.getD a 2 0)) : Nat) : Int)
 ite2 ((((UInt64.toNat ((List.getD r 0 0) &&& 17293822586014138368)) : Nat) : Int) != 0)
 -- THEN
 (K (AV.int IntKind.i64 9) [])
 -- ELSE
 (ite2 (cond Bool.false Bool.true ((((UInt64.toNat ((List.getD r 1 0) &&& 17293822586014138371)) : Nat) : Int) != 0))
 -- THEN
 (K (AV.int IntKind.i64 9) [])
 -- ELSE
 (ite2 (cond Bool.false Bool.true (ltI 3 x0))
 -- THEN
 (K (AV.int IntKind.i64 9) [])
 -- ELSE
 (ite2 (x0 == 3)
 -- THEN
 (ite2 (cond Bool.true ((((UInt64.toNat (List.getD a 1 0)) : Nat) : Int) == 18446744073709551615) Bool.false)
 -- THEN
 (ite2 (cond Bool.false Bool.true (cond Bool.true (Bool.not (ltI (((UInt64.toNat (List.getD a 0 0)) : Nat) : Int) 18446744073709551611)) Bool.false))
 -- THEN
 (K (AV.int IntKind.i64 9) [])
 -- ELSE
 (K (AV.int IntKind.i64 0) []))
 -- ELSE
 (K (AV.int IntKind.i64 0) []))
 -- ELSE
 (K (AV.int IntKind.i64 0) []))))) := by kernel_rfl

theorem check2_eq (r p a : List UInt64) (h0 h1 : UInt8) (K : AV → Heap → Prop) : walk Tryd.E RS P2.C (fun _ _ => .unroll 17) 5 50 [.agg [.w64 2 r, .w64 2 p, .w64 3 a, .b8 16 [h0, h1, 0, 0, 0, 0, 0, 0, 0, 0, 0, 0, 0, 0, 0, 0], .int .i64 2]] K = (
 let x0 : Int := (((UInt64.toNat (List.getD a 2 0)) : Nat) : Int)
 ite2 ((((UInt64.toNat ((List.getD r 0 0) &&& 17293822586014138368)) : Nat) : Int) != 0)
 -- THEN
 (K (AV.int IntKind.i64 9) [])
 -- ELSE
 (ite2 (cond Bool.false Bool.true ((((UInt64.toNat ((List.getD r 1 0) &&& 17293822586014138371)) : Nat) : Int) != 0))
 -- THEN
 (K (AV.int IntKind.i64 9) [])
 -- ELSE
 (ite2 (cond Bool.false Bool.true (ltI 3 x0))
 -- THEN
 (K (AV.int IntKind.i64 9) [])
 -- ELSE
 (ite2 (x0 == 3)
 -- THEN
 (ite2 (cond Bool.true ((((UInt64.toNat (List.getD a 1 0)) : Nat) : Int) == 18446744073709551615) Bool.false)
 -- THEN
 (ite2 (cond Bool.false Bool.true (cond Bool.true (Bool.not (ltI (((UInt64.toNat (List.getD a 0 0)) : Nat) : Int) 18446744073709551611)) Bool.false))
 -- THEN
 (K (AV.int IntKind.i64 9) [])
 -- ELSE
 (K (AV.int IntKind.i64 0) []))
 -- ELSE
 (K (AV.int IntKind.i64 0) []))
 -- ELSE
 (K (AV.int IntKind.i64 0) []))))) := by kernel_rfl

theorem check3_eq (r p a : List UInt64) (h0 h1 h2 : UInt8) (K : AV → Heap → Prop) : walk Tryd.E RS P2.C (fun _ _ => .unroll 17) 5 50 [.agg [.w64 2 r, .w64 2 p, .w64 3 a, .b8 16 [h0, h1, h2, 0, 0, 0, 0, 0, 0, 0, 0, 0, 0, 0, 0, 0], .int .i64 3]] K = (
 let x0 : Int := (((UInt64.toNat (List.getD a 2 0)) : Nat) : Int)
 ite2 ((((UInt64.toNat ((List.getD r 0 0) &&& 17293822586014138368)) : Nat) : Int) != 0)
 -- THEN
 (K (AV.int IntKind.i64 9) [])
 -- ELSE
 (ite2 (cond Bool.false Bool.true ((((UInt64.toNat ((List.getD r 1 0) &&& 17293822586014138371)) : Nat) : Int) != 0))
 -- THEN
 (K (AV.int IntKind.i64 9) [])
 -- ELSE
 (ite2 (cond Bool.false Bool.true (ltI 3 x0))
 -- THEN
 (K (AV.int IntKind.i64 9) [])
 -- ELSE
 (ite2 (x0 == 3)
 -- THEN
 (ite2 (cond Bool.true ((((UInt64.toNat (List.getD a 1 0)) : Nat) : Int) == 18446744073709551615) Bool.false)
 -- THEN
 (ite2 (cond Bool.false Bool.true (cond Bool.true (Bool.not (ltI (((UInt64.toNat (List.getD a 0 0)) : Nat) : Int) 18446744073709551611)) Bool.false))
 -- THEN
 (K (AV.int IntKind.i64 9) [])
 -- ELSE
 (K (AV.int IntKind.i64 0) []))
 -- ELSE
 (K (AV.int IntKind.i64 0) []))
 -- ELSE
 (K (AV.int IntKind.i64 0) []))))) := by kernel_rfl

theorem check4_eq (r p a : List UInt64) (h0 h1 h2 h3 : UInt8) (K : AV → Heap → Prop) : walk Tryd.E RS P2.C (fun _ _ => .unroll 17) 5 50 [.agg [.w64 2 r, .w64 2 p, .w64 3 a, .b8 16 [h0, h1, h2, h3, 0, 0, 0, 0, 0, 0, 0, 0, 0, 0, 0, 0], .int .i64 4]] K = (
 let x0 : Int := (((UInt64.toNat (List.getD a 2 0)) : Nat) : Int)
 ite2 ((((UInt64.toNat ((List.getD r 0 0) &&& 17293822586014138368)) : Nat) : Int) != 0)
 -- THEN
 (K (AV.int IntKind.i64 9) [])
 -- ELSE
 (ite2 (cond Bool.false Bool.true ((((UInt64.toNat ((List.getD r 1 0) &&& 17293822586014138371)) : Nat) : Int) != 0))
 -- THEN
 (K (AV.int IntKind.i64 9) [])
 -- ELSE
 (ite2 (cond Bool.false Bool.true (ltI 3 x0))
 -- THEN
 (K (AV.int IntKind.i64 9) [])
 -- ELSE
 (ite2 (x0 == 3)
 -- THEN
 (ite2 (cond Bool.true ((((UInt64.toNat (List.getD a 1 0)) : Nat) : Int) == 18446744073709551615) Bool.false)
 -- THEN
 (ite2 (cond Bool.false Bool.true (cond Bool.true (Bool.not (ltI (((UInt64.toNat (List.getD a 0 0)) : Nat) : Int) 18446744073709551611)) Bool.false))
 -- THEN
 (K (AV.int IntKind.i64 9) [])
 -- ELSE
 (K (AV.int IntKind.i64 0) []))
 -- ELSE
 (K (AV.int IntKind.i64 0) []))
 -- ELSE
 (K (AV.int IntKind.i64 0) []))))) := by kernel_rfl

theorem check5_eq (r p a : List UInt64) (h0 h1 h2 h3 h4 : UInt8) (K : AV → Heap → Prop) : walk Tryd.E RS P2.C (fun _ _ => .unroll 17) 5 50 [.agg [.w64 2 r, .w64 2 p, .w64 3 a, .b8 16 [h0, h1, h2, h3, h4, 0, 0, 0, 0, 0, 0, 0, 0, 0, 0, 0], .int .i64 5]] K = (
 let x0 : Int := (((UInt64.toNat (List.getD a 2 0)) : Nat) : Int)
 ite2 ((((UInt64.toNat ((List.getD r 0 0) &&& 17293822586014138368)) : Nat) : Int) != 0)
 -- THEN
 (K (AV.int IntKind.i64 9) [])
 -- ELSE
 (ite2 (cond Bool.false Bool.true ((((UInt64.toNat ((List.getD r 1 0) &&& 17293822586014138371)) : Nat) : Int) != 0))
 -- THEN
 (K (AV.int IntKind.i64 9) [])
 -- ELSE
 (ite2 (cond Bool.false Bool.true (ltI 3 x0))
 -- THEN
 (K (AV.int IntKind.i64 9) [])
 -- ELSE
 (ite2 (x0 == 3)
 -- THEN
 (ite2 (cond Bool.true ((((UInt64.toNat (List.getD a 1 0)) : Nat) : Int) == 18446744073709551615) Bool.false)
 -- THEN
 (ite2 (cond Bool.false Bool.true (cond Bool.true (Bool.not (ltI (((UInt64.toNat (List.getD a 0 0)) : Nat) : Int) 18446744073709551611)) Bool.false))
 -- THEN
 (K (AV.int IntKind.i64 9) [])
 -- ELSE
 (K (AV.int IntKind.i64 0) []))
 -- ELSE
 (K (AV.int IntKind.i64 0) []))
 -- ELSE
 (K (AV.int IntKind.i64 0) []))))) := by kernel_rfl

theorem check6_eq (r p a : List UInt64) (h0 h1 h2 h3 h4 h5 : UInt8) (K : AV → Heap → Prop) : walk Tryd.E RS P2.C (fun _ _ => .unroll 17) 5 50 [.agg [.w64 2 r, .w64 2 p, .w64 3 a, .b8 16 [h0, h1, h2, h3, h4, h5, 0, 0, 0, 0, 0, 0, 0, 0, 0, 0], .int .i64 6]] K = (
 let x0 : Int := (((UInt64.toNat (List.getD a 2 0)) : Nat) : Int)
 ite2 ((((UInt64.toNat ((List.getD r 0 0) &&& 17293822586014138368)) : Nat) : Int) != 0)
 -- THEN
 (K (AV.int IntKind.i64 9) [])
 -- ELSE
 (ite2 (cond Bool.false Bool.true ((((UInt64.toNat ((List.getD r 1 0) &&& 17293822586014138371)) : Nat) : Int) != 0))
 -- THEN
 (K (AV.int IntKind.i64 9) [])
 -- ELSE
 (ite2 (cond Bool.false Bool.true (ltI 3 x0))
 -- THEN
 (K (AV.int IntKind.i64 9) [])
 -- ELSE
 (ite2 (x0 == 3)
 -- THEN
 (ite2 (cond Bool.true ((((UInt64.toNat (List.getD a 1 0)) : Nat) : Int) == 18446744073709551615) Bool.false)
 -- THEN
 (ite2 (cond Bool.false Bool.true (cond Bool.true (Bool.not (ltI (((UInt64.toNat (List.getD a 0 0)) : Nat) : Int) 18446744073709551611)) Bool.false))
 -- THEN
 (K (AV.int IntKind.i64 9) [])
 -- ELSE
 (K (AV.int IntKind.i64 0) []))
 -- ELSE
 (K (AV.int IntKind.i64 0) []))
 -- ELSE
 (K (AV.int IntKind.i64 0) []))))) := by kernel_rfl

theorem check7_eq (r p a : List UInt64) (h0 h1 h2 h3 h4 h5 h6 : UInt8) (K : AV → Heap → Prop) : walk Tryd.E RS P2.C (fun _ _ => .unroll 17) 5 50 [.agg [.w64 2 r, .w64 2 p, .w64 3 a, .b8 16 [h0, h1, h2, h3, h4, h5, h6, 0, 0, 0, 0, 0, 0, 0, 0, 0], .int .i64 7]] K = (
 let x0 : Int := (((UInt64.toNat (List.getD a 2 0)) : Nat) : Int)
 ite2 ((((UInt64.toNat ((List.getD r 0 0) &&& 17293822586014138368)) : Nat) : Int) != 0)
 -- THEN
 (K (AV.int IntKind.i64 9) [])
 -- ELSE
 (ite2 (cond Bool.false Bool.true ((((UInt64.toNat ((List.getD r 1 0) &&& 17293822586014138371)) : Nat) : Int) != 0))
 -- THEN
 (K (AV.int IntKind.i64 9) [])
 -- ELSE
 (ite2 (cond Bool.false Bool.true (ltI 3 x0))
 -- THEN
 (K (AV.int IntKind.i64 9) [])
 -- ELSE
 (ite2 (x0 == 3)
 -- THEN
 (ite2 (cond Bool.true ((((UInt64.toNat (List.getD a 1 0)) : Nat) : Int) == 18446744073709551615) Bool.false)
 -- THEN
 (ite2 (cond Bool.false Bool.true (cond Bool.true (Bool.not (ltI (((UInt64.toNat (List.getD a 0 0)) : Nat) : Int) 18446744073709551611)) Bool.false))
 -- THEN
 (K (AV.int IntKind.i64 9) [])
 -- ELSE
 (K (AV.int IntKind.i64 0) []))
 -- ELSE
 (K (AV.int IntKind.i64 0) []))
 -- ELSE
 (K (AV.int IntKind.i64 0) []))))) := by kernel_rfl

theorem check8_eq (r p a : List UInt64) (h0 h1 h2 h3 h4 h5 h6 h7 : UInt8) (K : AV → Heap → Prop) : walk Tryd.E RS P2.C (fun _ _ => .unroll 17) 5 50 [.agg [.w64 2 r, .w64 2 p, .w64 3 a, .b8 16 [h0, h1, h2, h3, h4, h5, h6, h7, 0, 0, 0, 0, 0, 0, 0, 0], .int .i64 8]] K = (
 let x0 : Int := (((UInt64.toNat (List.getD a 2 0)) : Nat) : Int)
 ite2 ((((UInt64.toNat ((List.getD r 0 0) &&& 17293822586014138368)) : Nat) : Int) != 0)
 -- THEN
 (K (AV.int IntKind.i64 9) [])
 -- ELSE
 (ite2 (cond Bool.false Bool.true ((((UInt64.toNat ((List.getD r 1 0) &&& 17293822586014138371)) : Nat) : Int) != 0))
 -- THEN
 (K (AV.int IntKind.i64 9) [])
 -- ELSE
 (ite2 (cond Bool.false Bool.true (ltI 3 x0))
 -- THEN
 (K (AV.int IntKind.i64 9) [])
 -- ELSE
 (ite2 (x0 == 3)
 -- THEN
 (ite2 (cond Bool.true ((((UInt64.toNat (List.getD a 1 0)) : Nat) : Int) == 18446744073709551615) Bool.false)
 -- THEN
 (ite2 (cond Bool.false Bool.true (cond Bool.true (Bool.not (ltI (((UInt64.toNat (List.getD a 0 0)) : Nat) : Int) 18446744073709551611)) Bool.false))
 -- THEN
 (K (AV.int IntKind.i64 9) [])
 -- ELSE
 (K (AV.int IntKind.i64 0) []))
 -- ELSE
 (K (AV.int IntKind.i64 0) []))
 -- ELSE
 (K (AV.int IntKind.i64 0) []))))) := by kernel_rfl

theorem check9_eq (r p a : List UInt64) (h0 h1 h2 h3 h4 h5 h6 h7 h8 : UInt8) (K : AV → Heap → Prop) : walk Tryd.E RS P2.C (fun _ _ => .unroll 17) 5 50 [.agg [.w64 2 r, .w64 2 p, .w64 3 a, .b8 16 [h0, h1, h2, h3, h4, h5, h6, h7, h8, 0, 0, 0, 0, 0, 0, 0], .int .i64 9]] K = (
 let x0 : Int := (((UInt64.toNat (List.getD a 2 0)) : Nat) : Int)
 ite2 ((((UInt64.toNat ((List.getD r 0 0) &&& 17293822586014138368)) : Nat) : Int) != 0)
 -- THEN
 (K (AV.int IntKind.i64 9) [])
 -- ELSE
 (ite2 (cond Bool.false Bool.true ((((UInt64.toNat ((List.getD r 1 0) &&& 17293822586014138371)) : Nat) : Int) != 0))
 -- THEN
 (K (AV.int IntKind.i64 9) [])
 -- ELSE
 (ite2 (cond Bool.false Bool.true (ltI 3 x0))
 -- THEN
 (K (AV.int IntKind.i64 9) [])
 -- ELSE
 (ite2 (x0 == 3)
 -- THEN
 (ite2 (cond Bool.true ((((UInt64.toNat (List.getD a 1 0)) : Nat) : Int) == 18446744073709551615) Bool.false)
 -- THEN
 (ite2 (cond Bool.false Bool.true (cond Bool.true (Bool.not (ltI (((UInt64.toNat (List.getD a 0 0)) : Nat) : Int) 18446744073709551611)) Bool.false))
 -- THEN
 (K (AV.int IntKind.i64 9) [])
 -- ELSE
 (K (AV.int IntKind.i64 0) []))
 -- ELSE
 (K (AV.int IntKind.i64 0) []))
 -- ELSE
 (K (AV.int IntKind.i64 0) []))))) := by kernel_rfl

theorem check10_eq (r p a : List UInt64) (h0 h1 h2 h3 h4 h5 h6 h7 h8 h9 : UInt8) (K : AV → Heap → Prop) : walk Tryd.E RS P2.C (fun _ _ => .unroll 17) 5 50 [.agg [.w64 2 r, .w64 2 p, .w64 3 a, .b8 16 [h0, h1, h2, h3, h4, h5, h6, h7, h8, h9, 0, 0, 0, 0, 0, 0], .int .i64 10]] K = (
 let x0 : Int := (((UInt64.toNat (List.getD a 2 0)) : Nat) : Int)
 ite2 ((((UInt64.toNat ((List.getD r 0 0) &&& 17293822586014138368)) : Nat) : Int) != 0)
 -- THEN
 (K (AV.int IntKind.i64 9) [])
 -- ELSE
 (ite2 (cond Bool.false Bool.true ((((UInt64.toNat ((List.getD r 1 0) &&& 17293822586014138371)) : Nat) : Int) != 0))
 -- THEN
 (K (AV.int IntKind.i64 9) [])
 -- ELSE
 (ite2 (cond Bool.false Bool.true (ltI 3 x0))
 -- THEN
 (K (AV.int IntKind.i64 9) [])
 -- ELSE
 (ite2 (x0 == 3)
 -- THEN
 (ite2 (cond Bool.true ((((UInt64.toNat (List.getD a 1 0)) : Nat) : Int) == 18446744073709551615) Bool.false)
 -- THEN
 (ite2 (cond Bool.false Bool.true (cond Bool.true (Bool.not (ltI (((UInt64.toNat (List.getD a 0 0)) : Nat) : Int) 18446744073709551611)) Bool.false))
 -- THEN
 (K (AV.int IntKind.i64 9) [])
 -- ELSE
 (K (AV.int IntKind.i64 0) []))
 -- ELSE
 (K (AV.int IntKind.i64 0) []))
 -- ELSE
 (K (AV.int IntKind.i64 0) []))))) := by kernel_rfl

theorem check11_eq (r p a : List UInt64) (h0 h1 h2 h3 h4 h5 h6 h7 h8 h9 h10 : UInt8) (K : AV → Heap → Prop) : walk Tryd.E RS P2.C (fun _ _ => .unroll 17) 5 50 [.agg [.w64 2 r, .w64 2 p, .w64 3 a, .b8 16 [h0, h1, h2, h3, h4, h5, h6, h7, h8, h9, h10, 0, 0, 0, 0, 0], .int .i64 11]] K = (
 let x0 : Int := (((UInt64.toNat (List.getD a 2 0)) : Nat) : Int)
 ite2 ((((UInt64.toNat ((List.getD r 0 0) &&& 17293822586014138368)) : Nat) : Int) != 0)
 -- THEN
 (K (AV.int IntKind.i64 9) [])
 -- ELSE
 (ite2 (cond Bool.false Bool.true ((((UInt64.toNat ((List.getD r 1 0) &&& 17293822586014138371)) : Nat) : Int) != 0))
 -- THEN
 (K (AV.int IntKind.i64 9) [])
 -- ELSE
 (ite2 (cond Bool.false Bool.true (ltI 3 x0))
 -- THEN
 (K (AV.int IntKind.i64 9) [])
 -- ELSE
 (ite2 (x0 == 3)
 -- THEN
 (ite2 (cond Bool.true ((((UInt64.toNat (List.getD a 1 0)) : Nat) : Int) == 18446744073709551615) Bool.false)
 -- THEN
 (ite2 (cond Bool.false Bool.true (cond Bool.true (Bool.not (ltI (((UInt64.toNat (List.getD a 0 0)) : Nat) : Int) 18446744073709551611)) Bool.false))
 -- THEN
 (K (AV.int IntKind.i64 9) [])
 -- ELSE
 (K (AV.int IntKind.i64 0) []))
 -- ELSE
 (K (AV.int IntKind.i64 0) []))
 -- ELSE
 (K (AV.int IntKind.i64 0) []))))) := by kernel_rfl

theorem check12_eq (r p a : List UInt64) (h0 h1 h2 h3 h4 h5 h6 h7 h8 h9 h10 h11 : UInt8) (K : AV → Heap → Prop) : walk Tryd.E RS P2.C (fun _ _ => .unroll 17) 5 50 [.agg [.w64 2 r, .w64 2 p, .w64 3 a, .b8 16 [h0, h1, h2, h3, h4, h5, h6, h7, h8, h9, h10, h11, 0, 0, 0, 0], .int .i64 12]] K = (
 let x0 : Int := (((UInt64.toNat (List.getD a 2 0)) : Nat) : Int)
 ite2 ((((UInt64.toNat ((List.getD r 0 0) &&& 17293822586014138368)) : Nat) : Int) != 0)
 -- THEN
 (K (AV.int IntKind.i64 9) [])
 -- ELSE
 (ite2 (cond Bool.false Bool.true ((((UInt64.toNat ((List.getD r 1 0) &&& 17293822586014138371)) : Nat) : Int) != 0))
 -- THEN
 (K (AV.int IntKind.i64 9) [])
 -- ELSE
 (ite2 (cond Bool.false Bool.true (ltI 3 x0))
 -- THEN
 (K (AV.int IntKind.i64 9) [])
 -- ELSE
 (ite2 (x0 == 3)
 -- THEN
 (ite2 (cond Bool.true ((((UInt64.toNat (List.getD a 1 0)) : Nat) : Int) == 18446744073709551615) Bool.false)
 -- THEN
 (ite2 (cond Bool.false Bool.true (cond Bool.true (Bool.not (ltI (((UInt64.toNat (List.getD a 0 0)) : Nat) : Int) 18446744073709551611)) Bool.false))
 -- THEN
 (K (AV.int IntKind.i64 9) [])
 -- ELSE
 (K (AV.int IntKind.i64 0) []))
 -- ELSE
 (K (AV.int IntKind.i64 0) []))
 -- ELSE
 (K (AV.int IntKind.i64 0) []))))) := by kernel_rfl

theorem check13_eq (r p a : List UInt64) (h0 h1 h2 h3 h4 h5 h6 h7 h8 h9 h10 h11 h12 : UInt8) (K : AV → Heap → Prop) : walk Tryd.E RS P2.C (fun _ _ => .unroll 17) 5 50 [.agg [.w64 2 r, .w64 2 p, .w64 3 a, .b8 16 [h0, h1, h2, h3, h4, h5, h6, h7, h8, h9, h10, h11, h12, 0, 0, 0], .int .i64 13]] K = (
 let x0 : Int := (((UInt64.toNat (List.getD a 2 0)) : Nat) : Int)
 ite2 ((((UInt64.toNat ((List.getD r 0 0) &&& 17293822586014138368)) : Nat) : Int) != 0)
 -- THEN
 (K (AV.int IntKind.i64 9) [])
 -- ELSE
 (ite2 (cond Bool.false Bool.true ((((UInt64.toNat ((List.getD r 1 0) &&& 17293822586014138371)) : Nat) : Int) != 0))
 -- THEN
 (K (AV.int IntKind.i64 9) [])
 -- ELSE
 (ite2 (cond Bool.false Bool.true (ltI 3 x0))
 -- THEN
 (K (AV.int IntKind.i64 9) [])
 -- ELSE
 (ite2 (x0 == 3)
 -- THEN
 (ite2 (cond Bool.true ((((UInt64.toNat (List.getD a 1 0)) : Nat) : Int) == 18446744073709551615) Bool.false)
 -- THEN
 (ite2 (cond Bool.false Bool.true (cond Bool.true (Bool.not (ltI (((UInt64.toNat (List.getD a 0 0)) : Nat) : Int) 18446744073709551611)) Bool.false))
 -- THEN
 (K (AV.int IntKind.i64 9) [])
 -- ELSE
 (K (AV.int IntKind.i64 0) []))
 -- ELSE
 (K (AV.int IntKind.i64 0) []))
 -- ELSE
 (K (AV.int IntKind.i64 0) []))))) := by kernel_rfl

theorem check14_eq (r p a : List UInt64) (h0 h1 h2 h3 h4 h5 h6 h7 h8 h9 h10 h11 h12 h13 : UInt8) (K : AV → Heap → Prop) : walk Tryd.E RS P2.C (fun _ _ => .unroll 17) 5 50 [.agg [.w64 2 r, .w64 2 p, .w64 3 a, .b8 16 [h0, h1, h2, h3, h4, h5, h6, h7, h8, h9, h10, h11, h12, h13, 0, 0], .int .i64 14]] K = (
 let x0 : Int := (((UInt64.toNat (List.getD a 2 0)) : Nat) : Int)
 ite2 ((((UInt64.toNat ((List.getD r 0 0) &&& 17293822586014138368)) : Nat) : Int) != 0)
 -- THEN
 (K (AV.int IntKind.i64 9) [])
 -- ELSE
 (ite2 (cond Bool.false Bool.true ((((UInt64.toNat ((List.getD r 1 0) &&& 17293822586014138371)) : Nat) : Int) != 0))
 -- THEN
 (K (AV.int IntKind.i64 9) [])
 -- ELSE
 (ite2 (cond Bool.false Bool.true (ltI 3 x0))
 -- THEN
 (K (AV.int IntKind.i64 9) [])
 -- ELSE
 (ite2 (x0 == 3)
 -- THEN
 (ite2 (cond Bool.true ((((UInt64.toNat (List.getD a 1 0)) : Nat) : Int) == 18446744073709551615) Bool.false)
 -- THEN
 (ite2 (cond Bool.false Bool.true (cond Bool.true (Bool.not (ltI (((UInt64.toNat (List.getD a 0 0)) : Nat) : Int) 18446744073709551611)) Bool.false))
 -- THEN
 (K (AV.int IntKind.i64 9) [])
 -- ELSE
 (K (AV.int IntKind.i64 0) []))
 -- ELSE
 (K (AV.int IntKind.i64 0) []))
 -- ELSE
 (K (AV.int IntKind.i64 0) []))))) := by kernel_rfl

theorem check15_eq (r p a : List UInt64) (h0 h1 h2 h3 h4 h5 h6 h7 h8 h9 h10 h11 h12 h13 h14 : UInt8) (K : AV → Heap → Prop) : walk Tryd.E RS P2.C (fun _ _ => .unroll 17) 5 50 [.agg [.w64 2 r, .w64 2 p, .w64 3 a, .b8 16 [h0, h1, h2, h3, h4, h5, h6, h7, h8, h9, h10, h11, h12, h13, h14, 0], .int .i64 15]] K = (
 let x0 : Int := (((UInt64.toNat (List.getD a 2 0)) : Nat) : Int)
 ite2 ((((UInt64.toNat ((List.getD r 0 0) &&& 17293822586014138368)) : Nat) : Int) != 0)
 -- THEN
 (K (AV.int IntKind.i64 9) [])
 -- ELSE
 (ite2 (cond Bool.false Bool.true ((((UInt64.toNat ((List.getD r 1 0) &&& 17293822586014138371)) : Nat) : Int) != 0))
 -- THEN
 (K (AV.int IntKind.i64 9) [])
 -- ELSE
 (ite2 (cond Bool.false Bool.true (ltI 3 x0))
 -- THEN
 (K (AV.int IntKind.i64 9) [])
 -- ELSE
 (ite2 (x0 == 3)
 -- THEN
 (ite2 (cond Bool.true ((((UInt64.toNat (List.getD a 1 0)) : Nat) : Int) == 18446744073709551615) Bool.false)
 -- THEN
 (ite2 (cond Bool.false Bool.true (cond Bool.true (Bool.not (ltI (((UInt64.toNat (List.getD a 0 0)) : Nat) : Int) 18446744073709551611)) Bool.false))
 -- THEN
 (K (AV.int IntKind.i64 9) [])
 -- ELSE
 (K (AV.int IntKind.i64 0) []))
 -- ELSE
 (K (AV.int IntKind.i64 0) []))
 -- ELSE
 (K (AV.int IntKind.i64 0) []))))) := by kernel_rfl

theorem check16_eq (r p a : List UInt64) (h : List UInt8) (K : AV → Heap → Prop) : walk Tryd.E RS P2.C (fun _ _ => .unroll 17) 5 50 [.agg [.w64 2 r, .w64 2 p, .w64 3 a, .b8 16 h, .int .i64 16]] K = (
 let x0 : Int := (((UInt64.toNat (List.getD a 2 0)) : Nat) : Int)
 ite2 ((((UInt64.toNat ((List.getD r 0 0) &&& 17293822586014138368)) : Nat) : Int) != 0)
 -- THEN
 (K (AV.int IntKind.i64 9) [])
 -- ELSE
 (ite2 (cond Bool.false Bool.true ((((UInt64.toNat ((List.getD r 1 0) &&& 17293822586014138371)) : Nat) : Int) != 0))
 -- THEN
 (K (AV.int IntKind.i64 9) [])
 -- ELSE
 (ite2 (cond Bool.false Bool.true (ltI 3 x0))
 -- THEN
 (K (AV.int IntKind.i64 9) [])
 -- ELSE
 (ite2 (x0 == 3)
 -- THEN
 (ite2 (cond Bool.true ((((UInt64.toNat (List.getD a 1 0)) : Nat) : Int) == 18446744073709551615) Bool.false)
 -- THEN
 (ite2 (cond Bool.false Bool.true (cond Bool.true (Bool.not (ltI (((UInt64.toNat (List.getD a 0 0)) : Nat) : Int) 18446744073709551611)) Bool.false))
 -- THEN
 (K (AV.int IntKind.i64 9) [])
 -- ELSE
 (K (AV.int IntKind.i64 9) []))
 -- ELSE
 (K (AV.int IntKind.i64 9) []))
 -- ELSE
 (K (AV.int IntKind.i64 9) []))))) := by kernel_rfl

end Go.Proofs.YtdipeoacmapehaaDoor

set_option linter.unusedSimpArgs false
set_option linter.unusedVariables false
namespace Go.Proofs.YtdipeoacmapehaaDoor
open Go Go.V Go.Fld Go.Pol
set_option maxRecDepth 100000

theorem soak_c (r p a : List UInt64) (h : List UInt8) (n : Int) (hr : v2 r < 21267647932558653966460912964485513216) (ha : v3 a < q) (h0 : 0 ≤ n) (h1 : n ≤ 16) :
    HCall Tryd.E 51 [.agg [.w64 2 r, .w64 2 p, .w64 3 a, .b8 16 h, .int .i64 n]] (.ret (.agg [.w64 2 r, .w64 2 p, .w64 3 (w3 (soakN (v2 r) (v3 a) h n.toNat)), .b8 16 zeros, .int .i64 0]) []) := by
  refine HCall.of_lens rfl rfl fun hl => ?_
  have hh : h.length = 16 := hl (.agg _) (List.mem_cons_self ..) (.b8 16 h) (by simp)
  clear hl
  obtain ⟨m, rfl⟩ : ∃ m : Nat, n = m := ⟨n.toNat, by omega⟩
  refine HCall.of_walk (R := RS) (T := P2) (fun _ _ => .unroll 17) 5 rfl rfl ?_
  rw [soak_eq]
  intro x0 x1 x2 x3 x4 x5 x6 x7 x8 x9 x10
  have l0 : x0.length = 8 := by show (List.take 8 h).length = 8; rw [List.length_take]; omega
  have l1 : x1.length = 8 := by show (List.drop 8 h).length = 8; rw [List.length_drop]; omega
  have hp := part_lt h (n := m) (by omega)
  have hp16 := part_lt h (n := 16) (by omega)
  have e2 : x2 = ((m / 8 : Nat) : Int) := by
    show wr .i64 (Int.tdiv (m : Int) 8) = _
    rw [show Int.tdiv (m : Int) 8 = ((m / 8 : Nat) : Int) from rfl, wr_of (by omega) (by omega)]
  have e3 : x3 = ((8 * (m % 8) : Nat) : Int) := by
    show wr .i64 (8 * (Int.tmod (m : Int) 8)) = _
    rw [show Int.tmod (m : Int) 8 = ((m % 8 : Nat) : Int) from rfl, wr_of (by omega) (by omega)]
    omega
  have eq1 : x4 = rowsF h := rfl
  have e8 : x8 = true := ltQ_of hr
  have hq : q = 1361129467683753853853498429727072845819 := rfl
  rw [l0, l1]
  clear_value x2 x3
  subst e2 e3
  rw [cnd_eq, cnd_eq]
  refine ⟨rfl, rfl, ?_⟩
  rcases Nat.lt_or_ge m 16 with hm | hm
  · rw [ltI_of (by omega)]
    have e6 : x6 = v3 a + Pol.part h m := by
      rw [part_eq]; unfold partF
      rw [if_pos hm]
      show v3 (w3 (v3 a + v3 _)) = _
      rw [v3_w3']
      · rfl
      · have : v3 (List.set x5 (ofs 0 ((m / 8 : Nat) : Int)) (List.getD x5 (ofs 0 ((m / 8 : Nat) : Int)) 0 ||| shl64 1 (Int.toNat ((8 * (m % 8) : Nat) : Int)))) = Pol.part h m := by
          rw [part_eq]; unfold partF
          rw [if_pos hm]; rfl
        rw [this]
        omega
    clear_value x6
    subst e6
    have e9 : ltQ (v3 a + Pol.part h m) x7 = true := ltQ_of (show v3 a + Pol.part h m < 2722258935367507707706996859454145691648 by omega)
    rw [e9, e8, inB_of (by omega) (by omega), nnB_iff.2 (by omega)]
    refine ⟨?_, rfl⟩
    rfl
  · have hm : m = 16 := by omega
    subst hm
    rw [ltI_no (by omega)]
    have e6 : x10 = v3 a + Pol.part h 16 := by
      rw [part_eq]; unfold partF
      rw [if_neg (by omega)]
      show v3 (w3 (v3 a + v3 _)) = _
      rw [v3_w3']
      · rfl
      · have : v3 x4 = Pol.part h 16 := by
          rw [part_eq]; unfold partF
          rw [if_neg (by omega)]
          rfl
        rw [this]
        omega
    clear_value x10
    subst e6
    have e9 : ltQ (v3 a + Pol.part h 16) x7 = true := ltQ_of (show v3 a + Pol.part h 16 < 2722258935367507707706996859454145691648 by omega)
    rw [e9, e8]
    refine ⟨?_, rfl⟩
    rfl

noncomputable def rOf (k : List UInt8) : List UInt64 := List.set (List.set [0, 0] 0 (halfS (List.take 8 k) &&& 1152921487695413247)) 1 (halfS (List.take 8 (List.drop 8 k)) &&& 1152921487695413244)
noncomputable def padOf (k : List UInt8) : List UInt64 := List.set (List.set [0, 0] 0 (halfS (List.take 8 (List.drop 16 k)))) 1 (halfS (List.drop 24 k))

theorem w3_zero : w3 0 = [0, 0, 0] := by rw [w3_eq]; rfl

theorem begin_c (k : List UInt8) : HCall Tryd.E 47 [.b8 32 k] (.ret (.agg [.w64 2 (rOf k), .w64 2 (padOf k), .w64 3 (w3 0), .b8 16 zeros, .int .i64 0]) []) := by
  refine HCall.of_len rfl rfl fun hl => ?_
  have hk : k.length = 32 := hl _ (List.mem_cons_self ..)
  refine HCall.of_walk (R := RS) (T := P2) (fun _ _ => .unroll 17) 5 rfl rfl ?_
  rw [begin_eq, w3_zero]
  dsimp only
  simp only [List.length_take, List.length_drop, hk]
  exact ⟨rfl, rfl⟩

theorem chk_of {r a : List UInt64} {h : List UInt8} {n : Int} (o : okP r a h n) (E O : Prop) (hO : O) :
  (let x0 : Int := (((UInt64.toNat (List.getD a 2 0)) : Nat) : Int)
 ite2 ((((UInt64.toNat ((List.getD r 0 0) &&& 17293822586014138368)) : Nat) : Int) != 0)
 E
 (ite2 (cond Bool.false Bool.true ((((UInt64.toNat ((List.getD r 1 0) &&& 17293822586014138371)) : Nat) : Int) != 0))
 E
 (ite2 (cond Bool.false Bool.true (ltI 3 x0))
 E
 (ite2 (x0 == 3)
 (ite2 (cond Bool.true ((((UInt64.toNat (List.getD a 1 0)) : Nat) : Int) == 18446744073709551615) Bool.false)
 (ite2 (cond Bool.false Bool.true (cond Bool.true (Bool.not (ltI (((UInt64.toNat (List.getD a 0 0)) : Nat) : Int) 18446744073709551611)) Bool.false))
 E
 O)
 O)
 O)))) := by
  intro x0
  obtain ⟨o1, o2, o3, _⟩ := o
  rw [v3_eq] at o3
  unfold v3F q at o3
  have hA : ltI 3 x0 = false := ltI_no (show ((List.getD a 2 0).toNat : Int) ≤ 3 by omega)
  rw [o1, o2, hA]
  show ite2 (x0 == 3) _ O
  rw [ite2_eq]
  refine ⟨fun h3 => ?_, fun _ => hO⟩
  rw [ite2_eq]
  refine ⟨fun h4 => ?_, fun _ => hO⟩
  have h3 : (((List.getD a 2 0).toNat : Nat) : Int) = 3 := eq_of_beq h3
  have h4 : (((List.getD a 1 0).toNat : Nat) : Int) = 18446744073709551615 := eq_of_beq h4
  rw [ltI_of (show (((List.getD a 0 0).toNat : Nat) : Int) < 18446744073709551611 by omega)]
  exact hO

theorem check_c (r p a : List UInt64) (h : List UInt8) (n : Int) (o : okP r a h n) : HCall Tryd.E 50 [.agg [.w64 2 r, .w64 2 p, .w64 3 a, .b8 16 h, .int .i64 n]] (.ret (.int .i64 0) []) := by
  refine HCall.of_lens rfl rfl fun hl => ?_
  have hh : h.length = 16 := hl (.agg _) (List.mem_cons_self ..) (.b8 16 h) (by simp)
  clear hl
  have h0 := o.2.2.2.1
  have h1 := o.2.2.2.2.1
  have z := o.2.2.2.2.2
  have he := eta16 hh
  obtain ⟨m, rfl⟩ : ∃ m : Nat, n = m := ⟨n.toNat, by omega⟩
  have z : ∀ i, m ≤ i → h.getD i 0 = 0 := fun i hi => z i (by simpa using hi)
  have hm : m < 16 := by omega
  clear h0 h1 hh
  match m, hm with
  | 0, _ =>
    rw [z 0 (by decide), z 1 (by decide), z 2 (by decide), z 3 (by decide), z 4 (by decide), z 5 (by decide), z 6 (by decide), z 7 (by decide), z 8 (by decide), z 9 (by decide), z 10 (by decide), z 11 (by decide), z 12 (by decide), z 13 (by decide), z 14 (by decide), z 15 (by decide)] at he
    generalize o' : o = oo; clear o'
    rw [he]
    refine HCall.of_walk (R := RS) (T := P2) (fun _ _ => .unroll 17) 5 rfl rfl ?_
    have e := check0_eq r p a 
    exact (e _).symm ▸ chk_of oo _ _ ⟨rfl, rfl⟩
  | 1, _ =>
    rw [z 1 (by decide), z 2 (by decide), z 3 (by decide), z 4 (by decide), z 5 (by decide), z 6 (by decide), z 7 (by decide), z 8 (by decide), z 9 (by decide), z 10 (by decide), z 11 (by decide), z 12 (by decide), z 13 (by decide), z 14 (by decide), z 15 (by decide)] at he
    generalize o' : o = oo; clear o'
    rw [he]
    refine HCall.of_walk (R := RS) (T := P2) (fun _ _ => .unroll 17) 5 rfl rfl ?_
    have e := check1_eq r p a (h.getD 0 0)
    exact (e _).symm ▸ chk_of oo _ _ ⟨rfl, rfl⟩
  | 2, _ =>
    rw [z 2 (by decide), z 3 (by decide), z 4 (by decide), z 5 (by decide), z 6 (by decide), z 7 (by decide), z 8 (by decide), z 9 (by decide), z 10 (by decide), z 11 (by decide), z 12 (by decide), z 13 (by decide), z 14 (by decide), z 15 (by decide)] at he
    generalize o' : o = oo; clear o'
    rw [he]
    refine HCall.of_walk (R := RS) (T := P2) (fun _ _ => .unroll 17) 5 rfl rfl ?_
    have e := check2_eq r p a (h.getD 0 0) (h.getD 1 0)
    exact (e _).symm ▸ chk_of oo _ _ ⟨rfl, rfl⟩
  | 3, _ =>
    rw [z 3 (by decide), z 4 (by decide), z 5 (by decide), z 6 (by decide), z 7 (by decide), z 8 (by decide), z 9 (by decide), z 10 (by decide), z 11 (by decide), z 12 (by decide), z 13 (by decide), z 14 (by decide), z 15 (by decide)] at he
    generalize o' : o = oo; clear o'
    rw [he]
    refine HCall.of_walk (R := RS) (T := P2) (fun _ _ => .unroll 17) 5 rfl rfl ?_
    have e := check3_eq r p a (h.getD 0 0) (h.getD 1 0) (h.getD 2 0)
    exact (e _).symm ▸ chk_of oo _ _ ⟨rfl, rfl⟩
  | 4, _ =>
    rw [z 4 (by decide), z 5 (by decide), z 6 (by decide), z 7 (by decide), z 8 (by decide), z 9 (by decide), z 10 (by decide), z 11 (by decide), z 12 (by decide), z 13 (by decide), z 14 (by decide), z 15 (by decide)] at he
    generalize o' : o = oo; clear o'
    rw [he]
    refine HCall.of_walk (R := RS) (T := P2) (fun _ _ => .unroll 17) 5 rfl rfl ?_
    have e := check4_eq r p a (h.getD 0 0) (h.getD 1 0) (h.getD 2 0) (h.getD 3 0)
    exact (e _).symm ▸ chk_of oo _ _ ⟨rfl, rfl⟩
  | 5, _ =>
    rw [z 5 (by decide), z 6 (by decide), z 7 (by decide), z 8 (by decide), z 9 (by decide), z 10 (by decide), z 11 (by decide), z 12 (by decide), z 13 (by decide), z 14 (by decide), z 15 (by decide)] at he
    generalize o' : o = oo; clear o'
    rw [he]
    refine HCall.of_walk (R := RS) (T := P2) (fun _ _ => .unroll 17) 5 rfl rfl ?_
    have e := check5_eq r p a (h.getD 0 0) (h.getD 1 0) (h.getD 2 0) (h.getD 3 0) (h.getD 4 0)
    exact (e _).symm ▸ chk_of oo _ _ ⟨rfl, rfl⟩
  | 6, _ =>
    rw [z 6 (by decide), z 7 (by decide), z 8 (by decide), z 9 (by decide), z 10 (by decide), z 11 (by decide), z 12 (by decide), z 13 (by decide), z 14 (by decide), z 15 (by decide)] at he
    generalize o' : o = oo; clear o'
    rw [he]
    refine HCall.of_walk (R := RS) (T := P2) (fun _ _ => .unroll 17) 5 rfl rfl ?_
    have e := check6_eq r p a (h.getD 0 0) (h.getD 1 0) (h.getD 2 0) (h.getD 3 0) (h.getD 4 0) (h.getD 5 0)
    exact (e _).symm ▸ chk_of oo _ _ ⟨rfl, rfl⟩
  | 7, _ =>
    rw [z 7 (by decide), z 8 (by decide), z 9 (by decide), z 10 (by decide), z 11 (by decide), z 12 (by decide), z 13 (by decide), z 14 (by decide), z 15 (by decide)] at he
    generalize o' : o = oo; clear o'
    rw [he]
    refine HCall.of_walk (R := RS) (T := P2) (fun _ _ => .unroll 17) 5 rfl rfl ?_
    have e := check7_eq r p a (h.getD 0 0) (h.getD 1 0) (h.getD 2 0) (h.getD 3 0) (h.getD 4 0) (h.getD 5 0) (h.getD 6 0)
    exact (e _).symm ▸ chk_of oo _ _ ⟨rfl, rfl⟩
  | 8, _ =>
    rw [z 8 (by decide), z 9 (by decide), z 10 (by decide), z 11 (by decide), z 12 (by decide), z 13 (by decide), z 14 (by decide), z 15 (by decide)] at he
    generalize o' : o = oo; clear o'
    rw [he]
    refine HCall.of_walk (R := RS) (T := P2) (fun _ _ => .unroll 17) 5 rfl rfl ?_
    have e := check8_eq r p a (h.getD 0 0) (h.getD 1 0) (h.getD 2 0) (h.getD 3 0) (h.getD 4 0) (h.getD 5 0) (h.getD 6 0) (h.getD 7 0)
    exact (e _).symm ▸ chk_of oo _ _ ⟨rfl, rfl⟩
  | 9, _ =>
    rw [z 9 (by decide), z 10 (by decide), z 11 (by decide), z 12 (by decide), z 13 (by decide), z 14 (by decide), z 15 (by decide)] at he
    generalize o' : o = oo; clear o'
    rw [he]
    refine HCall.of_walk (R := RS) (T := P2) (fun _ _ => .unroll 17) 5 rfl rfl ?_
    have e := check9_eq r p a (h.getD 0 0) (h.getD 1 0) (h.getD 2 0) (h.getD 3 0) (h.getD 4 0) (h.getD 5 0) (h.getD 6 0) (h.getD 7 0) (h.getD 8 0)
    exact (e _).symm ▸ chk_of oo _ _ ⟨rfl, rfl⟩
  | 10, _ =>
    rw [z 10 (by decide), z 11 (by decide), z 12 (by decide), z 13 (by decide), z 14 (by decide), z 15 (by decide)] at he
    generalize o' : o = oo; clear o'
    rw [he]
    refine HCall.of_walk (R := RS) (T := P2) (fun _ _ => .unroll 17) 5 rfl rfl ?_
    have e := check10_eq r p a (h.getD 0 0) (h.getD 1 0) (h.getD 2 0) (h.getD 3 0) (h.getD 4 0) (h.getD 5 0) (h.getD 6 0) (h.getD 7 0) (h.getD 8 0) (h.getD 9 0)
    exact (e _).symm ▸ chk_of oo _ _ ⟨rfl, rfl⟩
  | 11, _ =>
    rw [z 11 (by decide), z 12 (by decide), z 13 (by decide), z 14 (by decide), z 15 (by decide)] at he
    generalize o' : o = oo; clear o'
    rw [he]
    refine HCall.of_walk (R := RS) (T := P2) (fun _ _ => .unroll 17) 5 rfl rfl ?_
    have e := check11_eq r p a (h.getD 0 0) (h.getD 1 0) (h.getD 2 0) (h.getD 3 0) (h.getD 4 0) (h.getD 5 0) (h.getD 6 0) (h.getD 7 0) (h.getD 8 0) (h.getD 9 0) (h.getD 10 0)
    exact (e _).symm ▸ chk_of oo _ _ ⟨rfl, rfl⟩
  | 12, _ =>
    rw [z 12 (by decide), z 13 (by decide), z 14 (by decide), z 15 (by decide)] at he
    generalize o' : o = oo; clear o'
    rw [he]
    refine HCall.of_walk (R := RS) (T := P2) (fun _ _ => .unroll 17) 5 rfl rfl ?_
    have e := check12_eq r p a (h.getD 0 0) (h.getD 1 0) (h.getD 2 0) (h.getD 3 0) (h.getD 4 0) (h.getD 5 0) (h.getD 6 0) (h.getD 7 0) (h.getD 8 0) (h.getD 9 0) (h.getD 10 0) (h.getD 11 0)
    exact (e _).symm ▸ chk_of oo _ _ ⟨rfl, rfl⟩
  | 13, _ =>
    rw [z 13 (by decide), z 14 (by decide), z 15 (by decide)] at he
    generalize o' : o = oo; clear o'
    rw [he]
    refine HCall.of_walk (R := RS) (T := P2) (fun _ _ => .unroll 17) 5 rfl rfl ?_
    have e := check13_eq r p a (h.getD 0 0) (h.getD 1 0) (h.getD 2 0) (h.getD 3 0) (h.getD 4 0) (h.getD 5 0) (h.getD 6 0) (h.getD 7 0) (h.getD 8 0) (h.getD 9 0) (h.getD 10 0) (h.getD 11 0) (h.getD 12 0)
    exact (e _).symm ▸ chk_of oo _ _ ⟨rfl, rfl⟩
  | 14, _ =>
    rw [z 14 (by decide), z 15 (by decide)] at he
    generalize o' : o = oo; clear o'
    rw [he]
    refine HCall.of_walk (R := RS) (T := P2) (fun _ _ => .unroll 17) 5 rfl rfl ?_
    have e := check14_eq r p a (h.getD 0 0) (h.getD 1 0) (h.getD 2 0) (h.getD 3 0) (h.getD 4 0) (h.getD 5 0) (h.getD 6 0) (h.getD 7 0) (h.getD 8 0) (h.getD 9 0) (h.getD 10 0) (h.getD 11 0) (h.getD 12 0) (h.getD 13 0)
    exact (e _).symm ▸ chk_of oo _ _ ⟨rfl, rfl⟩
  | 15, _ =>
    rw [z 15 (by decide)] at he
    generalize o' : o = oo; clear o'
    rw [he]
    refine HCall.of_walk (R := RS) (T := P2) (fun _ _ => .unroll 17) 5 rfl rfl ?_
    have e := check15_eq r p a (h.getD 0 0) (h.getD 1 0) (h.getD 2 0) (h.getD 3 0) (h.getD 4 0) (h.getD 5 0) (h.getD 6 0) (h.getD 7 0) (h.getD 8 0) (h.getD 9 0) (h.getD 10 0) (h.getD 11 0) (h.getD 12 0) (h.getD 13 0) (h.getD 14 0)
    exact (e _).symm ▸ chk_of oo _ _ ⟨rfl, rfl⟩

theorem check16_c (r p a : List UInt64) (h : List UInt8) : HCall Tryd.E 50 [.agg [.w64 2 r, .w64 2 p, .w64 3 a, .b8 16 h, .int .i64 16]] (.ret (.int .i64 9) []) := by
  refine HCall.of_walk (R := RS) (T := P2) (fun _ _ => .unroll 17) 5 rfl rfl ?_
  rw [check16_eq]
  simp only [ite2_eq, has_ret, and_self, implies_true]

noncomputable def P3 : Ctr Tryd.E := ((P2.add 51 (fun
    | [.agg [.w64 2 r, .w64 2 p, .w64 3 a, .b8 16 h, .int .i64 n]] => some (ltQ (v2 r) 21267647932558653966460912964485513216 && (ltQ (v3 a) q && inB n 17), .ret (.agg [.w64 2 r, .w64 2 p, .w64 3 (w3 (soakN (v2 r) (v3 a) h n.toNat)), .b8 16 zeros, .int .i64 0]) [])
    | _ => none) (by
      intro args pre out h hp
      split at h
      · simp only [Option.some.injEq, Prod.mk.injEq] at h
        obtain ⟨rfl, rfl⟩ := h
        simp only [Bool.and_eq_true, ltQ_iff, inB_iff] at hp
        exact soak_c _ _ _ _ _ hp.1 hp.2.1 (by omega) (by omega)
      · simp at h)).add 47 (fun
    | [.b8 32 k] => some (true, .ret (.agg [.w64 2 (rOf k), .w64 2 (padOf k), .w64 3 (w3 0), .b8 16 zeros, .int .i64 0]) [])
    | _ => none) (by
      intro args pre out h hp
      split at h
      · simp only [Option.some.injEq, Prod.mk.injEq] at h
        obtain ⟨rfl, rfl⟩ := h
        exact begin_c _
      · simp at h)).add 50 (fun
    | [.agg [.w64 2 r, .w64 2 p, .w64 3 a, .b8 16 h, .int .i64 n]] => some (n == 16 || okS r a h n, .alt (n == 16) (.ret (.int .i64 9) []) (.ret (.int .i64 0) []))
    | _ => none) (by
      intro args pre out h hp
      split at h
      · simp only [Option.some.injEq, Prod.mk.injEq] at h
        obtain ⟨rfl, rfl⟩ := h
        simp only [Bool.or_eq_true, okS_iff, beq_iff_eq] at hp
        rename_i r p a h n
        by_cases e : n = 16
        · subst e
          exact HCall.alt_l rfl rfl (check16_c _ _ _ _)
        · exact HCall.alt_r (by simpa using e) rfl (check_c _ _ _ _ _ (hp.resolve_left e))
      · simp at h)
end Go.Proofs.YtdipeoacmapehaaDoor

set_option linter.unusedSimpArgs false
set_option linter.unusedVariables false
namespace Go.Proofs.YtdipeoacmapehaaDoor
open Go Go.V Go.Fld Go.Pol
/-- Bytes put to a sum. -/
noncomputable def addS : Nat → PS → List UInt8 → PS := (sealed addP).val
theorem addS_eq (r : Nat) (s : PS) (b : List UInt8) : addS r s b = addP r s b := by rw [addS, (sealed addP).property]
noncomputable def psB (r p : List UInt64) (s : PS) : AV := .agg [.w64 2 r, .w64 2 p, .w64 3 (w3 s.a), .b8 16 s.h, .int .i64 ((s.n : Nat) : Int)]
noncomputable def addL (r p : List UInt64) (s : PS) (b : List UInt8) : LPlan := .rel [2, 4, 15, 16, 17] [16] Nat Inv.upTo Inv.up (fun i => [(17, .int .i64 (i : Nat))])
  (fun i => [(0, .blk [.w64 2 r, .w64 2 p, .w64 3 (w3 (addS (v2 r) s (b.take i)).a), .b8 16 (addS (v2 r) s (b.take i)).h, .int .i64 (((addS (v2 r) s (b.take i)).n : Nat) : Int)] [])])
end Go.Proofs.YtdipeoacmapehaaDoor

set_option linter.unusedSimpArgs false
set_option linter.unusedVariables false
namespace Go.Proofs.YtdipeoacmapehaaDoor
open Go Go.V Go.Fld Go.Pol
set_option maxHeartbeats 0
set_option maxRecDepth 100000

theorem add_eq (r p : List UInt64) (s : PS) (full : Bool) (b : List UInt8) (K : AV → Heap → Prop) : walk Tryd.E RS P3.C (fun _ _ => addL r p s b) 5 46 [.agg [.w64 2 r, .w64 2 p, .w64 3 (w3 s.a), .b8 16 s.h, .int .i64 ((s.n : Nat) : Int)], .vec8 full b] K = (
 let x0 : Int := (((Pol.PS.n s) : Nat) : Int)
 let x1 : List UInt64 := (Pol.w3 (Pol.PS.a s))
 let x2 : Nat := (List.length b)
 let x3 : Int := ((x2 : Nat) : Int)
 cnd ((x0 == 16) || (Pol.okS r x1 (Pol.PS.h s) x0))
 (ite2 (x0 == 16)
 -- THEN
 (K (AV.tup [AV.agg [AV.w64 2 [0, 0], AV.w64 2 [0, 0], AV.w64 3 [0, 0, 0], AV.b8 16 [0, 0, 0, 0, 0, 0, 0, 0, 0, 0, 0, 0, 0, 0, 0, 0], AV.int IntKind.i64 0], AV.int IntKind.i64 9]) [])
 -- ELSE
 ((∃ w0 : Nat, (Inv.upTo [AV.int IntKind.i64 x3] w0) ∧ ((AV.vec8 full b = AV.vec8 full b) ∧ ((AV.int IntKind.i64 x3 = AV.int IntKind.i64 x3) ∧ ((AV.int IntKind.i64 0 = AV.int IntKind.i64 ((w0 : Nat) : Int)) ∧ ((AV.w64 2 r = AV.w64 2 r) ∧ ((AV.w64 2 p = AV.w64 2 p) ∧ ((AV.w64 3 x1 = AV.w64 3 (Pol.w3 (Pol.PS.a (addS (Pol.v2 r) s (List.take w0 b))))) ∧ ((AV.b8 16 (Pol.PS.h s) = AV.b8 16 (Pol.PS.h (addS (Pol.v2 r) s (List.take w0 b)))) ∧ ((AV.int IntKind.i64 x0 = AV.int IntKind.i64 (((Pol.PS.n (addS (Pol.v2 r) s (List.take w0 b))) : Nat) : Int)) ∧ ((AV.w64 2 [0, 0] = AV.w64 2 [0, 0]) ∧ ((AV.w64 2 [0, 0] = AV.w64 2 [0, 0]) ∧ ((AV.w64 3 [0, 0, 0] = AV.w64 3 [0, 0, 0]) ∧ ((AV.b8 16 [0, 0, 0, 0, 0, 0, 0, 0, 0, 0, 0, 0, 0, 0, 0, 0] = AV.b8 16 [0, 0, 0, 0, 0, 0, 0, 0, 0, 0, 0, 0, 0, 0, 0, 0]) ∧ ((AV.int IntKind.i64 0 = AV.int IntKind.i64 0) ∧ True)))))))))))))) ∧ (∀ w1 : Nat, (Inv.upTo [AV.int IntKind.i64 x3] w1 → ite2 (ltI ((w1 : Nat) : Int) x3)
 -- THEN
 (cnd ((inB ((w1 : Nat) : Int) x2) && Bool.true)
 (cnd (leB (0 + x2) x2)
 (cnd (inB (((Pol.PS.n (addS (Pol.v2 r) s (List.take w1 b))) : Nat) : Int) 16)
 (ite2 ((wr IntKind.i64 ((((Pol.PS.n (addS (Pol.v2 r) s (List.take w1 b))) : Nat) : Int) + 1)) == 16)
 -- THEN
 (cnd ((Pol.ltQ (Pol.v2 r) 21267647932558653966460912964485513216) && ((Pol.ltQ (Pol.v3 (Pol.w3 (Pol.PS.a (addS (Pol.v2 r) s (List.take w1 b))))) 1361129467683753853853498429727072845819) && (inB (wr IntKind.i64 ((((Pol.PS.n (addS (Pol.v2 r) s (List.take w1 b))) : Nat) : Int) + 1)) 17)))
 ((∃ w2 : Nat, (((Inv.up w2) < (Inv.up w1)) ∧ (Inv.upTo [AV.int IntKind.i64 x3] w2)) ∧ ((AV.vec8 full b = AV.vec8 full b) ∧ ((AV.int IntKind.i64 x3 = AV.int IntKind.i64 x3) ∧ ((AV.int IntKind.i64 (wr IntKind.i64 (((w1 : Nat) : Int) + 1)) = AV.int IntKind.i64 ((w2 : Nat) : Int)) ∧ ((AV.w64 2 r = AV.w64 2 r) ∧ ((AV.w64 2 p = AV.w64 2 p) ∧ ((AV.w64 3 (Pol.w3 (Pol.soakN (Pol.v2 r) (Pol.v3 (Pol.w3 (Pol.PS.a (addS (Pol.v2 r) s (List.take w1 b))))) (List.set (Pol.PS.h (addS (Pol.v2 r) s (List.take w1 b))) (Int.toNat (((Pol.PS.n (addS (Pol.v2 r) s (List.take w1 b))) : Nat) : Int)) (List.getD b (ofs 0 ((w1 : Nat) : Int)) 0)) (Int.toNat (wr IntKind.i64 ((((Pol.PS.n (addS (Pol.v2 r) s (List.take w1 b))) : Nat) : Int) + 1))))) = AV.w64 3 (Pol.w3 (Pol.PS.a (addS (Pol.v2 r) s (List.take w2 b))))) ∧ ((AV.b8 16 Pol.zeros = AV.b8 16 (Pol.PS.h (addS (Pol.v2 r) s (List.take w2 b)))) ∧ ((AV.int IntKind.i64 0 = AV.int IntKind.i64 (((Pol.PS.n (addS (Pol.v2 r) s (List.take w2 b))) : Nat) : Int)) ∧ ((AV.w64 2 [0, 0] = AV.w64 2 [0, 0]) ∧ ((AV.w64 2 [0, 0] = AV.w64 2 [0, 0]) ∧ ((AV.w64 3 [0, 0, 0] = AV.w64 3 [0, 0, 0]) ∧ ((AV.b8 16 [0, 0, 0, 0, 0, 0, 0, 0, 0, 0, 0, 0, 0, 0, 0, 0] = AV.b8 16 [0, 0, 0, 0, 0, 0, 0, 0, 0, 0, 0, 0, 0, 0, 0, 0]) ∧ ((AV.int IntKind.i64 0 = AV.int IntKind.i64 0) ∧ True))))))))))))))))
 -- ELSE
 ((∃ w3 : Nat, (((Inv.up w3) < (Inv.up w1)) ∧ (Inv.upTo [AV.int IntKind.i64 x3] w3)) ∧ ((AV.vec8 full b = AV.vec8 full b) ∧ ((AV.int IntKind.i64 x3 = AV.int IntKind.i64 x3) ∧ ((AV.int IntKind.i64 (wr IntKind.i64 (((w1 : Nat) : Int) + 1)) = AV.int IntKind.i64 ((w3 : Nat) : Int)) ∧ ((AV.w64 2 r = AV.w64 2 r) ∧ ((AV.w64 2 p = AV.w64 2 p) ∧ ((AV.w64 3 (Pol.w3 (Pol.PS.a (addS (Pol.v2 r) s (List.take w1 b)))) = AV.w64 3 (Pol.w3 (Pol.PS.a (addS (Pol.v2 r) s (List.take w3 b))))) ∧ ((AV.b8 16 (List.set (Pol.PS.h (addS (Pol.v2 r) s (List.take w1 b))) (Int.toNat (((Pol.PS.n (addS (Pol.v2 r) s (List.take w1 b))) : Nat) : Int)) (List.getD b (ofs 0 ((w1 : Nat) : Int)) 0)) = AV.b8 16 (Pol.PS.h (addS (Pol.v2 r) s (List.take w3 b)))) ∧ ((AV.int IntKind.i64 (wr IntKind.i64 ((((Pol.PS.n (addS (Pol.v2 r) s (List.take w1 b))) : Nat) : Int) + 1)) = AV.int IntKind.i64 (((Pol.PS.n (addS (Pol.v2 r) s (List.take w3 b))) : Nat) : Int)) ∧ ((AV.w64 2 [0, 0] = AV.w64 2 [0, 0]) ∧ ((AV.w64 2 [0, 0] = AV.w64 2 [0, 0]) ∧ ((AV.w64 3 [0, 0, 0] = AV.w64 3 [0, 0, 0]) ∧ ((AV.b8 16 [0, 0, 0, 0, 0, 0, 0, 0, 0, 0, 0, 0, 0, 0, 0, 0] = AV.b8 16 [0, 0, 0, 0, 0, 0, 0, 0, 0, 0, 0, 0, 0, 0, 0, 0]) ∧ ((AV.int IntKind.i64 0 = AV.int IntKind.i64 0) ∧ True)))))))))))))))))))
 -- ELSE
 (K (AV.tup [AV.agg [AV.w64 2 r, AV.w64 2 p, AV.w64 3 (Pol.w3 (Pol.PS.a (addS (Pol.v2 r) s (List.take w1 b)))), AV.b8 16 (Pol.PS.h (addS (Pol.v2 r) s (List.take w1 b))), AV.int IntKind.i64 (((Pol.PS.n (addS (Pol.v2 r) s (List.take w1 b))) : Nat) : Int)], AV.int IntKind.i64 0]) [])))))) := by kernel_rfl

theorem theend_eq (r p : List UInt64) (s : PS) (K : AV → Heap → Prop) : walk Tryd.E RS P3.C (fun _ _ => .unroll 17) 5 48 [.agg [.w64 2 r, .w64 2 p, .w64 3 (w3 s.a), .b8 16 s.h, .int .i64 ((s.n : Nat) : Int)]] K = (
 let x0 : Int := (((Pol.PS.n s) : Nat) : Int)
 let x1 : List UInt64 := (Pol.w3 (Pol.PS.a s))
 let x2 : List UInt8 := [0, 0, 0, 0, 0, 0, 0, 0, 0, 0, 0, 0, 0, 0, 0, 0]
 let x3 : List UInt64 := (Pol.w3 (Pol.soakN (Pol.v2 r) (Pol.v3 x1) (Pol.PS.h s) (Int.toNat x0)))
 let x4 : UInt64 := (List.getD x3 0 0)
 let x5 : UInt64 := (List.getD p 0 0)
 let x6 : UInt64 := (carry64 x4 x5 0)
 let x7 : UInt64 := ((x4 + x5) + 0)
 let x8 : UInt64 := (List.getD p 1 0)
 let x9 : UInt64 := (((List.getD x3 1 0) + x8) + x6)
 let x10 : UInt64 := (List.getD x1 0 0)
 let x11 : UInt64 := (carry64 x10 x5 0)
 let x12 : UInt64 := ((x10 + x5) + 0)
 let x13 : UInt64 := (((List.getD x1 1 0) + x8) + x11)
 cnd ((x0 == 16) || (Pol.okS r x1 (Pol.PS.h s) x0))
 (ite2 (x0 == 16)
 -- THEN
 (K (AV.tup [AV.b8 16 x2, AV.int IntKind.i64 9]) [])
 -- ELSE
 (ite2 (ltI 0 x0)
 -- THEN
 (cnd ((Pol.ltQ (Pol.v2 r) 21267647932558653966460912964485513216) && ((Pol.ltQ (Pol.v3 x1) 1361129467683753853853498429727072845819) && (inB x0 17)))
 (cnd (bit1 x6)
 (K (AV.tup [AV.b8 16 (List.set (List.set (List.set (List.set (List.set (List.set (List.set (List.set (List.set (List.set (List.set (List.set (List.set (List.set (List.set (List.set x2 0 (UInt64.toUInt8 (shr64 x7 0))) 8 (UInt64.toUInt8 (shr64 x9 0))) 1 (UInt64.toUInt8 (shr64 x7 8))) 9 (UInt64.toUInt8 (shr64 x9 8))) 2 (UInt64.toUInt8 (shr64 x7 16))) 10 (UInt64.toUInt8 (shr64 x9 16))) 3 (UInt64.toUInt8 (shr64 x7 24))) 11 (UInt64.toUInt8 (shr64 x9 24))) 4 (UInt64.toUInt8 (shr64 x7 32))) 12 (UInt64.toUInt8 (shr64 x9 32))) 5 (UInt64.toUInt8 (shr64 x7 40))) 13 (UInt64.toUInt8 (shr64 x9 40))) 6 (UInt64.toUInt8 (shr64 x7 48))) 14 (UInt64.toUInt8 (shr64 x9 48))) 7 (UInt64.toUInt8 (shr64 x7 56))) 15 (UInt64.toUInt8 (shr64 x9 56))), AV.int IntKind.i64 0]) [])))
 -- ELSE
 (cnd (bit1 x11)
 (K (AV.tup [AV.b8 16 (List.set (List.set (List.set (List.set (List.set (List.set (List.set (List.set (List.set (List.set (List.set (List.set (List.set (List.set (List.set (List.set x2 0 (UInt64.toUInt8 (shr64 x12 0))) 8 (UInt64.toUInt8 (shr64 x13 0))) 1 (UInt64.toUInt8 (shr64 x12 8))) 9 (UInt64.toUInt8 (shr64 x13 8))) 2 (UInt64.toUInt8 (shr64 x12 16))) 10 (UInt64.toUInt8 (shr64 x13 16))) 3 (UInt64.toUInt8 (shr64 x12 24))) 11 (UInt64.toUInt8 (shr64 x13 24))) 4 (UInt64.toUInt8 (shr64 x12 32))) 12 (UInt64.toUInt8 (shr64 x13 32))) 5 (UInt64.toUInt8 (shr64 x12 40))) 13 (UInt64.toUInt8 (shr64 x13 40))) 6 (UInt64.toUInt8 (shr64 x12 48))) 14 (UInt64.toUInt8 (shr64 x13 48))) 7 (UInt64.toUInt8 (shr64 x12 56))) 15 (UInt64.toUInt8 (shr64 x13 56))), AV.int IntKind.i64 0]) []))))) := by kernel_rfl

end Go.Proofs.YtdipeoacmapehaaDoor

set_option linter.unusedSimpArgs false
set_option linter.unusedVariables false
namespace Go.Proofs.YtdipeoacmapehaaDoor
open Go Go.V Go.Fld Go.Pol
set_option maxRecDepth 100000

theorem take_addS {r : Nat} {s : PS} {b : List UInt8} {i : Nat} (h : i < b.length) : addS r s (b.take (i + 1)) = stepP r (addS r s (b.take i)) (b.getD i 0) := by
  rw [addS_eq, addS_eq]
  have : b.take (i + 1) = b.take i ++ [b.getD i 0] := by
    rw [List.take_succ_eq_append_getElem h, List.getD_eq_getElem?_getD, List.getElem?_eq_getElem h]; rfl
  rw [this, addP_append]
  rfl
theorem addS_ok {r : Nat} {s : PS} (o : s.ok) (b : List UInt8) : (addS r s b).ok := by rw [addS_eq]; exact addP_ok o

theorem add_s (r p : List UInt64) (s : PS) (full : Bool) (b : List UInt8) (o : s.ok) (hb : b.length < 4611686018427387904) (hr : v2 r < 21267647932558653966460912964485513216) (ho : okS r (w3 s.a) s.h ((s.n : Nat) : Int) = true) :
    HCall Tryd.E 46 [.agg [.w64 2 r, .w64 2 p, .w64 3 (w3 s.a), .b8 16 s.h, .int .i64 ((s.n : Nat) : Int)], .vec8 full b]
      (.ret (.tup [.agg [.w64 2 r, .w64 2 p, .w64 3 (w3 (addS (v2 r) s b).a), .b8 16 (addS (v2 r) s b).h, .int .i64 (((addS (v2 r) s b).n : Nat) : Int)], .int .i64 0]) []) := by
  refine HCall.of_walk (R := RS) (T := P3) (fun _ _ => addL r p s b) 5 rfl rfl ?_
  rw [add_eq]
  have hn := o.n
  have e0 : (((s.n : Nat) : Int) == 16) = false := by rw [beq_eq_false_iff_ne]; omega
  dsimp only
  rw [e0, ho]
  simp only [Bool.false_or, cnd_true, ite2_false]
  refine ⟨⟨0, by rw [Inv.upTo_int]; omega, ?_⟩, ?_⟩
  · have e : addS (v2 r) s (b.take 0) = s := by rw [addS_eq]; rfl
    rw [e]
    simp only [true_and, and_true]
    rfl
  · intro i hi
    rw [Inv.upTo_int] at hi
    have os := addS_ok (r := v2 r) o (b.take i)
    have hsa := os.a; have hsn := os.n
    unfold q at hsa
    generalize hS : addS (v2 r) s (b.take i) = S at *
    rcases Nat.lt_or_ge i b.length with h | h
    · have hstep := take_addS (r := v2 r) (s := s) h
      rw [hS] at hstep
      rw [ltI_of (by omega), inB_of (by omega) (by omega), leB_of (by omega), inB_of (by omega) (by omega), wr_of (z := (i : Int) + 1) (by omega) (by omega), wr_of (z := ((S.n : Nat) : Int) + 1) (by omega) (by omega)]
      simp only [Bool.and_true, cnd_true, ite2_true]
      rw [show ofs 0 ((i : Nat) : Int) = i from rfl, Int.toNat_natCast, v3_w3' (by omega)]
      rw [ite2_eq]
      constructor
      · intro h15
        have h15 : ((S.n : Nat) : Int) + 1 = 16 := eq_of_beq h15
        have e15 : S.n = 15 := by omega
        rw [h15, ltQ_of hr, ltQ_of hsa]
        refine ⟨i + 1, ⟨Inv.up_lt (by omega), by rw [Inv.upTo_int]; omega⟩, ?_⟩
        rw [hstep]
        unfold stepP
        rw [if_pos e15]
        simp only [and_self, true_and, and_true]
        exact ⟨rfl, rfl, rfl⟩
      · intro h15
        have e15 : ¬ S.n = 15 := by
          intro e; rw [e] at h15; exact absurd h15 (by decide)
        refine ⟨i + 1, ⟨Inv.up_lt (by omega), by rw [Inv.upTo_int]; omega⟩, ?_⟩
        rw [hstep]
        unfold stepP
        rw [if_neg e15]
        simp only [and_self, true_and, and_true]
        exact ⟨rfl, rfl⟩
    · rw [ltI_no (by omega), ite2_false]
      rw [List.take_of_length_le h] at hS
      rw [hS]
      exact ⟨rfl, rfl⟩

theorem add_c (r p a : List UInt64) (h : List UInt8) (n : Int) (full : Bool) (b : List UInt8) (ok : okP r a h n) (hb : b.length < 4611686018427387904) :
    HCall Tryd.E 46 [.agg [.w64 2 r, .w64 2 p, .w64 3 a, .b8 16 h, .int .i64 n], .vec8 full b]
      (.ret (.tup [.agg [.w64 2 r, .w64 2 p, .w64 3 (w3 (addS (v2 r) ⟨v3 a, h, n.toNat⟩ b).a), .b8 16 (addS (v2 r) ⟨v3 a, h, n.toNat⟩ b).h, .int .i64 (((addS (v2 r) ⟨v3 a, h, n.toNat⟩ b).n : Nat) : Int)], .int .i64 0]) []) := by
  refine HCall.of_lens rfl rfl fun hl => ?_
  have hh : h.length = 16 := hl (.agg _) (List.mem_cons_self ..) (.b8 16 h) (by simp)
  have hr : r.length = 2 := hl (.agg _) (List.mem_cons_self ..) (.w64 2 r) (by simp)
  have ha : a.length = 3 := hl (.agg _) (List.mem_cons_self ..) (.w64 3 a) (by simp)
  have o : PS.ok ⟨v3 a, h, n.toNat⟩ := ⟨ok.2.2.1, hh, by have := ok.2.2.2.2.1; show n.toNat < 16; omega, ok.2.2.2.2.2⟩
  have h0 := ok.2.2.2.1
  have en : ((n.toNat : Nat) : Int) = n := by omega
  have := add_s r p ⟨v3 a, h, n.toNat⟩ full b o hb (ok.r2 hr) (by
    show okS r (w3 (v3 a)) h ((n.toNat : Nat) : Int) = true
    rw [w3_v3' ha, en]
    exact okS_iff.2 ok)
  dsimp only at this
  rw [w3_v3' ha, en] at this
  exact this

/-- The number at the end, and its bytes. -/
noncomputable def lastP (r : Nat) (s : PS) : Nat := if 0 < s.n then soakN r s.a s.h s.n else s.a
noncomputable def endF (acc : Nat) (p : List UInt64) : List UInt8 :=
  let x2 : List UInt8 := [0, 0, 0, 0, 0, 0, 0, 0, 0, 0, 0, 0, 0, 0, 0, 0]
  let x4 : UInt64 := (List.getD (w3 acc) 0 0)
  let x5 : UInt64 := (List.getD p 0 0)
  let x6 : UInt64 := (carry64 x4 x5 0)
  let x7 : UInt64 := ((x4 + x5) + 0)
  let x9 : UInt64 := (((List.getD (w3 acc) 1 0) + (List.getD p 1 0)) + x6)
  (List.set (List.set (List.set (List.set (List.set (List.set (List.set (List.set (List.set (List.set (List.set (List.set (List.set (List.set (List.set (List.set x2 0 (UInt64.toUInt8 (shr64 x7 0))) 8 (UInt64.toUInt8 (shr64 x9 0))) 1 (UInt64.toUInt8 (shr64 x7 8))) 9 (UInt64.toUInt8 (shr64 x9 8))) 2 (UInt64.toUInt8 (shr64 x7 16))) 10 (UInt64.toUInt8 (shr64 x9 16))) 3 (UInt64.toUInt8 (shr64 x7 24))) 11 (UInt64.toUInt8 (shr64 x9 24))) 4 (UInt64.toUInt8 (shr64 x7 32))) 12 (UInt64.toUInt8 (shr64 x9 32))) 5 (UInt64.toUInt8 (shr64 x7 40))) 13 (UInt64.toUInt8 (shr64 x9 40))) 6 (UInt64.toUInt8 (shr64 x7 48))) 14 (UInt64.toUInt8 (shr64 x9 48))) 7 (UInt64.toUInt8 (shr64 x7 56))) 15 (UInt64.toUInt8 (shr64 x9 56)))
noncomputable def endS : Nat → List UInt64 → List UInt8 := (sealed endF).val
theorem endS_eq (acc : Nat) (p : List UInt64) : endS acc p = endF acc p := by rw [endS, (sealed endF).property]

theorem end_s (r p : List UInt64) (s : PS) (o : s.ok) (hr : v2 r < 21267647932558653966460912964485513216) (ho : okS r (w3 s.a) s.h ((s.n : Nat) : Int) = true) :
    HCall Tryd.E 48 [.agg [.w64 2 r, .w64 2 p, .w64 3 (w3 s.a), .b8 16 s.h, .int .i64 ((s.n : Nat) : Int)]] (.ret (.tup [.b8 16 (endS (lastP (v2 r) s) p), .int .i64 0]) []) := by
  refine HCall.of_walk (R := RS) (T := P3) (fun _ _ => .unroll 17) 5 rfl rfl ?_
  rw [theend_eq]
  have hn := o.n
  have hsa := o.a
  unfold q at hsa
  have e0 : (((s.n : Nat) : Int) == 16) = false := by rw [beq_eq_false_iff_ne]; omega
  intro x0 x1 x2 x3 x4 x5 x6 x7 x8 x9 x10 x11 x12 x13
  have e0 : (x0 == 16) = false := e0
  have e1 : okS r x1 s.h x0 = true := ho
  have e2 : bit1 x6 = true := bit1_carry ..
  have e3 : bit1 x11 = true := bit1_carry ..
  have e4 : ltQ (v3 x1) 1361129467683753853853498429727072845819 = true := ltQ_of (by show v3 (w3 s.a) < _; rw [v3_w3' (by omega)]; exact hsa)
  have e5 : inB x0 17 = true := inB_of (show (0 : Int) ≤ ((s.n : Nat) : Int) by omega) (show ((s.n : Nat) : Int) < 17 by omega)
  rw [e0, e1, e2, e3, e4, e5, ltQ_of hr, endS_eq]
  unfold lastP
  rcases Nat.lt_or_ge 0 s.n with h | h
  · have e6 : ltI 0 x0 = true := ltI_of (show (0 : Int) < ((s.n : Nat) : Int) by omega)
    rw [e6, if_pos h]
    have e7 : x3 = w3 (soakN (v2 r) s.a s.h s.n) := by
      show w3 (soakN (v2 r) (v3 (w3 s.a)) s.h (Int.toNat ((s.n : Nat) : Int))) = _
      rw [v3_w3' (by omega), Int.toNat_natCast]
    refine ⟨?_, rfl⟩
    show AV.tup [AV.b8 16 _, AV.int IntKind.i64 0] = _
    unfold endF
    rw [← e7]
  · have e6 : ltI 0 x0 = false := ltI_no (show ((s.n : Nat) : Int) ≤ 0 by omega)
    rw [e6, if_neg (by omega)]
    exact ⟨rfl, rfl⟩

theorem end_c (r p a : List UInt64) (h : List UInt8) (n : Int) (ok : okP r a h n) :
    HCall Tryd.E 48 [.agg [.w64 2 r, .w64 2 p, .w64 3 a, .b8 16 h, .int .i64 n]] (.ret (.tup [.b8 16 (endS (lastP (v2 r) ⟨v3 a, h, n.toNat⟩) p), .int .i64 0]) []) := by
  refine HCall.of_lens rfl rfl fun hl => ?_
  have hh : h.length = 16 := hl (.agg _) (List.mem_cons_self ..) (.b8 16 h) (by simp)
  have hr : r.length = 2 := hl (.agg _) (List.mem_cons_self ..) (.w64 2 r) (by simp)
  have ha : a.length = 3 := hl (.agg _) (List.mem_cons_self ..) (.w64 3 a) (by simp)
  have o : PS.ok ⟨v3 a, h, n.toNat⟩ := ⟨ok.2.2.1, hh, by have := ok.2.2.2.2.1; show n.toNat < 16; omega, ok.2.2.2.2.2⟩
  have h0 := ok.2.2.2.1
  have en : ((n.toNat : Nat) : Int) = n := by omega
  have := end_s r p ⟨v3 a, h, n.toNat⟩ o (ok.r2 hr) (by
    show okS r (w3 (v3 a)) h ((n.toNat : Nat) : Int) = true
    rw [w3_v3' ha, en]
    exact okS_iff.2 ok)
  dsimp only at this
  rw [w3_v3' ha, en] at this
  exact this

noncomputable def P4 : Ctr Tryd.E := (P3.add 46 (fun
    | [.agg [.w64 2 r, .w64 2 p, .w64 3 a, .b8 16 h, .int .i64 n], .vec8 full b] => some (okS r a h n && ltB b.length 4611686018427387904,
        .ret (.tup [.agg [.w64 2 r, .w64 2 p, .w64 3 (w3 (addS (v2 r) ⟨v3 a, h, n.toNat⟩ b).a), .b8 16 (addS (v2 r) ⟨v3 a, h, n.toNat⟩ b).h, .int .i64 (((addS (v2 r) ⟨v3 a, h, n.toNat⟩ b).n : Nat) : Int)], .int .i64 0]) [])
    | _ => none) (by
      intro args pre out h hp
      split at h
      · simp only [Option.some.injEq, Prod.mk.injEq] at h
        obtain ⟨rfl, rfl⟩ := h
        simp only [Bool.and_eq_true, okS_iff, ltB_iff] at hp
        exact add_c _ _ _ _ _ _ _ hp.1 hp.2
      · simp at h)).add 48 (fun
    | [.agg [.w64 2 r, .w64 2 p, .w64 3 a, .b8 16 h, .int .i64 n]] => some (okS r a h n, .ret (.tup [.b8 16 (endS (lastP (v2 r) ⟨v3 a, h, n.toNat⟩) p), .int .i64 0]) [])
    | _ => none) (by
      intro args pre out h hp
      split at h
      · simp only [Option.some.injEq, Prod.mk.injEq] at h
        obtain ⟨rfl, rfl⟩ := h
        simp only [okS_iff] at hp
        exact end_c _ _ _ _ _ hp
      · simp at h)
end Go.Proofs.YtdipeoacmapehaaDoor

set_option linter.unusedSimpArgs false
set_option linter.unusedVariables false
namespace Go.Proofs.YtdipeoacmapehaaDoor
open Go Go.V Go.Fld Go.Pol
set_option maxHeartbeats 0
set_option maxRecDepth 100000

theorem tag_eq (k b : List UInt8) (full : Bool) (K : AV → Heap → Prop) : walk Tryd.E RS P4.C (fun _ _ => .unroll 17) 5 42 [.b8 32 k, .vec8 full b] K = (
 let x0 : Nat := (Pol.v2 (rOf k))
 let x1 : List UInt64 := (Pol.w3 (Pol.PS.a (addS x0 (Pol.PS.mk (Pol.v3 (Pol.w3 0)) Pol.zeros (Int.toNat 0)) b)))
 let x2 : List UInt8 := (Pol.PS.h (addS x0 (Pol.PS.mk (Pol.v3 (Pol.w3 0)) Pol.zeros (Int.toNat 0)) b))
 let x3 : Int := (((Pol.PS.n (addS x0 (Pol.PS.mk (Pol.v3 (Pol.w3 0)) Pol.zeros (Int.toNat 0)) b)) : Nat) : Int)
 cnd ((Pol.okS (rOf k) (Pol.w3 0) Pol.zeros 0) && (ltB (List.length b) 4611686018427387904))
 (cnd (Pol.okS (rOf k) x1 x2 x3)
 (K (AV.b8 16 (endS (lastP x0 (Pol.PS.mk (Pol.v3 x1) x2 (Int.toNat x3))) (padOf k))) []))) := by kernel_rfl

end Go.Proofs.YtdipeoacmapehaaDoor

set_option linter.unusedSimpArgs false
set_option linter.unusedVariables false
namespace Go.Proofs.YtdipeoacmapehaaDoor
open Go Go.V Go.Fld Go.Pol
set_option maxRecDepth 100000

theorem and_none (x a b : UInt64) (h : a &&& b = 0) : ((x &&& a) &&& b).toNat = 0 := by
  rw [UInt64.and_assoc, h, UInt64.and_zero]; rfl
theorem rOf_0 (k : List UInt8) : ((rOf k).getD 0 0 &&& 17293822586014138368).toNat = 0 := and_none _ _ _ (by decide)
theorem rOf_1 (k : List UInt8) : ((rOf k).getD 1 0 &&& 17293822586014138371).toNat = 0 := and_none _ _ _ (by decide)
theorem ok0 : PS.ok ⟨0, zeros, 0⟩ := ⟨by decide, rfl, by decide, fun i _ => zeros_getD i⟩
theorem okS_r {k : List UInt8} {s : PS} (o : s.ok) : okS (rOf k) (w3 s.a) s.h ((s.n : Nat) : Int) = true := okS_of o (rOf_0 k) (rOf_1 k)
theorem ps_eta {s : PS} (o : s.ok) : PS.mk (v3 (w3 s.a)) s.h (Int.toNat ((s.n : Nat) : Int)) = s := by
  have h := o.a
  unfold q at h
  rw [v3_w3' (by omega), Int.toNat_natCast]

/-- The tag of bytes by a key. -/
noncomputable def tagF (k b : List UInt8) : List UInt8 := endS (lastP (v2 (rOf k)) (addS (v2 (rOf k)) ⟨0, zeros, 0⟩ b)) (padOf k)
noncomputable def tagS : List UInt8 → List UInt8 → List UInt8 := (sealed tagF).val
theorem tagS_eq (k b : List UInt8) : tagS k b = tagF k b := by rw [tagS, (sealed tagF).property]

theorem tag_c (k b : List UInt8) (full : Bool) (hb : b.length < 4611686018427387904) : HCall Tryd.E 42 [.b8 32 k, .vec8 full b] (.ret (.b8 16 (tagS k b)) []) := by
  refine HCall.of_walk (R := RS) (T := P4) (fun _ _ => .unroll 17) 5 rfl rfl ?_
  rw [tag_eq]
  have e0 : PS.mk (v3 (w3 0)) zeros (Int.toNat 0) = ⟨0, zeros, 0⟩ := ps_eta ok0
  have e1 : okS (rOf k) (w3 0) zeros 0 = true := okS_r ok0
  rw [e0, e1]
  have o := addS_ok (r := v2 (rOf k)) ok0 b
  dsimp only
  rw [okS_r o, ltB_of hb, ps_eta o, tagS_eq]
  exact ⟨rfl, rfl⟩

noncomputable def P5 : Ctr Tryd.E := (P4.add 42 (fun
    | [.b8 32 k, .vec8 _ b] => some (ltB b.length 4611686018427387904, .ret (.b8 16 (tagS k b)) [])
    | _ => none) (by
      intro args pre out h hp
      split at h
      · simp only [Option.some.injEq, Prod.mk.injEq] at h
        obtain ⟨rfl, rfl⟩ := h
        exact tag_c _ _ _ (ltB_iff.1 hp)
      · simp at h)).add 6 (fun
    | [.int .i64 n, .int .i64 m] => some (decide (0 < m) && decide (m ≤ 9223372036854775807), .ret (.int .i64 (n % m)) [])
    | _ => none) (by
      intro args pre out h hp
      split at h
      · simp only [Option.some.injEq, Prod.mk.injEq] at h
        obtain ⟨rfl, rfl⟩ := h
        simp only [Bool.and_eq_true, decide_eq_true_eq] at hp
        exact picked_c _ _ hp.1 hp.2
      · simp at h)
end Go.Proofs.YtdipeoacmapehaaDoor

set_option linter.unusedSimpArgs false
set_option linter.unusedVariables false
namespace Go.Proofs.YtdipeoacmapehaaDoor
open Go Go.V Go.Cha
set_option maxHeartbeats 0
set_option maxRecDepth 100000

structure StrI where
  k : Nat
  i : Nat
section
variable (key nonce b : List UInt8) (c : UInt32)
noncomputable def strT (t12 t13 : AV) (at_ : Int) : List AV :=
  [.b8 32 key, .u32 c, .b8 12 nonce, .any, .ptr 0 0, .any, .ptr 1 0, .any, .vec8 true [], .int .i64 0, .sl 2 0 1 b.length, .int .i64 at_, t12, t13] ++ List.replicate 50 .any
noncomputable def strTo (k : Nat) : List AV := strT key nonce b c .any .any ((64 * k : Nat) : Int)
noncomputable def strHo (k : Nat) : Heap := [.blk [.b8 32 key] [], .blk [.b8 12 nonce] [], .grow8 (streamN key c nonce (64 * k) b) []]
noncomputable def strTi (s : StrI) : List AV := strT key nonce b c (.ptr 3 0) (.int .i64 (s.i : Nat)) ((64 * s.k : Nat) : Int)
noncomputable def strHi (s : StrI) : Heap := [.blk [.b8 32 key] [], .blk [.b8 12 nonce] [], .grow8 (streamN key c nonce s.i b) [], .blk [.b8 64 (blockS key (c + UInt32.ofNat s.k) nonce)] []]
def strOo (k : Nat) : Prop := 64 * k ≤ b.length + 63 ∧ b.length ≤ 1600
def strOi (g : AV) (s : StrI) : Prop := g = .int .i64 ((64 * s.k : Nat) : Int) ∧ 64 * s.k < b.length ∧ 64 * s.k ≤ s.i ∧ s.i ≤ 64 * s.k + 64 ∧ s.i ≤ b.length ∧ b.length ≤ 1600
noncomputable def strL (f l : Nat) : LPlan :=
  bif f == 38 then (bif l == 7 then .inv Nat (strOo b) (fun k => b.length + 64 - 64 * k) (strTo key nonce b c) (strHo key nonce b c)
    else .invg StrI 11 (strOi b) (fun s => b.length - s.i) (strTi key nonce b c) (strHi key nonce b c)) else .unroll 17
end
end Go.Proofs.YtdipeoacmapehaaDoor

set_option linter.unusedSimpArgs false
set_option linter.unusedVariables false
namespace Go.Proofs.YtdipeoacmapehaaDoor
open Go Go.V Go.Cha
set_option maxHeartbeats 0
set_option maxRecDepth 100000

theorem stream_eq (key nonce b : List UInt8) (c : UInt32) (full : Bool) (K : AV → Heap → Prop) : walk Tryd.E RS T3.C (strL key nonce b c) 5 38 [.b8 32 key, .u32 c, .b8 12 nonce, .vec8 full b] K = (
 let x0 : Nat := (List.length b)
 let x1 : Int := ((x0 : Nat) : Int)
 ite2 (ltI 1600 x1)
 -- THEN
 (K (AV.tup [AV.vec8 Bool.true [], AV.int IntKind.i64 1]) [])
 -- ELSE
 (ite2 (ltI (wr IntKind.i64 (subI 4294967296 (((UInt32.toNat c) : Nat) : Int))) (wr IntKind.i64 (Int.tdiv (wr IntKind.i64 (x1 + 63)) 64)))
 -- THEN
 (K (AV.tup [AV.vec8 Bool.true [], AV.int IntKind.i64 11]) [])
 -- ELSE
 (cnd (leB (x0 * 1) 140737488355328)
 ((∃ w0 : Nat, (strOo b w0) ∧ ((AV.b8 32 key = AV.b8 32 key) ∧ ((AV.u32 c = AV.u32 c) ∧ ((AV.b8 12 nonce = AV.b8 12 nonce) ∧ ((AV.vec8 Bool.true [] = AV.vec8 Bool.true []) ∧ ((AV.int IntKind.i64 0 = AV.int IntKind.i64 0) ∧ ((AV.sl 2 0 1 x0 = AV.sl 2 0 1 x0) ∧ ((AV.int IntKind.i64 0 = AV.int IntKind.i64 (((64 * w0) : Nat) : Int)) ∧ ((AV.b8 32 key = AV.b8 32 key) ∧ ((AV.b8 12 nonce = AV.b8 12 nonce) ∧ ((b = Cha.streamN key c nonce (64 * w0) b) ∧ True))))))))))) ∧ (∀ w1 : Nat, (strOo b w1 → ite2 (ltI (((64 * w1) : Nat) : Int) x1)
 -- THEN
 ((∃ w2 : StrI, (strOi b (AV.int IntKind.i64 (((64 * w1) : Nat) : Int)) w2) ∧ ((AV.b8 32 key = AV.b8 32 key) ∧ ((AV.u32 c = AV.u32 c) ∧ ((AV.b8 12 nonce = AV.b8 12 nonce) ∧ ((AV.vec8 Bool.true [] = AV.vec8 Bool.true []) ∧ ((AV.int IntKind.i64 0 = AV.int IntKind.i64 0) ∧ ((AV.sl 2 0 1 x0 = AV.sl 2 0 1 x0) ∧ ((AV.int IntKind.i64 (((64 * w1) : Nat) : Int) = AV.int IntKind.i64 (((64 * (StrI.k w2)) : Nat) : Int)) ∧ ((AV.int IntKind.i64 (((64 * w1) : Nat) : Int) = AV.int IntKind.i64 (((StrI.i w2) : Nat) : Int)) ∧ ((AV.b8 32 key = AV.b8 32 key) ∧ ((AV.b8 12 nonce = AV.b8 12 nonce) ∧ ((Cha.streamN key c nonce (64 * w1) b = Cha.streamN key c nonce (StrI.i w2) b) ∧ ((AV.b8 64 (Cha.blockS key (c + (UInt32.ofNat (Int.toNat ((wr IntKind.i64 (Int.tdiv (((64 * w1) : Nat) : Int) 64)) % 4294967296)))) nonce) = AV.b8 64 (Cha.blockS key (c + (UInt32.ofNat (StrI.k w2))) nonce)) ∧ True))))))))))))) ∧ (∀ w3 : StrI, (strOi b (AV.int IntKind.i64 (((64 * w1) : Nat) : Int)) w3 → ite2 (ltI (((StrI.i w3) : Nat) : Int) (cond Bool.false (Max.max (wr IntKind.i64 ((((64 * (StrI.k w3)) : Nat) : Int) + 64)) x1) (Min.min (wr IntKind.i64 ((((64 * (StrI.k w3)) : Nat) : Int) + 64)) x1)))
 -- THEN
 (cnd ((inB (((StrI.i w3) : Nat) : Int) x0) && Bool.true)
 (cnd (leB (0 + x0) (List.length (Cha.streamN key c nonce (StrI.i w3) b)))
 (cnd (inB (wr IntKind.i64 (subI (((StrI.i w3) : Nat) : Int) (((64 * (StrI.k w3)) : Nat) : Int))) 64)
 (cnd ((inB (((StrI.i w3) : Nat) : Int) x0) && Bool.true)
 (cnd ((Bool.true && ((leB (0 + x0) (szL (Ent.cells (Ent.grow8 (Cha.streamN key c nonce (StrI.i w3) b) [])))) && Bool.true)) && Bool.true)
 ((∃ w4 : StrI, ((((fun s => x0 - (StrI.i s)) w4) < ((fun s => x0 - (StrI.i s)) w3)) ∧ (strOi b (AV.int IntKind.i64 (((64 * w1) : Nat) : Int)) w4)) ∧ ((AV.b8 32 key = AV.b8 32 key) ∧ ((AV.u32 c = AV.u32 c) ∧ ((AV.b8 12 nonce = AV.b8 12 nonce) ∧ ((AV.vec8 Bool.true [] = AV.vec8 Bool.true []) ∧ ((AV.int IntKind.i64 0 = AV.int IntKind.i64 0) ∧ ((AV.sl 2 0 1 x0 = AV.sl 2 0 1 x0) ∧ ((AV.int IntKind.i64 (((64 * (StrI.k w3)) : Nat) : Int) = AV.int IntKind.i64 (((64 * (StrI.k w4)) : Nat) : Int)) ∧ ((AV.int IntKind.i64 (wr IntKind.i64 ((((StrI.i w3) : Nat) : Int) + 1)) = AV.int IntKind.i64 (((StrI.i w4) : Nat) : Int)) ∧ ((AV.b8 32 key = AV.b8 32 key) ∧ ((AV.b8 12 nonce = AV.b8 12 nonce) ∧ ((List.set (Cha.streamN key c nonce (StrI.i w3) b) (ofs 0 (((StrI.i w3) : Nat) : Int)) ((List.getD (Cha.streamN key c nonce (StrI.i w3) b) (ofs 0 (((StrI.i w3) : Nat) : Int)) 0) ^^^ (List.getD (Cha.blockS key (c + (UInt32.ofNat (StrI.k w3))) nonce) (ofs 0 (wr IntKind.i64 (subI (((StrI.i w3) : Nat) : Int) (((64 * (StrI.k w3)) : Nat) : Int)))) 0)) = Cha.streamN key c nonce (StrI.i w4) b) ∧ ((AV.b8 64 (Cha.blockS key (c + (UInt32.ofNat (StrI.k w3))) nonce) = AV.b8 64 (Cha.blockS key (c + (UInt32.ofNat (StrI.k w4))) nonce)) ∧ True)))))))))))))))))))
 -- ELSE
 ((∃ w5 : Nat, ((((fun k => (x0 + 64) - (64 * k)) w5) < ((fun k => (x0 + 64) - (64 * k)) w1)) ∧ (strOo b w5)) ∧ ((AV.b8 32 key = AV.b8 32 key) ∧ ((AV.u32 c = AV.u32 c) ∧ ((AV.b8 12 nonce = AV.b8 12 nonce) ∧ ((AV.vec8 Bool.true [] = AV.vec8 Bool.true []) ∧ ((AV.int IntKind.i64 0 = AV.int IntKind.i64 0) ∧ ((AV.sl 2 0 1 x0 = AV.sl 2 0 1 x0) ∧ ((AV.int IntKind.i64 (wr IntKind.i64 ((((64 * (StrI.k w3)) : Nat) : Int) + 64)) = AV.int IntKind.i64 (((64 * w5) : Nat) : Int)) ∧ ((AV.b8 32 key = AV.b8 32 key) ∧ ((AV.b8 12 nonce = AV.b8 12 nonce) ∧ ((Cha.streamN key c nonce (StrI.i w3) b = Cha.streamN key c nonce (64 * w5) b) ∧ True)))))))))))))))
 -- ELSE
 (K (AV.tup [AV.sl 0 0 1 x0, AV.int IntKind.i64 0]) [Ent.grow8 (Cha.streamN key c nonce (64 * w1) b) []]))))))) := by kernel_rfl

end Go.Proofs.YtdipeoacmapehaaDoor

set_option linter.unusedSimpArgs false
set_option linter.unusedVariables false
namespace Go.Proofs.YtdipeoacmapehaaDoor
open Go Go.V Go.Cha
set_option maxRecDepth 100000

def overF (c : UInt32) (n : Nat) : Bool := ltB (4294967296 - c.toNat) ((n + 63) / 64)
noncomputable def overB : UInt32 → Nat → Bool := (sealed overF).val
theorem overB_eq (c : UInt32) (n : Nat) : overB c n = overF c n := by rw [overB, (sealed overF).property]
theorem over_i {c : UInt32} {n : Nat} (h : n ≤ 1600) : ltI (wr .i64 (subI 4294967296 (c.toNat : Int))) (wr .i64 (Int.tdiv (wr .i64 ((n : Int) + 63)) 64)) = overB c n := by
  have := c.toNat_lt
  rw [subI_eq, wr_of (z := (n : Int) + 63) (by omega) (by omega), wr_of (z := 4294967296 - (c.toNat : Int)) (by omega) (by omega), Int.tdiv_eq_ediv_of_nonneg (by omega), wr_of (by omega) (by omega)]
  rw [overB_eq]; unfold overF
  by_cases e : 4294967296 - c.toNat < (n + 63) / 64
  · rw [ltB_of e, ltI_of (by omega)]
  · rw [ltB_no (by omega), ltI_no (by omega)]

noncomputable def streamO (key : List UInt8) (c : UInt32) (nonce b : List UInt8) : Out :=
  .alt (ltB 1600 b.length) (.ret (.tup [.vec8 true [], .int .i64 1]) []) (.alt (overB c b.length) (.ret (.tup [.vec8 true [], .int .i64 11]) []) (.ret (.tup [.sl 0 0 1 b.length, .int .i64 0]) [.grow8 (streamS key c nonce b) []]))

theorem stream_c (key nonce b : List UInt8) (c : UInt32) (full : Bool) : HCall Tryd.E 38 [.b8 32 key, .u32 c, .b8 12 nonce, .vec8 full b] (streamO key c nonce b) := by
  refine HCall.of_walk (R := RS) (T := T3) (strL key nonce b c) 5 rfl rfl ?_
  rw [stream_eq]
  dsimp only
  unfold streamO
  rw [show ltI 1600 (b.length : Int) = ltB 1600 b.length from rfl]
  rcases Bool.eq_false_or_eq_true (ltB 1600 b.length) with h | h
  · rw [h]; exact ⟨rfl, rfl⟩
  rw [h]
  have h1 := of_ltB_no h
  rw [over_i h1]
  rcases Bool.eq_false_or_eq_true (overB c b.length) with h2 | h2
  · rw [h2]; exact ⟨rfl, rfl⟩
  rw [h2]
  rw [Nat.mul_one, leB_of (by omega)]
  refine ⟨⟨0, ⟨by omega, h1⟩, rfl, rfl, rfl, rfl, rfl, rfl, rfl, rfl, rfl, ?_, trivial⟩, fun k hk => ?_⟩
  · rw [Nat.mul_zero]; exact (turned_zero _ _).symm
  obtain ⟨hk1, _⟩ := hk
  have e0 : Int.tdiv ((64 * k : Nat) : Int) 64 = (k : Int) := by
    rw [Int.tdiv_eq_ediv_of_nonneg (by omega)]; omega
  cases h3 : ltI ((64 * k : Nat) : Int) (b.length : Int)
  · have := of_ltI_no h3
    refine ⟨rfl, ?_⟩
    unfold streamS streamN
    rw [turned_past (n := 64 * k) (by omega)]
  have h4 := of_ltI h3
  refine ⟨⟨⟨k, 64 * k⟩, ⟨rfl, by show 64 * k < b.length; omega, Nat.le_refl _, by show 64 * k ≤ 64 * k + 64; omega, by show 64 * k ≤ b.length; omega, h1⟩, rfl, rfl, rfl, rfl, rfl, rfl, rfl, rfl, rfl, rfl, rfl, ?_, trivial⟩, fun s hs => ?_⟩
  · show AV.b8 64 _ = AV.b8 64 _
    rw [e0, wr_of (by omega) (by omega)]
    have : (Int.toNat ((k : Int) % 4294967296)) = k := by omega
    rw [this]
  obtain ⟨g1, g2, g3, g4, g5, _⟩ := hs
  obtain ⟨sk, i⟩ := s
  simp only at g1 g2 g3 g4 g5
  obtain rfl : sk = k := by
    have : ((64 * k : Nat) : Int) = ((64 * sk : Nat) : Int) := by injection g1
    omega
  show ite2 (ltI (i : Int) (min (wr .i64 (((64 * sk : Nat) : Int) + 64)) (b.length : Int))) _ _
  rw [wr_of (z := ((64 * sk : Nat) : Int) + 64) (by omega) (by omega)]
  cases h5 : ltI (i : Int) (min (((64 * sk : Nat) : Int) + 64) (b.length : Int))
  · have h6 := of_ltI_no h5
    refine ⟨sk + 1, ⟨by show b.length + 64 - 64 * (sk + 1) < b.length + 64 - 64 * sk; omega, by omega, h1⟩, rfl, rfl, rfl, rfl, rfl, rfl, ?_, rfl, rfl, ?_, trivial⟩
    · congr 1
    · rcases Nat.lt_or_ge i b.length with h7 | h7
      · rw [show i = 64 * (sk + 1) by omega]
      · unfold streamN
        rw [turned_past h7, turned_past (n := 64 * (sk + 1)) (by omega)]
  have h6 := of_ltI h5
  have h7 : i < b.length := by omega
  have h8 : i < 64 * sk + 64 := by omega
  have e1 : subI (i : Int) ((64 * sk : Nat) : Int) = ((i - 64 * sk : Nat) : Int) := by rw [subI_eq]; omega
  show cnd (inB (i : Int) b.length && true) _
  rw [inB_of (by omega) (by omega), length_streamN, Nat.zero_add, leB_of (Nat.le_refl _)]
  show cnd (inB (wr .i64 (subI (i : Int) ((64 * sk : Nat) : Int))) 64) _
  rw [e1, wr_of (by omega) (by omega), inB_of (by omega) (by omega)]
  have e2 : szL (Ent.cells (Ent.grow8 (streamN key c nonce i b) [])) = b.length := by
    show (streamN key c nonce i b).length + 0 = _
    rw [length_streamN, Nat.add_zero]
  show cnd (true && ((leB b.length (szL (Ent.cells (Ent.grow8 (streamN key c nonce i b) [])))) && true) && true) _
  rw [e2, leB_of (Nat.le_refl _)]
  refine ⟨⟨sk, i + 1⟩, ⟨by show b.length - (i + 1) < b.length - i; omega, rfl, g2, by show 64 * sk ≤ i + 1; omega, by show i + 1 ≤ 64 * sk + 64; omega, by show i + 1 ≤ b.length; omega, h1⟩, rfl, rfl, rfl, rfl, rfl, rfl, rfl, ?_, rfl, rfl, ?_, rfl, trivial⟩
  · show AV.int .i64 (wr .i64 ((i : Int) + 1)) = AV.int .i64 ((i + 1 : Nat) : Int)
    rw [wr_of (by omega) (by omega)]; rfl
  · rw [ofs0, ofs0]
    show List.set (turned _ i b) i (List.getD (turned _ i b) i 0 ^^^ _) = turned _ (i + 1) b
    rw [← turned_succ h7]
    congr 2
    unfold keyAt
    rw [show i / 64 = sk by omega, show i % 64 = i - 64 * sk by omega]
end Go.Proofs.YtdipeoacmapehaaDoor

set_option linter.unusedSimpArgs false
set_option linter.unusedVariables false
namespace Go.Proofs.YtdipeoacmapehaaDoor
open Go Go.V Go.Cha
noncomputable def T4 : Ctr Tryd.E := T3.add 38 (fun
    | [.b8 32 key, .u32 c, .b8 12 nonce, .vec8 _ b] => some (true, streamO key c nonce b)
    | _ => none) (by
      intro args pre out h hp
      split at h
      · simp only [Option.some.injEq, Prod.mk.injEq] at h
        obtain ⟨rfl, rfl⟩ := h
        exact stream_c _ _ _ _ _
      · simp at h)
/-- Where it is known that the bytes are few enough. -/
theorem stream_c2 (key nonce b : List UInt8) (c : UInt32) (full : Bool) (h1 : ltB 1600 b.length = false) (h2 : overB c b.length = false) :
    HCall Tryd.E 38 [.b8 32 key, .u32 c, .b8 12 nonce, .vec8 full b] (.ret (.tup [.sl 0 0 1 b.length, .int .i64 0]) [.grow8 (streamS key c nonce b) []]) := by
  have h := stream_c key nonce b c full
  unfold streamO at h
  rw [h1, h2] at h
  obtain ⟨a, _, c⟩ := h
  exact ⟨a, rfl, c⟩
noncomputable def T4p : Ctr Tryd.E := T3.add 38 (fun
    | [.b8 32 key, .u32 c, .b8 12 nonce, .vec8 _ b] => some (!(ltB 1600 b.length) && !(overB c b.length), .ret (.tup [.sl 0 0 1 b.length, .int .i64 0]) [.grow8 (streamS key c nonce b) []])
    | _ => none) (by
      intro args pre out h hp
      split at h
      · simp only [Option.some.injEq, Prod.mk.injEq] at h
        obtain ⟨rfl, rfl⟩ := h
        simp only [Bool.and_eq_true, Bool.not_eq_true'] at hp
        exact stream_c2 _ _ _ _ _ hp.1 hp.2
      · simp at h)
end Go.Proofs.YtdipeoacmapehaaDoor

set_option linter.unusedSimpArgs false
set_option linter.unusedVariables false
namespace Go.Proofs.YtdipeoacmapehaaDoor
open Go Go.V Go.Fld Go.Pol Go.Cha
set_option maxHeartbeats 0
set_option maxRecDepth 100000

theorem eight_eq (n : Int) (K : AV → Heap → Prop) : walk Tryd.E RS P5.C (fun _ _ => .unroll 17) 5 43 [.int .i64 n] K = (

 K (AV.sl 0 0 1 8) [Ent.grow8 (List.set (List.set (List.set (List.set (List.set (List.set (List.set (List.set (List.replicate 8 0) 0 (UInt8.ofNat (Int.toNat ((Int.fdiv n 1) % 256)))) 1 (UInt8.ofNat (Int.toNat ((Int.fdiv n 256) % 256)))) 2 (UInt8.ofNat (Int.toNat ((Int.fdiv n 65536) % 256)))) 3 (UInt8.ofNat (Int.toNat ((Int.fdiv n 16777216) % 256)))) 4 (UInt8.ofNat (Int.toNat ((Int.fdiv n 4294967296) % 256)))) 5 (UInt8.ofNat (Int.toNat ((Int.fdiv n 1099511627776) % 256)))) 6 (UInt8.ofNat (Int.toNat ((Int.fdiv n 281474976710656) % 256)))) 7 (UInt8.ofNat (Int.toNat ((Int.fdiv n 72057594037927936) % 256)))) []]) := by kernel_rfl

theorem padded_eq (b : List UInt8) (full : Bool) (K : AV → Heap → Prop) : walk Tryd.E RS P5.C (fun _ _ => .unroll 17) 5 41 [.vec8 full b] K = (
 let x0 : Nat := (List.length b)
 let x1 : Int := ((x0 : Nat) : Int)
 let x2 : Int := (bits BinOp.and IntKind.i64 (wr IntKind.i64 (subI 0 x1)) 15)
 let x3 : List UInt8 := (sliceL Option.none (Option.some x1) b)
 let x4 : Nat := (List.length x3)
 let x5 : Nat := (Int.toNat x2)
 let x6 : Nat := 140737488355328
 let x7 : List UInt8 := (List.replicate x5 0)
 let x8 : Nat := (List.length x7)
 cnd ((Bool.true && (x1 == x1)) && (sliceOk Option.none (Option.some x1) x0))
 (cnd (Bool.true && (nnB x2))
 (cnd (leB ((x4 + x5) * 1) x6)
 (ite2 (List.isEmpty x3)
 -- THEN
 (cnd (leB (x8 * 1) x6)
 (K (AV.sl 0 0 1 x8) [Ent.grow8 x7 []]))
 -- ELSE
 (ite2 (List.isEmpty x7)
 -- THEN
 (K (AV.vec8 Bool.true x3) [])
 -- ELSE
 (cnd (leB ((x4 + x8) * 1) x6)
 (K (AV.sl 0 0 1 (x4 + x8)) [Ent.grow8 (x3 ++ x7) []]))))))) := by kernel_rfl

end Go.Proofs.YtdipeoacmapehaaDoor

set_option linter.unusedSimpArgs false
set_option linter.unusedVariables false
namespace Go.Proofs.YtdipeoacmapehaaDoor
open Go Go.V Go.Fld Go.Pol Go.Cha
set_option maxRecDepth 100000

noncomputable def eightF (n : Int) : List UInt8 := List.set (List.set (List.set (List.set (List.set (List.set (List.set (List.set (List.replicate 8 0) 0 (UInt8.ofNat (Int.toNat ((Int.fdiv n 1) % 256)))) 1 (UInt8.ofNat (Int.toNat ((Int.fdiv n 256) % 256)))) 2 (UInt8.ofNat (Int.toNat ((Int.fdiv n 65536) % 256)))) 3 (UInt8.ofNat (Int.toNat ((Int.fdiv n 16777216) % 256)))) 4 (UInt8.ofNat (Int.toNat ((Int.fdiv n 4294967296) % 256)))) 5 (UInt8.ofNat (Int.toNat ((Int.fdiv n 1099511627776) % 256)))) 6 (UInt8.ofNat (Int.toNat ((Int.fdiv n 281474976710656) % 256)))) 7 (UInt8.ofNat (Int.toNat ((Int.fdiv n 72057594037927936) % 256)))
noncomputable def eightS : Int → List UInt8 := (sealed eightF).val
theorem eightS_eq (n : Int) : eightS n = eightF n := by rw [eightS, (sealed eightF).property]
theorem length_eightS (n : Int) : (eightS n).length = 8 := by rw [eightS_eq]; rfl
theorem eight_c (n : Int) : HCall Tryd.E 43 [.int .i64 n] (.ret (.sl 0 0 1 8) [.grow8 (eightS n) []]) := by
  refine HCall.of_walk (R := RS) (T := P5) (fun _ _ => .unroll 17) 5 rfl rfl ?_
  rw [eight_eq, eightS_eq]
  exact ⟨rfl, rfl⟩
/-- How many noughts come behind. -/
def padN (n : Nat) : Nat := (16 - n % 16) % 16
def padF (b : List UInt8) : List UInt8 := b ++ List.replicate (padN b.length) 0
noncomputable def padS : List UInt8 → List UInt8 := (sealed padF).val
theorem padS_eq (b : List UInt8) : padS b = padF b := by rw [padS, (sealed padF).property]
theorem length_padS (b : List UInt8) : (padS b).length = b.length + padN b.length := by rw [padS_eq]; simp [padF]
/-- Nothing is to come behind, and there is something. -/
def fullF (b : List UInt8) : Bool := !b.isEmpty && padN b.length == 0
noncomputable def fullS : List UInt8 → Bool := (sealed fullF).val
theorem fullS_eq (b : List UInt8) : fullS b = fullF b := by rw [fullS, (sealed fullF).property]
theorem and15 (n : Nat) (h : n ≤ 1000000000) : bits .and .i64 (wr .i64 (subI 0 (n : Int))) 15 = (padN n : Int) := by
  rw [subI_eq, wr_of (by omega) (by omega)]
  have h1 : (BitVec.ofInt 64 (0 - (n : Int))).toNat = ((0 - (n : Int)) % 18446744073709551616).toNat := by
    rw [BitVec.toNat_ofInt]; rfl
  have h2 : (BitVec.ofInt 64 15).toNat = 15 := by decide
  have h3 : ∀ x : Nat, x &&& 15 = x % 16 := fun x => Nat.and_two_pow_sub_one_eq_mod x 4
  show IntKind.i64.wrap ((BitVec.ofInt 64 (0 - (n : Int)) &&& BitVec.ofInt 64 15).toNat : Int) = _
  rw [BitVec.toNat_and, h1, h2, h3]
  unfold padN
  rw [IntKind.wrap_i64]
  omega
theorem sliceAll (b : List UInt8) : sliceL none (some ((b.length : Nat) : Int)) b = b := by
  show b.take (Int.toNat _) = _
  rw [Int.toNat_natCast, List.take_length]
theorem sliceAllOk (b : List UInt8) : sliceOk none (some ((b.length : Nat) : Int)) b.length = true := by
  show (nnB _ && leB (Int.toNat _) _) = true
  rw [nnB_iff.2 (by omega), Int.toNat_natCast, leB_of (Nat.le_refl _)]; rfl
noncomputable def paddedO (b : List UInt8) : Out := .alt (fullS b) (.ret (.vec8 true b) []) (.ret (.sl 0 0 1 (padS b).length) [.grow8 (padS b) []])
theorem padded_c (b : List UInt8) (full : Bool) (h : b.length ≤ 1000000) : HCall Tryd.E 41 [.vec8 full b] (paddedO b) := by
  refine HCall.of_walk (R := RS) (T := P5) (fun _ _ => .unroll 17) 5 rfl rfl ?_
  rw [padded_eq]
  dsimp only
  have hp : padN b.length < 16 := by unfold padN; omega
  rw [and15 _ (by omega), sliceAll, sliceAllOk, beq_self_eq_true, Int.toNat_natCast, nnB_iff.2 (by omega : (0 : Int) ≤ (padN b.length : Int)), List.length_replicate, Nat.mul_one, Nat.mul_one, leB_of (by omega), leB_of (by omega)]
  unfold paddedO
  rw [fullS_eq, padS_eq]
  unfold fullF padF
  rw [List.length_append, List.length_replicate]
  show ite2 _ _ _
  cases b with
  | nil => exact ⟨rfl, rfl⟩
  | cons x l =>
    show ite2 _ _ _
    by_cases e : padN (x :: l).length = 0
    · rw [e]; exact ⟨rfl, rfl⟩
    · have e1 : (padN (x :: l).length == 0) = false := beq_eq_false_iff_ne.2 e
      have e2 : (List.replicate (padN (x :: l).length) (0 : UInt8)).isEmpty = false := by
        cases hq : padN (x :: l).length with
        | zero => exact absurd hq e
        | succ n => rfl
      rw [e1, e2]
      exact ⟨rfl, rfl⟩
/-- Seal's callees: blocks, streams, tags. -/
noncomputable def S0 : Ctr Tryd.E := ⟨fun f args => match T4p.C f args with
    | some r => some r
    | none => P5.C f args, by
  intro f args pre out h hp
  split at h
  · rename_i r hr
    simp only [Option.some.injEq] at h
    subst h
    exact T4p.ok _ _ _ _ hr hp
  · exact P5.ok _ _ _ _ h hp⟩
noncomputable def S1 : Ctr Tryd.E := (S0.add 41 (fun
    | [.vec8 _ b] => some (leB b.length 1000000, paddedO b)
    | _ => none) (by
      intro args pre out h hp
      split at h
      · simp only [Option.some.injEq, Prod.mk.injEq] at h
        obtain ⟨rfl, rfl⟩ := h
        exact padded_c _ _ (leB_iff.1 hp)
      · simp at h)).add 43 (fun
    | [.int .i64 n] => some (true, .ret (.sl 0 0 1 8) [.grow8 (eightS n) []])
    | _ => none) (by
      intro args pre out h hp
      split at h
      · simp only [Option.some.injEq, Prod.mk.injEq] at h
        obtain ⟨rfl, rfl⟩ := h
        exact eight_c _
      · simp at h)
end Go.Proofs.YtdipeoacmapehaaDoor

set_option linter.unusedSimpArgs false
set_option linter.unusedVariables false
namespace Go.Proofs.YtdipeoacmapehaaDoor
open Go Go.V Go.Fld Go.Pol Go.Cha
set_option maxHeartbeats 0
set_option maxRecDepth 100000

theorem sealtag_eq (k n a b : List UInt8) (fa fb : Bool) (K : AV → Heap → Prop) : walk Tryd.E RS S1.C (fun _ _ => .unroll 17) 5 39 [.b8 32 k, .b8 12 n, .vec8 fa a, .vec8 fb b] K = (
 let x0 : Nat := (List.length a)
 let x1 : Nat := (List.length b)
 let x2 : Bool := leB x1 1000000
 let x3 : Bool := List.isEmpty a
 let x4 : Nat := 140737488355328
 let x5 : List UInt8 := (eightS ((x0 : Nat) : Int))
 let x6 : Bool := Bool.true && (leB 8 (List.length x5))
 let x7 : List UInt8 := (List.take 8 (List.drop 0 x5))
 let x8 : Nat := (List.length x7)
 let x9 : List UInt8 := (eightS ((x1 : Nat) : Int))
 let x10 : Bool := Bool.true && (leB 8 (List.length x9))
 let x11 : List UInt8 := (List.take 8 (List.drop 0 x9))
 let x12 : Nat := (List.length x11)
 let x13 : Nat := ((x1 + x8) + x12)
 let x14 : List UInt8 := ((b ++ x7) ++ x11)
 let x15 : List UInt8 := (List.take x13 (List.drop 0 x14))
 let x16 : Nat := 4611686018427387904
 let x17 : List UInt8 := (Cha.blockS k 0 n)
 let x18 : List UInt8 := ((List.take 32 x17) ++ (List.drop (Min.min (List.length x17) 32) [0, 0, 0, 0, 0, 0, 0, 0, 0, 0, 0, 0, 0, 0, 0, 0, 0, 0, 0, 0, 0, 0, 0, 0, 0, 0, 0, 0, 0, 0, 0, 0]))
 let x19 : List UInt8 := (List.take (x8 + x12) (List.drop 0 (x7 ++ x11)))
 let x20 : List UInt8 := (List.take x12 (List.drop 0 x11))
 let x21 : List UInt8 := (List.take (x0 + x12) (List.drop 0 (a ++ x11)))
 let x22 : Nat := ((x0 + x8) + x12)
 let x23 : List UInt8 := ((a ++ x7) ++ x11)
 let x24 : List UInt8 := (List.take x22 (List.drop 0 x23))
 let x25 : Nat := ((x0 + x1) + x8)
 let x26 : List UInt8 := ((a ++ b) ++ x7)
 let x27 : List UInt8 := (List.take (x25 + x12) (List.drop 0 (x26 ++ x11)))
 let x28 : Nat := (List.length (padS b))
 let x29 : Bool := Bool.true && (leB (0 + x28) x28)
 let x30 : List UInt8 := (List.take x28 (List.drop 0 (padS b)))
 let x31 : Nat := (List.length x30)
 let x32 : Nat := ((x31 + x8) + x12)
 let x33 : List UInt8 := ((x30 ++ x7) ++ x11)
 let x34 : List UInt8 := (List.take x32 (List.drop 0 x33))
 let x35 : Nat := ((x0 + x31) + x8)
 let x36 : List UInt8 := ((a ++ x30) ++ x7)
 let x37 : List UInt8 := (List.take (x35 + x12) (List.drop 0 (x36 ++ x11)))
 let x38 : Nat := (List.length (padS a))
 let x39 : List UInt8 := ((padS a) ++ b)
 let x40 : Nat := ((x38 + x1) + x8)
 let x41 : List UInt8 := ((x39 ++ x7) ++ x11)
 let x42 : List UInt8 := (List.take (x40 + x12) (List.drop 0 x41))
 let x43 : List UInt8 := ((padS a) ++ x30)
 let x44 : Nat := ((x38 + x31) + x8)
 let x45 : List UInt8 := ((x43 ++ x7) ++ x11)
 let x46 : List UInt8 := (List.take (x44 + x12) (List.drop 0 x45))
 cnd (leB x0 1000000)
 (ite2 (fullS a)
 -- THEN
 (cnd (x2)
 (ite2 (fullS b)
 -- THEN
 (ite2 (x3)
 -- THEN
 (cnd (leB (x1 * 1) x4)
 (cnd (x6)
 (cnd (x1 == x1)
 (cnd (leB ((x1 + x8) * 1) x4)
 (cnd (x10)
 (cnd ((x1 + x8) == (List.length (b ++ x7)))
 (cnd (leB (x13 * 1) x4)
 (cnd (Bool.true && ((Bool.true && (leB (0 + x13) (List.length x14))) && Bool.true))
 (cnd (ltB (List.length x15) x16)
 (K (AV.b8 16 (tagS x18 x15)) []))))))))))
 -- ELSE
 (ite2 (List.isEmpty b)
 -- THEN
 (cnd (x6)
 (ite2 (x3)
 -- THEN
 (cnd (leB (x8 * 1) x4)
 (cnd (x10)
 (cnd (x8 == x8)
 (cnd (leB ((x8 + x12) * 1) x4)
 (cnd (Bool.true && ((Bool.true && (leB (0 + (x8 + x12)) (List.length (x7 ++ x11)))) && Bool.true))
 (cnd (ltB (List.length x19) x16)
 (K (AV.b8 16 (tagS x18 x19)) [])))))))
 -- ELSE
 (ite2 (List.isEmpty x7)
 -- THEN
 (cnd (x10)
 (ite2 (x3)
 -- THEN
 (cnd (leB (x12 * 1) x4)
 (cnd (Bool.true && ((Bool.true && (leB (0 + x12) x12)) && Bool.true))
 (cnd (ltB (List.length x20) x16)
 (K (AV.b8 16 (tagS x18 x20)) []))))
 -- ELSE
 (ite2 (List.isEmpty x11)
 -- THEN
 (cnd (ltB x0 x16)
 (K (AV.b8 16 (tagS x18 a)) []))
 -- ELSE
 (cnd (leB ((x0 + x12) * 1) x4)
 (cnd (Bool.true && ((Bool.true && (leB (0 + (x0 + x12)) (List.length (a ++ x11)))) && Bool.true))
 (cnd (ltB (List.length x21) x16)
 (K (AV.b8 16 (tagS x18 x21)) [])))))))
 -- ELSE
 (cnd (leB ((x0 + x8) * 1) x4)
 (cnd (x10)
 (cnd ((x0 + x8) == (List.length (a ++ x7)))
 (cnd (leB (x22 * 1) x4)
 (cnd (Bool.true && ((Bool.true && (leB (0 + x22) (List.length x23))) && Bool.true))
 (cnd (ltB (List.length x24) x16)
 (K (AV.b8 16 (tagS x18 x24)) []))))))))))
 -- ELSE
 (cnd (leB ((x0 + x1) * 1) x4)
 (cnd (x6)
 (cnd ((x0 + x1) == (List.length (a ++ b)))
 (cnd (leB (x25 * 1) x4)
 (cnd (x10)
 (cnd (x25 == (List.length x26))
 (cnd (leB ((x25 + x12) * 1) x4)
 (cnd (Bool.true && ((Bool.true && (leB (0 + (x25 + x12)) (List.length (x26 ++ x11)))) && Bool.true))
 (cnd (ltB (List.length x27) x16)
 (K (AV.b8 16 (tagS x18 x27)) []))))))))))))
 -- ELSE
 (cnd (x29)
 (ite2 (x3)
 -- THEN
 (cnd (leB (x31 * 1) x4)
 (cnd (x6)
 (cnd (x31 == x31)
 (cnd (leB ((x31 + x8) * 1) x4)
 (cnd (x10)
 (cnd ((x31 + x8) == (List.length (x30 ++ x7)))
 (cnd (leB (x32 * 1) x4)
 (cnd (Bool.true && ((Bool.true && (leB (0 + x32) (List.length x33))) && Bool.true))
 (cnd (ltB (List.length x34) x16)
 (K (AV.b8 16 (tagS x18 x34)) []))))))))))
 -- ELSE
 (ite2 (List.isEmpty x30)
 -- THEN
 (cnd (x6)
 (ite2 (x3)
 -- THEN
 (cnd (leB (x8 * 1) x4)
 (cnd (x10)
 (cnd (x8 == x8)
 (cnd (leB ((x8 + x12) * 1) x4)
 (cnd (Bool.true && ((Bool.true && (leB (0 + (x8 + x12)) (List.length (x7 ++ x11)))) && Bool.true))
 (cnd (ltB (List.length x19) x16)
 (K (AV.b8 16 (tagS x18 x19)) [])))))))
 -- ELSE
 (ite2 (List.isEmpty x7)
 -- THEN
 (cnd (x10)
 (ite2 (x3)
 -- THEN
 (cnd (leB (x12 * 1) x4)
 (cnd (Bool.true && ((Bool.true && (leB (0 + x12) x12)) && Bool.true))
 (cnd (ltB (List.length x20) x16)
 (K (AV.b8 16 (tagS x18 x20)) []))))
 -- ELSE
 (ite2 (List.isEmpty x11)
 -- THEN
 (cnd (ltB x0 x16)
 (K (AV.b8 16 (tagS x18 a)) []))
 -- ELSE
 (cnd (leB ((x0 + x12) * 1) x4)
 (cnd (Bool.true && ((Bool.true && (leB (0 + (x0 + x12)) (List.length (a ++ x11)))) && Bool.true))
 (cnd (ltB (List.length x21) x16)
 (K (AV.b8 16 (tagS x18 x21)) [])))))))
 -- ELSE
 (cnd (leB ((x0 + x8) * 1) x4)
 (cnd (x10)
 (cnd ((x0 + x8) == (List.length (a ++ x7)))
 (cnd (leB (x22 * 1) x4)
 (cnd (Bool.true && ((Bool.true && (leB (0 + x22) (List.length x23))) && Bool.true))
 (cnd (ltB (List.length x24) x16)
 (K (AV.b8 16 (tagS x18 x24)) []))))))))))
 -- ELSE
 (cnd (leB ((x0 + x31) * 1) x4)
 (cnd (x6)
 (cnd ((x0 + x31) == (List.length (a ++ x30)))
 (cnd (leB (x35 * 1) x4)
 (cnd (x10)
 (cnd (x35 == (List.length x36))
 (cnd (leB ((x35 + x12) * 1) x4)
 (cnd (Bool.true && ((Bool.true && (leB (0 + (x35 + x12)) (List.length (x36 ++ x11)))) && Bool.true))
 (cnd (ltB (List.length x37) x16)
 (K (AV.b8 16 (tagS x18 x37)) [])))))))))))))))
 -- ELSE
 (cnd (x2)
 (ite2 (fullS b)
 -- THEN
 (cnd (x38 == x38)
 (cnd (leB ((x38 + x1) * 1) x4)
 (cnd (x6)
 (cnd ((x38 + x1) == (List.length x39))
 (cnd (leB (x40 * 1) x4)
 (cnd (x10)
 (cnd (x40 == (List.length (x39 ++ x7)))
 (cnd (leB ((x40 + x12) * 1) x4)
 (cnd (Bool.true && ((Bool.true && (leB (0 + (x40 + x12)) (List.length x41))) && Bool.true))
 (cnd (ltB (List.length x42) x16)
 (K (AV.b8 16 (tagS x18 x42)) [])))))))))))
 -- ELSE
 (cnd (x29)
 (cnd (x38 == x38)
 (cnd (leB ((x38 + x31) * 1) x4)
 (cnd (x6)
 (cnd ((x38 + x31) == (List.length x43))
 (cnd (leB (x44 * 1) x4)
 (cnd (x10)
 (cnd (x44 == (List.length (x43 ++ x7)))
 (cnd (leB ((x44 + x12) * 1) x4)
 (cnd (Bool.true && ((Bool.true && (leB (0 + (x44 + x12)) (List.length x45))) && Bool.true))
 (cnd (ltB (List.length x46) x16)
 (K (AV.b8 16 (tagS x18 x46)) [])))))))))))))))) := by kernel_rfl

end Go.Proofs.YtdipeoacmapehaaDoor

set_option linter.unusedSimpArgs false
set_option linter.unusedVariables false
namespace Go.Proofs.YtdipeoacmapehaaDoor
open Go Go.V Go.Fld Go.Pol Go.Cha
set_option maxRecDepth 100000

/-- What is summed for a tag. -/
noncomputable def allF (a b : List UInt8) : List UInt8 := ((padS a ++ padS b) ++ eightS (a.length : Int)) ++ eightS (b.length : Int)
noncomputable def sealTF (k n a b : List UInt8) : List UInt8 := tagS ((blockS k 0 n).take 32) (allF a b)
noncomputable def sealT : List UInt8 → List UInt8 → List UInt8 → List UInt8 → List UInt8 := (sealed sealTF).val
theorem sealT_eq (k n a b : List UInt8) : sealT k n a b = sealTF k n a b := by rw [sealT, (sealed sealTF).property]

theorem padN_lt (n : Nat) : padN n < 16 := by unfold padN; omega
theorem full_spec {b : List UInt8} (h : fullS b = true) : b.isEmpty = false ∧ padS b = b := by
  rw [fullS_eq] at h; unfold fullF at h
  simp only [Bool.and_eq_true, Bool.not_eq_true', beq_iff_eq] at h
  refine ⟨h.1, ?_⟩
  rw [padS_eq]; unfold padF
  rw [h.2]; simp
theorem take_all8 (l : List UInt8) : List.take l.length (List.drop 0 l) = l := by rw [List.drop_zero, List.take_length]
theorem take_n {l : List UInt8} {n : Nat} (h : n = l.length) : List.take n (List.drop 0 l) = l := by subst h; exact take_all8 l
theorem block_len (k n : List UInt8) (c : UInt32) : (blockS k c n).length = 64 := length_blockS ..

theorem ite2_t {x y : Prop} : ite2 true x y = x := rfl
theorem ite2_f {x y : Prop} : ite2 false x y = y := rfl
theorem sealtag_c (k n a b : List UInt8) (fa fb : Bool) (ha : a.length ≤ 1000000) (hb : b.length ≤ 1000000) : HCall Tryd.E 39 [.b8 32 k, .b8 12 n, .vec8 fa a, .vec8 fb b] (.ret (.b8 16 (sealT k n a b)) []) := by
  refine HCall.of_walk (R := RS) (T := S1) (fun _ _ => .unroll 17) 5 rfl rfl ?_
  rw [sealtag_eq, sealT_eq]
  dsimp only
  unfold sealTF allF
  have l5 := length_eightS (a.length : Int)
  have l9 := length_eightS (b.length : Int)
  generalize eightS (a.length : Int) = u at *
  generalize eightS (b.length : Int) = v at *
  have e7 : List.take 8 (List.drop 0 u) = u := take_n l5.symm
  have e11 : List.take 8 (List.drop 0 v) = v := take_n l9.symm
  have hp := length_padS b
  have hpa := length_padS a
  have h1 := padN_lt a.length
  have h2 := padN_lt b.length
  have hk : List.drop (min (blockS k 0 n).length 32) ([0, 0, 0, 0, 0, 0, 0, 0, 0, 0, 0, 0, 0, 0, 0, 0, 0, 0, 0, 0, 0, 0, 0, 0, 0, 0, 0, 0, 0, 0, 0, 0] : List UInt8) = [] := by
    rw [block_len]; rfl
  rw [e7, e11, take_all8, hk, List.append_nil, l5, l9, leB_of ha, leB_of hb]
  have hu : u.isEmpty = false := by cases u with
    | nil => simp at l5
    | cons _ _ => rfl
  cases hfa : fullS a with
  | true =>
    obtain ⟨ea, pa⟩ := full_spec hfa
    rw [pa, ea]
    cases hfb : fullS b with
    | true =>
      obtain ⟨eb, pb⟩ := full_spec hfb
      rw [pb, eb]
      simp only [ite2_t, ite2_f, cnd_iff, Bool.and_eq_true, leB_iff, ltB_iff, beq_iff_eq, List.length_append, l5, l9]
      rw [take_n (l := ((a ++ b) ++ u) ++ v) (by simp only [List.length_append, l5, l9])]
      simp only [List.length_append, l5, l9]
      repeat' apply And.intro
      all_goals first | rfl | trivial | omega
    | false =>
      cases hpe : (padS b).isEmpty with
      | true =>
        rw [List.isEmpty_iff] at hpe
        rw [hpe] at hp ⊢
        simp only [List.length_nil] at hp
        simp only [hu, ite2_t, ite2_f, cnd_iff, Bool.and_eq_true, leB_iff, ltB_iff, beq_iff_eq, List.length_append, l5, l9, List.append_nil, List.length_nil, List.take_nil, List.drop_nil, List.isEmpty_nil]
        rw [take_n (l := (a ++ u) ++ v) (by simp only [List.length_append, l5, l9])]
        simp only [List.length_append, l5, l9]
        repeat' apply And.intro
        all_goals first | rfl | trivial | omega
      | false =>
        rw [take_all8, hpe]
        simp only [ite2_t, ite2_f, cnd_iff, Bool.and_eq_true, leB_iff, ltB_iff, beq_iff_eq, List.length_append, l5, l9]
        rw [take_n (l := ((a ++ padS b) ++ u) ++ v) (by simp only [List.length_append, l5, l9])]
        simp only [List.length_append, l5, l9]
        repeat' apply And.intro
        all_goals first | rfl | trivial | omega
  | false =>
    cases hfb : fullS b with
    | true =>
      obtain ⟨eb, pb⟩ := full_spec hfb
      rw [pb]
      simp only [ite2_t, ite2_f, cnd_iff, Bool.and_eq_true, leB_iff, ltB_iff, beq_iff_eq, List.length_append, l5, l9]
      rw [take_n (l := ((padS a ++ b) ++ u) ++ v) (by simp only [List.length_append, l5, l9])]
      simp only [List.length_append, l5, l9]
      repeat' apply And.intro
      all_goals first | rfl | trivial | omega
    | false =>
      rw [take_all8]
      simp only [ite2_t, ite2_f, cnd_iff, Bool.and_eq_true, leB_iff, ltB_iff, beq_iff_eq, List.length_append, l5, l9]
      rw [take_n (l := ((padS a ++ padS b) ++ u) ++ v) (by simp only [List.length_append, l5, l9])]
      simp only [List.length_append, l5, l9]
      repeat' apply And.intro
      all_goals first | rfl | trivial | omega
noncomputable def S2 : Ctr Tryd.E := S1.add 39 (fun
    | [.b8 32 k, .b8 12 n, .vec8 _ a, .vec8 _ b] => some (leB a.length 1000000 && leB b.length 1000000, .ret (.b8 16 (sealT k n a b)) [])
    | _ => none) (by
      intro args pre out h hp
      split at h
      · simp only [Option.some.injEq, Prod.mk.injEq] at h
        obtain ⟨rfl, rfl⟩ := h
        simp only [Bool.and_eq_true, leB_iff] at hp
        exact sealtag_c _ _ _ _ _ _ hp.1 hp.2
      · simp at h)
end Go.Proofs.YtdipeoacmapehaaDoor

set_option linter.unusedSimpArgs false
set_option linter.unusedVariables false
namespace Go.Proofs.YtdipeoacmapehaaDoor
open Go Go.V Go.Fld Go.Pol Go.Cha
set_option maxHeartbeats 0
set_option maxRecDepth 100000

theorem sealSeal_eq (k n a b : List UInt8) (fa fb : Bool) (K : AV → Heap → Prop) : walk Tryd.E RS S2.C (fun _ _ => .unroll 17) 5 33 [.b8 32 k, .b8 12 n, .vec8 fa a, .vec8 fb b] K = (
 let x0 : Nat := (List.length a)
 let x1 : Nat := (List.length b)
 let x2 : List UInt8 := (Cha.streamS k 1 n b)
 let x3 : Nat := (List.length x2)
 let x4 : List UInt8 := (List.take x1 (List.drop 0 x2))
 let x5 : List UInt8 := (sealT k n a x4)
 let x6 : Nat := (x1 + (List.length x5))
 ite2 (ltI 200 ((x0 : Nat) : Int))
 -- THEN
 (K (AV.tup [AV.vec8 Bool.true [], AV.int IntKind.i64 1]) [])
 -- ELSE
 (ite2 (cond Bool.false Bool.true (ltI 800 ((x1 : Nat) : Int)))
 -- THEN
 (K (AV.tup [AV.vec8 Bool.true [], AV.int IntKind.i64 1]) [])
 -- ELSE
 (cnd ((Bool.not (ltB 1600 x1)) && (Bool.not (overB 1 x1)))
 (cnd (Bool.true && (Bool.true && (Bool.true && ((Bool.true && (leB (0 + x1) x3)) && Bool.true))))
 (cnd ((leB x0 1000000) && (leB (List.length x4) 1000000))
 (cnd (x1 == x3)
 (cnd (leB (x6 * 1) 140737488355328)
 (K (AV.tup [AV.sl 0 0 1 x6, AV.int IntKind.i64 0]) [Ent.grow8 (x2 ++ x5) []])))))))) := by kernel_rfl

theorem sealOpen_eq (k n a b : List UInt8) (fa fb : Bool) (K : AV → Heap → Prop) : walk Tryd.E RS S2.C (fun _ _ => .unroll 17) 5 34 [.b8 32 k, .b8 12 n, .vec8 fa a, .vec8 fb b] K = (
 let x0 : Nat := (List.length a)
 let x1 : Nat := (List.length b)
 let x2 : Int := (wr IntKind.i64 (subI ((x1 : Nat) : Int) 16))
 let x3 : Bool := Bool.true && (sliceOk Option.none (Option.some x2) x1)
 let x4 : List UInt8 := (sliceL Option.none (Option.some x2) b)
 let x5 : Nat := (List.length x4)
 let x6 : List UInt8 := (sliceL (Option.some x2) Option.none b)
 let x7 : Nat := (List.length x6)
 let x8 : Int := ((x7 : Nat) : Int)
 let x9 : Bool := leB (0 + x7) x7
 let x10 : List UInt8 := (sealT k n a x4)
 let x11 : UInt8 := (0 ||| ((List.getD x6 0 0) ^^^ (List.getD x10 0 0)))
 let x12 : UInt8 := (x11 ||| ((List.getD x6 1 0) ^^^ (List.getD x10 1 0)))
 let x13 : UInt8 := (x12 ||| ((List.getD x6 2 0) ^^^ (List.getD x10 2 0)))
 let x14 : UInt8 := (x13 ||| ((List.getD x6 3 0) ^^^ (List.getD x10 3 0)))
 let x15 : UInt8 := (x14 ||| ((List.getD x6 4 0) ^^^ (List.getD x10 4 0)))
 let x16 : UInt8 := (x15 ||| ((List.getD x6 5 0) ^^^ (List.getD x10 5 0)))
 let x17 : UInt8 := (x16 ||| ((List.getD x6 6 0) ^^^ (List.getD x10 6 0)))
 let x18 : UInt8 := (x17 ||| ((List.getD x6 7 0) ^^^ (List.getD x10 7 0)))
 let x19 : UInt8 := (x18 ||| ((List.getD x6 8 0) ^^^ (List.getD x10 8 0)))
 let x20 : UInt8 := (x19 ||| ((List.getD x6 9 0) ^^^ (List.getD x10 9 0)))
 let x21 : UInt8 := (x20 ||| ((List.getD x6 10 0) ^^^ (List.getD x10 10 0)))
 let x22 : UInt8 := (x21 ||| ((List.getD x6 11 0) ^^^ (List.getD x10 11 0)))
 let x23 : UInt8 := (x22 ||| ((List.getD x6 12 0) ^^^ (List.getD x10 12 0)))
 let x24 : UInt8 := (x23 ||| ((List.getD x6 13 0) ^^^ (List.getD x10 13 0)))
 let x25 : UInt8 := (x24 ||| ((List.getD x6 14 0) ^^^ (List.getD x10 14 0)))
 ite2 (ltI 200 ((x0 : Nat) : Int))
 -- THEN
 (K (AV.tup [AV.vec8 Bool.true [], AV.int IntKind.i64 1]) [])
 -- ELSE
 (ite2 (cond Bool.false Bool.true (ltI 800 x2))
 -- THEN
 (K (AV.tup [AV.vec8 Bool.true [], AV.int IntKind.i64 1]) [])
 -- ELSE
 (ite2 (ltI x2 0)
 -- THEN
 (K (AV.tup [AV.vec8 Bool.true [], AV.int IntKind.i64 4]) [])
 -- ELSE
 (cnd (x3)
 (cnd ((leB x0 1000000) && (leB x5 1000000))
 (cnd (Bool.true && (sliceOk (Option.some x2) Option.none x1))
 (ite2 (ltI 0 x8)
 -- THEN
 (cnd ((inB 0 x7) && Bool.true)
 (cnd (x9)
 (ite2 (ltI 1 x8)
 -- THEN
 (cnd ((inB 1 x7) && Bool.true)
 (cnd (x9)
 (ite2 (ltI 2 x8)
 -- THEN
 (cnd ((inB 2 x7) && Bool.true)
 (cnd (x9)
 (ite2 (ltI 3 x8)
 -- THEN
 (cnd ((inB 3 x7) && Bool.true)
 (cnd (x9)
 (ite2 (ltI 4 x8)
 -- THEN
 (cnd ((inB 4 x7) && Bool.true)
 (cnd (x9)
 (ite2 (ltI 5 x8)
 -- THEN
 (cnd ((inB 5 x7) && Bool.true)
 (cnd (x9)
 (ite2 (ltI 6 x8)
 -- THEN
 (cnd ((inB 6 x7) && Bool.true)
 (cnd (x9)
 (ite2 (ltI 7 x8)
 -- THEN
 (cnd ((inB 7 x7) && Bool.true)
 (cnd (x9)
 (ite2 (ltI 8 x8)
 -- THEN
 (cnd ((inB 8 x7) && Bool.true)
 (cnd (x9)
 (ite2 (ltI 9 x8)
 -- THEN
 (cnd ((inB 9 x7) && Bool.true)
 (cnd (x9)
 (ite2 (ltI 10 x8)
 -- THEN
 (cnd ((inB 10 x7) && Bool.true)
 (cnd (x9)
 (ite2 (ltI 11 x8)
 -- THEN
 (cnd ((inB 11 x7) && Bool.true)
 (cnd (x9)
 (ite2 (ltI 12 x8)
 -- THEN
 (cnd ((inB 12 x7) && Bool.true)
 (cnd (x9)
 (ite2 (ltI 13 x8)
 -- THEN
 (cnd ((inB 13 x7) && Bool.true)
 (cnd (x9)
 (ite2 (ltI 14 x8)
 -- THEN
 (cnd ((inB 14 x7) && Bool.true)
 (cnd (x9)
 (ite2 (ltI 15 x8)
 -- THEN
 (cnd ((inB 15 x7) && Bool.true)
 (cnd (x9)
 (ite2 (ltI 16 x8)
 -- THEN
 (cnd ((inB 16 x7) && Bool.true)
 (cnd (x9)
 (stuckC)))
 -- ELSE
 (ite2 ((((UInt8.toNat (x25 ||| ((List.getD x6 15 0) ^^^ (List.getD x10 15 0)))) : Nat) : Int) != 0)
 -- THEN
 (K (AV.tup [AV.vec8 Bool.true [], AV.int IntKind.i64 10]) [])
 -- ELSE
 (cnd (x3)
 (cnd ((Bool.not (ltB 1600 x5)) && (Bool.not (overB 1 x5)))
 (K (AV.tup [AV.sl 0 0 1 x5, AV.int IntKind.i64 0]) [Ent.grow8 (Cha.streamS k 1 n x4) []])))))))
 -- ELSE
 (ite2 ((((UInt8.toNat x25) : Nat) : Int) != 0)
 -- THEN
 (K (AV.tup [AV.vec8 Bool.true [], AV.int IntKind.i64 10]) [])
 -- ELSE
 (cnd (x3)
 (cnd ((Bool.not (ltB 1600 x5)) && (Bool.not (overB 1 x5)))
 (K (AV.tup [AV.sl 0 0 1 x5, AV.int IntKind.i64 0]) [Ent.grow8 (Cha.streamS k 1 n x4) []])))))))
 -- ELSE
 (ite2 ((((UInt8.toNat x24) : Nat) : Int) != 0)
 -- THEN
 (K (AV.tup [AV.vec8 Bool.true [], AV.int IntKind.i64 10]) [])
 -- ELSE
 (cnd (x3)
 (cnd ((Bool.not (ltB 1600 x5)) && (Bool.not (overB 1 x5)))
 (K (AV.tup [AV.sl 0 0 1 x5, AV.int IntKind.i64 0]) [Ent.grow8 (Cha.streamS k 1 n x4) []])))))))
 -- ELSE
 (ite2 ((((UInt8.toNat x23) : Nat) : Int) != 0)
 -- THEN
 (K (AV.tup [AV.vec8 Bool.true [], AV.int IntKind.i64 10]) [])
 -- ELSE
 (cnd (x3)
 (cnd ((Bool.not (ltB 1600 x5)) && (Bool.not (overB 1 x5)))
 (K (AV.tup [AV.sl 0 0 1 x5, AV.int IntKind.i64 0]) [Ent.grow8 (Cha.streamS k 1 n x4) []])))))))
 -- ELSE
 (ite2 ((((UInt8.toNat x22) : Nat) : Int) != 0)
 -- THEN
 (K (AV.tup [AV.vec8 Bool.true [], AV.int IntKind.i64 10]) [])
 -- ELSE
 (cnd (x3)
 (cnd ((Bool.not (ltB 1600 x5)) && (Bool.not (overB 1 x5)))
 (K (AV.tup [AV.sl 0 0 1 x5, AV.int IntKind.i64 0]) [Ent.grow8 (Cha.streamS k 1 n x4) []])))))))
 -- ELSE
 (ite2 ((((UInt8.toNat x21) : Nat) : Int) != 0)
 -- THEN
 (K (AV.tup [AV.vec8 Bool.true [], AV.int IntKind.i64 10]) [])
 -- ELSE
 (cnd (x3)
 (cnd ((Bool.not (ltB 1600 x5)) && (Bool.not (overB 1 x5)))
 (K (AV.tup [AV.sl 0 0 1 x5, AV.int IntKind.i64 0]) [Ent.grow8 (Cha.streamS k 1 n x4) []])))))))
 -- ELSE
 (ite2 ((((UInt8.toNat x20) : Nat) : Int) != 0)
 -- THEN
 (K (AV.tup [AV.vec8 Bool.true [], AV.int IntKind.i64 10]) [])
 -- ELSE
 (cnd (x3)
 (cnd ((Bool.not (ltB 1600 x5)) && (Bool.not (overB 1 x5)))
 (K (AV.tup [AV.sl 0 0 1 x5, AV.int IntKind.i64 0]) [Ent.grow8 (Cha.streamS k 1 n x4) []])))))))
 -- ELSE
 (ite2 ((((UInt8.toNat x19) : Nat) : Int) != 0)
 -- THEN
 (K (AV.tup [AV.vec8 Bool.true [], AV.int IntKind.i64 10]) [])
 -- ELSE
 (cnd (x3)
 (cnd ((Bool.not (ltB 1600 x5)) && (Bool.not (overB 1 x5)))
 (K (AV.tup [AV.sl 0 0 1 x5, AV.int IntKind.i64 0]) [Ent.grow8 (Cha.streamS k 1 n x4) []])))))))
 -- ELSE
 (ite2 ((((UInt8.toNat x18) : Nat) : Int) != 0)
 -- THEN
 (K (AV.tup [AV.vec8 Bool.true [], AV.int IntKind.i64 10]) [])
 -- ELSE
 (cnd (x3)
 (cnd ((Bool.not (ltB 1600 x5)) && (Bool.not (overB 1 x5)))
 (K (AV.tup [AV.sl 0 0 1 x5, AV.int IntKind.i64 0]) [Ent.grow8 (Cha.streamS k 1 n x4) []])))))))
 -- ELSE
 (ite2 ((((UInt8.toNat x17) : Nat) : Int) != 0)
 -- THEN
 (K (AV.tup [AV.vec8 Bool.true [], AV.int IntKind.i64 10]) [])
 -- ELSE
 (cnd (x3)
 (cnd ((Bool.not (ltB 1600 x5)) && (Bool.not (overB 1 x5)))
 (K (AV.tup [AV.sl 0 0 1 x5, AV.int IntKind.i64 0]) [Ent.grow8 (Cha.streamS k 1 n x4) []])))))))
 -- ELSE
 (ite2 ((((UInt8.toNat x16) : Nat) : Int) != 0)
 -- THEN
 (K (AV.tup [AV.vec8 Bool.true [], AV.int IntKind.i64 10]) [])
 -- ELSE
 (cnd (x3)
 (cnd ((Bool.not (ltB 1600 x5)) && (Bool.not (overB 1 x5)))
 (K (AV.tup [AV.sl 0 0 1 x5, AV.int IntKind.i64 0]) [Ent.grow8 (Cha.streamS k 1 n x4) []])))))))
 -- ELSE
 (ite2 ((((UInt8.toNat x15) : Nat) : Int) != 0)
 -- THEN
 (K (AV.tup [AV.vec8 Bool.true [], AV.int IntKind.i64 10]) [])
 -- ELSE
 (cnd (x3)
 (cnd ((Bool.not (ltB 1600 x5)) && (Bool.not (overB 1 x5)))
 (K (AV.tup [AV.sl 0 0 1 x5, AV.int IntKind.i64 0]) [Ent.grow8 (Cha.streamS k 1 n x4) []])))))))
 -- ELSE
 (ite2 ((((UInt8.toNat x14) : Nat) : Int) != 0)
 -- THEN
 (K (AV.tup [AV.vec8 Bool.true [], AV.int IntKind.i64 10]) [])
 -- ELSE
 (cnd (x3)
 (cnd ((Bool.not (ltB 1600 x5)) && (Bool.not (overB 1 x5)))
 (K (AV.tup [AV.sl 0 0 1 x5, AV.int IntKind.i64 0]) [Ent.grow8 (Cha.streamS k 1 n x4) []])))))))
 -- ELSE
 (ite2 ((((UInt8.toNat x13) : Nat) : Int) != 0)
 -- THEN
 (K (AV.tup [AV.vec8 Bool.true [], AV.int IntKind.i64 10]) [])
 -- ELSE
 (cnd (x3)
 (cnd ((Bool.not (ltB 1600 x5)) && (Bool.not (overB 1 x5)))
 (K (AV.tup [AV.sl 0 0 1 x5, AV.int IntKind.i64 0]) [Ent.grow8 (Cha.streamS k 1 n x4) []])))))))
 -- ELSE
 (ite2 ((((UInt8.toNat x12) : Nat) : Int) != 0)
 -- THEN
 (K (AV.tup [AV.vec8 Bool.true [], AV.int IntKind.i64 10]) [])
 -- ELSE
 (cnd (x3)
 (cnd ((Bool.not (ltB 1600 x5)) && (Bool.not (overB 1 x5)))
 (K (AV.tup [AV.sl 0 0 1 x5, AV.int IntKind.i64 0]) [Ent.grow8 (Cha.streamS k 1 n x4) []])))))))
 -- ELSE
 (ite2 ((((UInt8.toNat x11) : Nat) : Int) != 0)
 -- THEN
 (K (AV.tup [AV.vec8 Bool.true [], AV.int IntKind.i64 10]) [])
 -- ELSE
 (cnd (x3)
 (cnd ((Bool.not (ltB 1600 x5)) && (Bool.not (overB 1 x5)))
 (K (AV.tup [AV.sl 0 0 1 x5, AV.int IntKind.i64 0]) [Ent.grow8 (Cha.streamS k 1 n x4) []])))))))
 -- ELSE
 (cnd (x3)
 (cnd ((Bool.not (ltB 1600 x5)) && (Bool.not (overB 1 x5)))
 (K (AV.tup [AV.sl 0 0 1 x5, AV.int IntKind.i64 0]) [Ent.grow8 (Cha.streamS k 1 n x4) []])))))))))) := by kernel_rfl

end Go.Proofs.YtdipeoacmapehaaDoor

set_option linter.unusedSimpArgs false
set_option linter.unusedVariables false
namespace Go.Proofs.YtdipeoacmapehaaDoor
open Go Go.V Go.Fld Go.Pol Go.Cha
set_option maxRecDepth 100000

theorem over_one {n : Nat} (hn : n ≤ 1600) : overB 1 n = false := by
  rw [overB_eq]; unfold overF
  rw [show (1 : UInt32).toNat = 1 from rfl]
  exact ltB_no (by omega)
theorem length_endR (a : Nat) (p : List UInt64) : (endS a p).length = 16 := by
  rw [endS_eq]; rfl
theorem length_sealT (k n a b : List UInt8) : (sealT k n a b).length = 16 := by
  rw [sealT_eq]; unfold sealTF
  rw [tagS_eq]; unfold tagF
  exact length_endR _ _

/-- A text as it is sealed. -/
noncomputable def sealF (k n a b : List UInt8) : List UInt8 := streamS k 1 n b ++ sealT k n a (streamS k 1 n b)
noncomputable def sealS : List UInt8 → List UInt8 → List UInt8 → List UInt8 → List UInt8 := (sealed sealF).val
theorem sealS_eq (k n a b : List UInt8) : sealS k n a b = sealF k n a b := by rw [sealS, (sealed sealF).property]
theorem length_sealS (k n a b : List UInt8) : (sealS k n a b).length = b.length + 16 := by
  rw [sealS_eq]; unfold sealF
  rw [List.length_append, length_streamS, length_sealT]

noncomputable def nilErr (e : Int) : Out := .ret (.tup [.vec8 true [], .int .i64 e]) []
noncomputable def sealO (k n a b : List UInt8) : Out := .alt (ltB 200 a.length || ltB 800 b.length) (nilErr 1) (.ret (.tup [.sl 0 0 1 (b.length + 16), .int .i64 0]) [.grow8 (sealS k n a b) []])

theorem sealSeal_c (k n a b : List UInt8) (fa fb : Bool) : HCall Tryd.E 33 [.b8 32 k, .b8 12 n, .vec8 fa a, .vec8 fb b] (sealO k n a b) := by
  refine HCall.of_walk (R := RS) (T := S2) (fun _ _ => .unroll 17) 5 rfl rfl ?_
  rw [sealSeal_eq]
  dsimp only
  unfold sealO
  rw [show ltI 200 ((a.length : Nat) : Int) = ltB 200 a.length from rfl, show ltI 800 ((b.length : Nat) : Int) = ltB 800 b.length from rfl]
  cases h1 : ltB 200 a.length with
  | true => exact ⟨rfl, rfl⟩
  | false =>
    cases h2 : ltB 800 b.length with
    | true => exact ⟨rfl, rfl⟩
    | false =>
      have h1 := of_ltB_no h1
      have h2 := of_ltB_no h2
      have hs := length_streamS k 1 n b
      rw [take_n (l := streamS k 1 n b) hs.symm, sealS_eq, length_sealT]
      unfold sealF
      rw [ltB_no (by omega), over_one (by omega), hs]
      simp only [ite2_t, ite2_f, cnd_iff, Bool.and_eq_true, leB_iff, ltB_iff, beq_iff_eq, cond_false]
      repeat' apply And.intro
      all_goals first | rfl | trivial | omega

/-- Is the end of what comes another one than the tag? -/
noncomputable def badF (k n a b : List UInt8) : Bool := !(b.drop (b.length - 16) == sealT k n a (b.take (b.length - 16)))
noncomputable def badS : List UInt8 → List UInt8 → List UInt8 → List UInt8 → Bool := (sealed badF).val
theorem badS_eq (k n a b : List UInt8) : badS k n a b = badF k n a b := by rw [badS, (sealed badF).property]
noncomputable def plainF (k n b : List UInt8) : List UInt8 := streamS k 1 n (b.take (b.length - 16))
noncomputable def plainS : List UInt8 → List UInt8 → List UInt8 → List UInt8 := (sealed plainF).val
theorem plainS_eq (k n b : List UInt8) : plainS k n b = plainF k n b := by rw [plainS, (sealed plainF).property]
theorem length_plainS (k n b : List UInt8) : (plainS k n b).length = b.length - 16 := by
  rw [plainS_eq]; unfold plainF
  rw [length_streamS, List.length_take]; omega

theorem or_zero {a b : UInt8} : a ||| b = 0 ↔ a = 0 ∧ b = 0 := by
  constructor
  · intro h
    have h2 : a.toNat ||| b.toNat = 0 := by rw [← UInt8.toNat_or, h]; rfl
    rw [Nat.or_eq_zero_iff] at h2
    exact ⟨UInt8.toNat_inj.1 h2.1, UInt8.toNat_inj.1 h2.2⟩
  · rintro ⟨rfl, rfl⟩; rfl
theorem xor_zero {a b : UInt8} : a ^^^ b = 0 ↔ a = b := by
  constructor
  · intro h
    have : a ^^^ b ^^^ b = 0 ^^^ b := by rw [h]
    rwa [UInt8.xor_assoc, UInt8.xor_self, UInt8.xor_zero, UInt8.zero_xor] at this
  · rintro rfl; exact UInt8.xor_self
theorem odd_iff (x : UInt8) : (((x.toNat : Nat) : Int) != 0) = !(x == 0) := by
  cases h : x == 0
  · have : x ≠ 0 := beq_eq_false_iff_ne.1 h
    have : x.toNat ≠ 0 := fun h => this (UInt8.toNat_inj.1 h)
    simp; omega
  · rw [beq_iff_eq] at h; subst h; rfl

theorem odd_all : ∀ {c t : List UInt8}, c.length = 16 → t.length = 16 →
    ((((((((((((((((((0 : UInt8) ||| (c.getD 0 0 ^^^ t.getD 0 0)) ||| (c.getD 1 0 ^^^ t.getD 1 0)) ||| (c.getD 2 0 ^^^ t.getD 2 0)) ||| (c.getD 3 0 ^^^ t.getD 3 0)) ||| (c.getD 4 0 ^^^ t.getD 4 0)) ||| (c.getD 5 0 ^^^ t.getD 5 0)) ||| (c.getD 6 0 ^^^ t.getD 6 0)) ||| (c.getD 7 0 ^^^ t.getD 7 0)) ||| (c.getD 8 0 ^^^ t.getD 8 0)) ||| (c.getD 9 0 ^^^ t.getD 9 0)) ||| (c.getD 10 0 ^^^ t.getD 10 0)) ||| (c.getD 11 0 ^^^ t.getD 11 0)) ||| (c.getD 12 0 ^^^ t.getD 12 0)) ||| (c.getD 13 0 ^^^ t.getD 13 0)) ||| (c.getD 14 0 ^^^ t.getD 14 0)) ||| (c.getD 15 0 ^^^ t.getD 15 0)) == 0) = (c == t)
  | [c0, c1, c2, c3, c4, c5, c6, c7, c8, c9, c10, c11, c12, c13, c14, c15], [t0, t1, t2, t3, t4, t5, t6, t7, t8, t9, t10, t11, t12, t13, t14, t15], _, _ => by
    rw [Bool.eq_iff_iff, beq_iff_eq, beq_iff_eq]
    simp only [List.getD_cons_zero, List.getD_cons_succ, or_zero, xor_zero, List.cons.injEq, and_true, true_and, and_assoc]

noncomputable def openO (k n a b : List UInt8) : Out := .alt (ltB 200 a.length || ltB 816 b.length) (nilErr 1) (.alt (ltB b.length 16) (nilErr 4) (.alt (badS k n a b) (nilErr 10) (.ret (.tup [.sl 0 0 1 (b.length - 16), .int .i64 0]) [.grow8 (plainS k n b) []])))

theorem sealOpen_c (k n a b : List UInt8) (fa fb : Bool) (hb : b.length ≤ 1000000000) : HCall Tryd.E 34 [.b8 32 k, .b8 12 n, .vec8 fa a, .vec8 fb b] (openO k n a b) := by
  refine HCall.of_walk (R := RS) (T := S2) (fun _ _ => .unroll 17) 5 rfl rfl ?_
  rw [sealOpen_eq]
  dsimp only
  unfold openO
  have e2 : wr .i64 (subI (b.length : Int) 16) = (b.length : Int) - 16 := by rw [subI_eq, wr_of (by omega) (by omega)]
  rw [e2, show ltI 200 ((a.length : Nat) : Int) = ltB 200 a.length from rfl]
  cases h1 : ltB 200 a.length with
  | true => exact ⟨rfl, rfl⟩
  | false =>
    have h1 := of_ltB_no h1
    cases h2 : ltB 816 b.length with
    | true =>
      have := ltB_iff.1 h2
      rw [ltI_of (x := 800) (by omega)]
      exact ⟨rfl, rfl⟩
    | false =>
      have h2 := of_ltB_no h2
      rw [ltI_no (x := 800) (by omega)]
      cases h3 : ltB b.length 16 with
      | true =>
        have := ltB_iff.1 h3
        rw [ltI_of (x := (b.length : Int) - 16) (by omega)]
        exact ⟨rfl, rfl⟩
      | false =>
        have h3 := of_ltB_no h3
        obtain ⟨m, hm⟩ : ∃ m : Nat, b.length = m + 16 := ⟨b.length - 16, by omega⟩
        have e3 : (b.length : Int) - 16 = (m : Int) := by omega
        rw [e3, ltI_no (x := (m : Int)) (by omega)]
        have e4 : sliceL none (some ((m : Nat) : Int)) b = b.take m := by
          show b.take (Int.toNat _) = _
          rw [Int.toNat_natCast]
        have e5 : sliceL (some ((m : Nat) : Int)) none b = b.drop m := by
          show b.drop (Int.toNat _) = _
          rw [Int.toNat_natCast]
        have e6 : sliceOk none (some ((m : Nat) : Int)) b.length = true := by
          show (nnB _ && leB (Int.toNat _) _) = true
          rw [nnB_iff.2 (by omega), Int.toNat_natCast, leB_of (by omega)]; rfl
        have e7 : sliceOk (some ((m : Nat) : Int)) none b.length = true := by
          show (nnB _ && leB (Int.toNat _) _) = true
          rw [nnB_iff.2 (by omega), Int.toNat_natCast, leB_of (by omega)]; rfl
        have hl : (b.drop m).length = 16 := by rw [List.length_drop]; omega
        have ht : (b.take m).length = m := by rw [List.length_take]; omega
        rw [e4, e5, e6, e7, hl, ht, leB_of (a := a.length) (by omega), leB_of (a := m) (by omega), badS_eq, plainS_eq]
        unfold badF plainF
        rw [show b.length - 16 = m by omega]
        have ho := odd_all hl (length_sealT k n a (b.take m))
        show ite2 (((UInt8.toNat _ : Nat) : Int) != 0) _ _
        rw [odd_iff, ho]
        cases hq : (List.drop m b == sealT k n a (List.take m b)) with
        | false => exact ⟨rfl, rfl⟩
        | true =>
          rw [ltB_no (by omega), over_one (by omega)]
          exact ⟨rfl, rfl⟩

theorem sealSeal_c2 (k n a b : List UInt8) (fa fb : Bool) (h1 : ltB 200 a.length = false) (h2 : ltB 800 b.length = false) : HCall Tryd.E 33 [.b8 32 k, .b8 12 n, .vec8 fa a, .vec8 fb b] (.ret (.tup [.sl 0 0 1 (b.length + 16), .int .i64 0]) [.grow8 (sealS k n a b) []]) := by
  have h := sealSeal_c k n a b fa fb
  unfold sealO at h
  rw [h1, h2] at h
  obtain ⟨x, _, z⟩ := h
  exact ⟨x, rfl, z⟩
/-- Seal where a text is short enough; Open. -/
noncomputable def S3 : Ctr Tryd.E := (S2.add 33 (fun
    | [.b8 32 k, .b8 12 n, .vec8 _ a, .vec8 _ b] => some (!(ltB 200 a.length) && !(ltB 800 b.length), .ret (.tup [.sl 0 0 1 (b.length + 16), .int .i64 0]) [.grow8 (sealS k n a b) []])
    | _ => none) (by
      intro args pre out h hp
      split at h
      · simp only [Option.some.injEq, Prod.mk.injEq] at h
        obtain ⟨rfl, rfl⟩ := h
        simp only [Bool.and_eq_true, Bool.not_eq_true'] at hp
        exact sealSeal_c2 _ _ _ _ _ _ hp.1 hp.2
      · simp at h)).add 34 (fun
    | [.b8 32 k, .b8 12 n, .vec8 _ a, .vec8 _ b] => some (leB b.length 1000000000, openO k n a b)
    | _ => none) (by
      intro args pre out h hp
      split at h
      · simp only [Option.some.injEq, Prod.mk.injEq] at h
        obtain ⟨rfl, rfl⟩ := h
        exact sealOpen_c _ _ _ _ _ _ (leB_iff.1 hp)
      · simp at h)
end Go.Proofs.YtdipeoacmapehaaDoor

set_option linter.unusedSimpArgs false
set_option linter.unusedVariables false
namespace Go.Proofs.YtdipeoacmapehaaDoor
open Go Go.V Go.Fld Go.Pol Go.Cha
set_option maxHeartbeats 0
set_option maxRecDepth 100000

theorem cnonce_eq (n : UInt64) (K : AV → Heap → Prop) : walk Tryd.E RS S3.C (fun _ _ => .unroll 17) 5 37 [.u64 n] K = (

 K (AV.b8 12 (List.set (List.set (List.set (List.set (List.set (List.set (List.set (List.set [0, 0, 0, 0, 0, 0, 0, 0, 0, 0, 0, 0] 4 (UInt64.toUInt8 (shr64 n 0))) 5 (UInt64.toUInt8 (shr64 n 8))) 6 (UInt64.toUInt8 (shr64 n 16))) 7 (UInt64.toUInt8 (shr64 n 24))) 8 (UInt64.toUInt8 (shr64 n 32))) 9 (UInt64.toUInt8 (shr64 n 40))) 10 (UInt64.toUInt8 (shr64 n 48))) 11 (UInt64.toUInt8 (shr64 n 56)))) []) := by kernel_rfl

theorem cbegin_eq (k : List UInt8) (K : AV → Heap → Prop) : walk Tryd.E RS S3.C (fun _ _ => .unroll 17) 5 24 [.b8 32 k] K = (

 K (AV.agg [AV.bool Bool.true, AV.b8 32 k, AV.u64 0]) []) := by kernel_rfl

theorem ccheck_eq (b : Bool) (k : List UInt8) (n : UInt64) (K : AV → Heap → Prop) : walk Tryd.E RS S3.C (fun _ _ => .unroll 17) 5 36 [.agg [.bool b, .b8 32 k, .u64 n]] K = (

 ite2 (Bool.not b)
 -- THEN
 (ite2 (cond Bool.true (Bool.not ((b == Bool.false) && ((k == [0, 0, 0, 0, 0, 0, 0, 0, 0, 0, 0, 0, 0, 0, 0, 0, 0, 0, 0, 0, 0, 0, 0, 0, 0, 0, 0, 0, 0, 0, 0, 0]) && ((n == 0) && Bool.true)))) Bool.false)
 -- THEN
 (K (AV.int IntKind.i64 9) [])
 -- ELSE
 (K (AV.int IntKind.i64 0) []))
 -- ELSE
 (K (AV.int IntKind.i64 0) [])) := by kernel_rfl

end Go.Proofs.YtdipeoacmapehaaDoor

set_option linter.unusedSimpArgs false
set_option linter.unusedVariables false
namespace Go.Proofs.YtdipeoacmapehaaDoor
open Go Go.V Go.Fld Go.Pol Go.Cha
set_option maxRecDepth 100000

noncomputable def cnonceF (n : UInt64) : List UInt8 := List.set (List.set (List.set (List.set (List.set (List.set (List.set (List.set [0, 0, 0, 0, 0, 0, 0, 0, 0, 0, 0, 0] 4 (UInt64.toUInt8 (shr64 n 0))) 5 (UInt64.toUInt8 (shr64 n 8))) 6 (UInt64.toUInt8 (shr64 n 16))) 7 (UInt64.toUInt8 (shr64 n 24))) 8 (UInt64.toUInt8 (shr64 n 32))) 9 (UInt64.toUInt8 (shr64 n 40))) 10 (UInt64.toUInt8 (shr64 n 48))) 11 (UInt64.toUInt8 (shr64 n 56))
noncomputable def cnonceS : UInt64 → List UInt8 := (sealed cnonceF).val
theorem cnonceS_eq (n : UInt64) : cnonceS n = cnonceF n := by rw [cnonceS, (sealed cnonceF).property]
theorem cnonce_c (n : UInt64) : HCall Tryd.E 37 [.u64 n] (.ret (.b8 12 (cnonceS n)) []) := by
  refine HCall.of_walk (R := RS) (T := S3) (fun _ _ => .unroll 17) 5 rfl rfl ?_
  rw [cnonce_eq, cnonceS_eq]
  exact ⟨rfl, rfl⟩
def zero32 : List UInt8 := [0, 0, 0, 0, 0, 0, 0, 0, 0, 0, 0, 0, 0, 0, 0, 0, 0, 0, 0, 0, 0, 0, 0, 0, 0, 0, 0, 0, 0, 0, 0, 0]
theorem ccheck_c1 (k : List UInt8) (n : UInt64) : HCall Tryd.E 36 [.agg [.bool true, .b8 32 k, .u64 n]] (.ret (.int .i64 0) []) := by
  refine HCall.of_walk (R := RS) (T := S3) (fun _ _ => .unroll 17) 5 rfl rfl ?_
  rw [ccheck_eq]
  exact ⟨rfl, rfl⟩
/-- Is it a cipher of nothing? -/
noncomputable def nilCF (k : List UInt8) (n : UInt64) : Bool := k == zero32 && n == 0
noncomputable def nilC : List UInt8 → UInt64 → Bool := (sealed nilCF).val
theorem nilC_eq (k : List UInt8) (n : UInt64) : nilC k n = (k == zero32 && n == 0) := by rw [nilC, (sealed nilCF).property]; rfl
theorem ccheck_c0 (k : List UInt8) (n : UInt64) : HCall Tryd.E 36 [.agg [.bool false, .b8 32 k, .u64 n]] (.alt (nilC k n) (.ret (.int .i64 0) []) (.ret (.int .i64 9) [])) := by
  refine HCall.of_walk (R := RS) (T := S3) (fun _ _ => .unroll 17) 5 rfl rfl ?_
  rw [ccheck_eq, nilC_eq]
  have e : ((false == false) && ((k == [0, 0, 0, 0, 0, 0, 0, 0, 0, 0, 0, 0, 0, 0, 0, 0, 0, 0, 0, 0, 0, 0, 0, 0, 0, 0, 0, 0, 0, 0, 0, 0]) && ((n == 0) && true))) = (k == zero32 && n == 0) := by
    rw [Bool.and_true]; rfl
  rw [e]
  cases k == zero32 && n == 0 with
  | true => exact ⟨rfl, rfl⟩
  | false => exact ⟨rfl, rfl⟩
theorem cbegin_c (k : List UInt8) : HCall Tryd.E 24 [.b8 32 k] (.ret (.agg [.bool true, .b8 32 k, .u64 0]) []) := by
  refine HCall.of_walk (R := RS) (T := S3) (fun _ _ => .unroll 17) 5 rfl rfl ?_
  rw [cbegin_eq]
  exact ⟨rfl, rfl⟩
noncomputable def C1 : Ctr Tryd.E := ((S3.add 37 (fun
    | [.u64 n] => some (true, .ret (.b8 12 (cnonceS n)) [])
    | _ => none) (by
      intro args pre out h hp
      split at h
      · simp only [Option.some.injEq, Prod.mk.injEq] at h
        obtain ⟨rfl, rfl⟩ := h
        exact cnonce_c _
      · simp at h)).add 24 (fun
    | [.b8 32 k] => some (true, .ret (.agg [.bool true, .b8 32 k, .u64 0]) [])
    | _ => none) (by
      intro args pre out h hp
      split at h
      · simp only [Option.some.injEq, Prod.mk.injEq] at h
        obtain ⟨rfl, rfl⟩ := h
        exact cbegin_c _
      · simp at h)).add 36 (fun
    | [.agg [.bool true, .b8 32 _, .u64 _]] => some (true, .ret (.int .i64 0) [])
    | [.agg [.bool false, .b8 32 k, .u64 n]] => some (true, .alt (nilC k n) (.ret (.int .i64 0) []) (.ret (.int .i64 9) []))
    | _ => none) (by
      intro args pre out h hp
      split at h
      · simp only [Option.some.injEq, Prod.mk.injEq] at h
        obtain ⟨rfl, rfl⟩ := h
        exact ccheck_c1 _ _
      · simp only [Option.some.injEq, Prod.mk.injEq] at h
        obtain ⟨rfl, rfl⟩ := h
        exact ccheck_c0 _ _
      · simp at h)
end Go.Proofs.YtdipeoacmapehaaDoor

set_option linter.unusedSimpArgs false
set_option linter.unusedVariables false
namespace Go.Proofs.YtdipeoacmapehaaDoor
open Go Go.V Go.Fld Go.Pol Go.Cha
set_option maxHeartbeats 0
set_option maxRecDepth 100000

theorem csealT_eq (k ad b : List UInt8) (n : UInt64) (fa fb : Bool) (K : AV → Heap → Prop) : walk Tryd.E RS C1.C (fun _ _ => .unroll 17) 5 26 [.agg [.bool true, .b8 32 k, .u64 n], .vec8 fa ad, .vec8 fb b] K = (
 let x0 : Nat := (List.length b)
 ite2 ((((UInt64.toNat n) : Nat) : Int) == 18446744073709551615)
 -- THEN
 (K (AV.tup [AV.agg [AV.bool Bool.false, AV.b8 32 [0, 0, 0, 0, 0, 0, 0, 0, 0, 0, 0, 0, 0, 0, 0, 0, 0, 0, 0, 0, 0, 0, 0, 0, 0, 0, 0, 0, 0, 0, 0, 0], AV.u64 0], AV.vec8 Bool.true [], AV.int IntKind.i64 11]) [])
 -- ELSE
 (cnd ((Bool.not (ltB 200 (List.length ad))) && (Bool.not (ltB 800 x0)))
 (K (AV.tup [AV.agg [AV.bool Bool.true, AV.b8 32 k, AV.u64 (n + 1)], AV.sl 0 0 1 (x0 + 16), AV.int IntKind.i64 0]) [Ent.grow8 (sealS k (cnonceS n) ad b) []]))) := by kernel_rfl

theorem csealF_eq (k ad b : List UInt8) (n : UInt64) (fa fb : Bool) (K : AV → Heap → Prop) : walk Tryd.E RS C1.C (fun _ _ => .unroll 17) 5 26 [.agg [.bool false, .b8 32 k, .u64 n], .vec8 fa ad, .vec8 fb b] K = (
 let x0 : Nat := (List.length b)
 ite2 (nilC k n)
 -- THEN
 (ite2 (ltI 800 ((x0 : Nat) : Int))
 -- THEN
 (K (AV.tup [AV.agg [AV.bool Bool.false, AV.b8 32 [0, 0, 0, 0, 0, 0, 0, 0, 0, 0, 0, 0, 0, 0, 0, 0, 0, 0, 0, 0, 0, 0, 0, 0, 0, 0, 0, 0, 0, 0, 0, 0], AV.u64 0], AV.vec8 Bool.true [], AV.int IntKind.i64 1]) [])
 -- ELSE
 (cnd (leB (x0 * 1) 140737488355328)
 (K (AV.tup [AV.agg [AV.bool Bool.false, AV.b8 32 k, AV.u64 n], AV.sl 0 0 1 x0, AV.int IntKind.i64 0]) [Ent.grow8 b []])))
 -- ELSE
 (K (AV.tup [AV.agg [AV.bool Bool.false, AV.b8 32 [0, 0, 0, 0, 0, 0, 0, 0, 0, 0, 0, 0, 0, 0, 0, 0, 0, 0, 0, 0, 0, 0, 0, 0, 0, 0, 0, 0, 0, 0, 0, 0], AV.u64 0], AV.vec8 Bool.true [], AV.int IntKind.i64 9]) [])) := by kernel_rfl

theorem copenT_eq (k ad b : List UInt8) (n : UInt64) (fa fb : Bool) (K : AV → Heap → Prop) : walk Tryd.E RS C1.C (fun _ _ => .unroll 17) 5 27 [.agg [.bool true, .b8 32 k, .u64 n], .vec8 fa ad, .vec8 fb b] K = (
 let x0 : Nat := (List.length b)
 ite2 ((((UInt64.toNat n) : Nat) : Int) == 18446744073709551615)
 -- THEN
 (K (AV.tup [AV.agg [AV.bool Bool.false, AV.b8 32 [0, 0, 0, 0, 0, 0, 0, 0, 0, 0, 0, 0, 0, 0, 0, 0, 0, 0, 0, 0, 0, 0, 0, 0, 0, 0, 0, 0, 0, 0, 0, 0], AV.u64 0], AV.vec8 Bool.true [], AV.int IntKind.i64 11]) [])
 -- ELSE
 (cnd (leB x0 1000000000)
 (ite2 ((ltB 200 (List.length ad)) || (ltB 816 x0))
 -- THEN
 (K (AV.tup [AV.agg [AV.bool Bool.false, AV.b8 32 [0, 0, 0, 0, 0, 0, 0, 0, 0, 0, 0, 0, 0, 0, 0, 0, 0, 0, 0, 0, 0, 0, 0, 0, 0, 0, 0, 0, 0, 0, 0, 0], AV.u64 0], AV.vec8 Bool.true [], AV.int IntKind.i64 1]) [])
 -- ELSE
 (ite2 (ltB x0 16)
 -- THEN
 (K (AV.tup [AV.agg [AV.bool Bool.false, AV.b8 32 [0, 0, 0, 0, 0, 0, 0, 0, 0, 0, 0, 0, 0, 0, 0, 0, 0, 0, 0, 0, 0, 0, 0, 0, 0, 0, 0, 0, 0, 0, 0, 0], AV.u64 0], AV.vec8 Bool.true [], AV.int IntKind.i64 4]) [])
 -- ELSE
 (ite2 (badS k (cnonceS n) ad b)
 -- THEN
 (K (AV.tup [AV.agg [AV.bool Bool.false, AV.b8 32 [0, 0, 0, 0, 0, 0, 0, 0, 0, 0, 0, 0, 0, 0, 0, 0, 0, 0, 0, 0, 0, 0, 0, 0, 0, 0, 0, 0, 0, 0, 0, 0], AV.u64 0], AV.vec8 Bool.true [], AV.int IntKind.i64 10]) [])
 -- ELSE
 (K (AV.tup [AV.agg [AV.bool Bool.true, AV.b8 32 k, AV.u64 (n + 1)], AV.sl 0 0 1 (x0 - 16), AV.int IntKind.i64 0]) [Ent.grow8 (plainS k (cnonceS n) b) []])))))) := by kernel_rfl

theorem copenF_eq (k ad b : List UInt8) (n : UInt64) (fa fb : Bool) (K : AV → Heap → Prop) : walk Tryd.E RS C1.C (fun _ _ => .unroll 17) 5 27 [.agg [.bool false, .b8 32 k, .u64 n], .vec8 fa ad, .vec8 fb b] K = (
 let x0 : Nat := (List.length b)
 ite2 (nilC k n)
 -- THEN
 (ite2 (ltI 800 ((x0 : Nat) : Int))
 -- THEN
 (K (AV.tup [AV.agg [AV.bool Bool.false, AV.b8 32 [0, 0, 0, 0, 0, 0, 0, 0, 0, 0, 0, 0, 0, 0, 0, 0, 0, 0, 0, 0, 0, 0, 0, 0, 0, 0, 0, 0, 0, 0, 0, 0], AV.u64 0], AV.vec8 Bool.true [], AV.int IntKind.i64 1]) [])
 -- ELSE
 (cnd (leB (x0 * 1) 140737488355328)
 (K (AV.tup [AV.agg [AV.bool Bool.false, AV.b8 32 k, AV.u64 n], AV.sl 0 0 1 x0, AV.int IntKind.i64 0]) [Ent.grow8 b []])))
 -- ELSE
 (K (AV.tup [AV.agg [AV.bool Bool.false, AV.b8 32 [0, 0, 0, 0, 0, 0, 0, 0, 0, 0, 0, 0, 0, 0, 0, 0, 0, 0, 0, 0, 0, 0, 0, 0, 0, 0, 0, 0, 0, 0, 0, 0], AV.u64 0], AV.vec8 Bool.true [], AV.int IntKind.i64 9]) [])) := by kernel_rfl

end Go.Proofs.YtdipeoacmapehaaDoor

set_option linter.unusedSimpArgs false
set_option linter.unusedVariables false
namespace Go.Proofs.YtdipeoacmapehaaDoor
open Go Go.V Go.Fld Go.Pol Go.Cha
set_option maxRecDepth 100000

def maxB (n : UInt64) : Bool := (((UInt64.toNat n) : Nat) : Int) == 18446744073709551615
noncomputable def nilAv : AV := .agg [.bool false, .b8 32 zero32, .u64 0]
noncomputable def cErr (e : Int) : Out := .ret (.tup [nilAv, .vec8 true [], .int .i64 e]) []
noncomputable def csealO (k ad b : List UInt8) (n : UInt64) : Out := .alt (maxB n) (cErr 11) (.ret (.tup [.agg [.bool true, .b8 32 k, .u64 (n + 1)], .sl 0 0 1 (b.length + 16), .int .i64 0]) [.grow8 (sealS k (cnonceS n) ad b) []])
noncomputable def csealP (k b : List UInt8) (n : UInt64) : Out := .alt (nilC k n) (.ret (.tup [.agg [.bool false, .b8 32 k, .u64 n], .sl 0 0 1 b.length, .int .i64 0]) [.grow8 b []]) (cErr 9)
noncomputable def copenO (k ad b : List UInt8) (n : UInt64) : Out := .alt (maxB n) (cErr 11) (.alt (ltB 200 ad.length || ltB 816 b.length) (cErr 1) (.alt (ltB b.length 16) (cErr 4) (.alt (badS k (cnonceS n) ad b) (cErr 10)
  (.ret (.tup [.agg [.bool true, .b8 32 k, .u64 (n + 1)], .sl 0 0 1 (b.length - 16), .int .i64 0]) [.grow8 (plainS k (cnonceS n) b) []]))))

theorem cseal_c1 (k ad b : List UInt8) (n : UInt64) (fa fb : Bool) (h1 : ltB 200 ad.length = false) (h2 : ltB 800 b.length = false) : HCall Tryd.E 26 [.agg [.bool true, .b8 32 k, .u64 n], .vec8 fa ad, .vec8 fb b] (csealO k ad b n) := by
  refine HCall.of_walk (R := RS) (T := C1) (fun _ _ => .unroll 17) 5 rfl rfl ?_
  rw [csealT_eq]
  dsimp only
  rw [h1, h2]
  unfold csealO
  show ite2 (maxB n) _ _
  cases maxB n with
  | true => exact ⟨rfl, rfl⟩
  | false => exact ⟨rfl, rfl⟩
theorem cseal_c0 (k ad b : List UInt8) (n : UInt64) (fa fb : Bool) (h2 : ltB 800 b.length = false) : HCall Tryd.E 26 [.agg [.bool false, .b8 32 k, .u64 n], .vec8 fa ad, .vec8 fb b] (csealP k b n) := by
  refine HCall.of_walk (R := RS) (T := C1) (fun _ _ => .unroll 17) 5 rfl rfl ?_
  rw [csealF_eq]
  dsimp only
  unfold csealP
  have := of_ltB_no h2
  rw [show ltI 800 ((b.length : Nat) : Int) = ltB 800 b.length from rfl, h2, leB_of (by omega)]
  cases nilC k n with
  | true => exact ⟨rfl, rfl⟩
  | false => exact ⟨rfl, rfl⟩
theorem copen_c1 (k ad b : List UInt8) (n : UInt64) (fa fb : Bool) (h : b.length ≤ 1000000000) : HCall Tryd.E 27 [.agg [.bool true, .b8 32 k, .u64 n], .vec8 fa ad, .vec8 fb b] (copenO k ad b n) := by
  refine HCall.of_walk (R := RS) (T := C1) (fun _ _ => .unroll 17) 5 rfl rfl ?_
  rw [copenT_eq]
  dsimp only
  rw [leB_of h]
  unfold copenO
  show ite2 (maxB n) _ _
  cases maxB n with
  | true => exact ⟨rfl, rfl⟩
  | false =>
    show ite2 _ _ _
    cases (ltB 200 ad.length || ltB 816 b.length) with
    | true => exact ⟨rfl, rfl⟩
    | false =>
      show ite2 _ _ _
      cases ltB b.length 16 with
      | true => exact ⟨rfl, rfl⟩
      | false =>
        show ite2 _ _ _
        cases badS k (cnonceS n) ad b with
        | true => exact ⟨rfl, rfl⟩
        | false => exact ⟨rfl, rfl⟩
noncomputable def copenP (k b : List UInt8) (n : UInt64) : Out := .alt (nilC k n) (.ret (.tup [.agg [.bool false, .b8 32 k, .u64 n], .sl 0 0 1 b.length, .int .i64 0]) [.grow8 b []]) (cErr 9)
theorem copen_c0 (k ad b : List UInt8) (n : UInt64) (fa fb : Bool) (h2 : ltB 800 b.length = false) : HCall Tryd.E 27 [.agg [.bool false, .b8 32 k, .u64 n], .vec8 fa ad, .vec8 fb b] (copenP k b n) := by
  refine HCall.of_walk (R := RS) (T := C1) (fun _ _ => .unroll 17) 5 rfl rfl ?_
  rw [copenF_eq]
  dsimp only
  unfold copenP
  have := of_ltB_no h2
  rw [show ltI 800 ((b.length : Nat) : Int) = ltB 800 b.length from rfl, h2, leB_of (by omega)]
  cases nilC k n with
  | true => exact ⟨rfl, rfl⟩
  | false => exact ⟨rfl, rfl⟩
noncomputable def C2o : Ctr Tryd.E := (C1.add 26 (fun
    | [.agg [.bool h, .b8 32 k, .u64 n], .vec8 _ ad, .vec8 _ b] => some (!(ltB 200 ad.length) && !(ltB 800 b.length), .alt h (csealO k ad b n) (csealP k b n))
    | _ => none) (by
      intro args pre out h hp
      split at h
      · rename_i b k n fa ad fb text
        simp only [Option.some.injEq, Prod.mk.injEq] at h
        obtain ⟨rfl, rfl⟩ := h
        simp only [Bool.and_eq_true, Bool.not_eq_true'] at hp
        cases b with
        | true => exact HCall.alt_l rfl rfl (cseal_c1 _ _ _ _ _ _ hp.1 hp.2)
        | false => exact HCall.alt_r rfl rfl (cseal_c0 _ _ _ _ _ _ hp.2)
      · simp at h)).add 27 (fun
    | [.agg [.bool h, .b8 32 k, .u64 n], .vec8 _ ad, .vec8 _ b] => some (leB b.length 1000000000 && (h || !(ltB 800 b.length)), .alt h (copenO k ad b n) (copenP k b n))
    | _ => none) (by
      intro args pre out h hp
      split at h
      · rename_i b k n fa ad fb text
        simp only [Option.some.injEq, Prod.mk.injEq] at h
        obtain ⟨rfl, rfl⟩ := h
        simp only [Bool.and_eq_true] at hp
        cases b with
        | true => exact HCall.alt_l rfl rfl (copen_c1 _ _ _ _ _ _ (leB_iff.1 hp.1))
        | false => exact HCall.alt_r rfl rfl (copen_c0 _ _ _ _ _ _ (by simpa using hp.2))
      · simp at h)
end Go.Proofs.YtdipeoacmapehaaDoor

set_option linter.unusedSimpArgs false
set_option linter.unusedVariables false
namespace Go.Proofs.YtdipeoacmapehaaDoor
open Go Go.V Go.Cha Go.Bla
/-- What is known of calls, of either. -/
noncomputable def orC (T T' : Ctr Tryd.E) : Ctr Tryd.E := ⟨fun f args => match T.C f args with
    | some r => some r
    | none => T'.C f args, fun f args pre out h hp => by
    cases h1 : T.C f args with
    | some r => rw [h1] at h; simp only [Option.some.injEq] at h; subst h; exact T.ok f args pre out h1 hp
    | none => rw [h1] at h; exact T'.ok f args pre out h hp⟩
noncomputable def Y1 : Ctr Tryd.E := orC K4 C2o
end Go.Proofs.YtdipeoacmapehaaDoor

set_option linter.unusedSimpArgs false
set_option linter.unusedVariables false
namespace Go.Proofs.YtdipeoacmapehaaDoor
open Go Go.V Go.Fld Go.Pol Go.Cha Go.Bla
set_option maxHeartbeats 0
set_option maxRecDepth 100000

theorem ykey_eq (chain hash ck b : List UInt8) (has fb : Bool) (n : UInt64) (K : AV → Heap → Prop) : walk Tryd.E RQ Y1.C (fun f l => .unroll 5) 5 15 [.agg [.bool has, .b8 32 ck, .u64 n, .b8 32 chain, .b8 32 hash], .vec8 fb b] K = (

 cnd ((leB (List.length chain) 64) && (leB (List.length b) 100000))
 (K (AV.agg [AV.agg [AV.bool Bool.true, AV.b8 32 (key2 chain b), AV.u64 0], AV.b8 32 (key1 chain b), AV.b8 32 hash]) [])) := by kernel_rfl

theorem yhash_eq (chain hash ck b : List UInt8) (has fb : Bool) (n : UInt64) (K : AV → Heap → Prop) : walk Tryd.E RQ Y1.C (fun f l => .unroll 5) 5 16 [.agg [.bool has, .b8 32 ck, .u64 n, .b8 32 chain, .b8 32 hash], .vec8 fb b] K = (
 let x0 : Nat := (List.length hash)
 let x1 : Nat := 140737488355328
 let x2 : Nat := (x0 + (List.length b))
 let x3 : List UInt8 := (List.take x2 (List.drop 0 (hash ++ b)))
 cnd (leB (x0 * 1) x1)
 (cnd (x0 == x0)
 (cnd (leB (x2 * 1) x1)
 (cnd ((Bool.true && (leB (0 + x2) (List.length (hash ++ b)))) && Bool.true)
 (cnd (leB (List.length x3) 1073741824)
 (K (AV.agg [AV.bool has, AV.b8 32 ck, AV.u64 n, AV.b8 32 chain, AV.b8 32 (Bla.sumS x3)]) [])))))) := by kernel_rfl

theorem ybegin_eq (s : List UInt8) (K : AV → Heap → Prop) : walk Tryd.E RQ Y1.C (fun f l => .unroll 5) 5 12 [.str s] K = (
 let x0 : Nat := (List.length s)
 let x1 : List UInt8 := (List.take x0 (List.drop 0 s))
 let x2 : List UInt8 := [0, 0, 0, 0, 0, 0, 0, 0, 0, 0, 0, 0, 0, 0, 0, 0, 0, 0, 0, 0, 0, 0, 0, 0, 0, 0, 0, 0, 0, 0, 0, 0]
 ite2 (ltI 32 ((x0 : Nat) : Int))
 -- THEN
 (cnd ((Bool.true && (leB (0 + x0) x0)) && Bool.true)
 (cnd (leB (List.length x1) 1073741824)
 (K (AV.agg [AV.agg [AV.bool Bool.false, AV.b8 32 x2, AV.u64 0], AV.b8 32 (Bla.sumS x1), AV.b8 32 (Bla.sumS x1)]) [])))
 -- ELSE
 (K (AV.agg [AV.agg [AV.bool Bool.false, AV.b8 32 x2, AV.u64 0], AV.b8 32 ((List.take 32 s) ++ (List.drop (Min.min x0 32) x2)), AV.b8 32 ((List.take 32 s) ++ (List.drop (Min.min x0 32) x2))]) [])) := by kernel_rfl

theorem ysplit_eq (chain hash ck : List UInt8) (has : Bool) (n : UInt64) (K : AV → Heap → Prop) : walk Tryd.E RQ Y1.C (fun f l => .unroll 5) 5 20 [.agg [.bool has, .b8 32 ck, .u64 n, .b8 32 chain, .b8 32 hash]] K = (

 cnd ((leB (List.length chain) 64) && Bool.true)
 (K (AV.agg [AV.agg [AV.bool Bool.true, AV.b8 32 (key1 chain []), AV.u64 0], AV.agg [AV.bool Bool.true, AV.b8 32 (key2 chain []), AV.u64 0]]) [])) := by kernel_rfl

end Go.Proofs.YtdipeoacmapehaaDoor

set_option linter.unusedSimpArgs false
set_option linter.unusedVariables false
namespace Go.Proofs.YtdipeoacmapehaaDoor
open Go Go.V Go.Fld Go.Pol Go.Cha Go.Bla
set_option maxRecDepth 100000
/-- What both know alike: its parts, laid flat. -/
noncomputable def symV (has : Bool) (ck : List UInt8) (n : UInt64) (chain hash : List UInt8) : AV := .agg [.bool has, .b8 32 ck, .u64 n, .b8 32 chain, .b8 32 hash]

theorem yhash_c (chain hash ck b : List UInt8) (has fb : Bool) (n : UInt64) (h : hash.length + b.length ≤ 1000000) :
    HCall Tryd.E 16 [.agg [.bool has, .b8 32 ck, .u64 n, .b8 32 chain, .b8 32 hash], .vec8 fb b] (.ret (symV has ck n chain (sumS (hash ++ b))) []) := by
  refine HCall.of_walk (R := RQ) (T := Y1) (fun _ _ => .unroll 5) 5 rfl rfl ?_
  rw [yhash_eq]
  dsimp only
  rw [take_drop_app _ _ _ (by simp), leB_of (by omega), leB_of (by omega), leB_of (by simp), leB_of (by simp; omega), beq_self_eq_true]
  exact ⟨rfl, rfl⟩
theorem ykey_c (chain hash ck b : List UInt8) (has fb : Bool) (n : UInt64) (h1 : chain.length ≤ 64) (h2 : b.length ≤ 100000) :
    HCall Tryd.E 15 [.agg [.bool has, .b8 32 ck, .u64 n, .b8 32 chain, .b8 32 hash], .vec8 fb b] (.ret (symV true (key2 chain b) 0 (key1 chain b) hash) []) := by
  refine HCall.weak (a := AV.agg [AV.agg [AV.bool true, AV.b8 32 (key2 chain b), AV.u64 0], AV.b8 32 (key1 chain b), AV.b8 32 hash]) ?_ (leV_flat _) rfl
  refine HCall.of_walk (R := RQ) (T := Y1) (fun _ _ => .unroll 5) 5 rfl rfl ?_
  rw [ykey_eq, leB_of h1, leB_of h2]
  exact ⟨rfl, rfl⟩

noncomputable def Y2 : Ctr Tryd.E := (Y1.add 16 (fun
    | [.agg [.bool has, .b8 32 ck, .u64 n, .b8 32 chain, .b8 32 hash], .vec8 _ b] => some (leB (hash.length + b.length) 1000000, .ret (symV has ck n chain (sumS (hash ++ b))) [])
    | [.agg [.agg [.bool has, .b8 32 ck, .u64 n], .b8 32 chain, .b8 32 hash], .vec8 _ b] => some (leB (hash.length + b.length) 1000000, .ret (symV has ck n chain (sumS (hash ++ b))) [])
    | _ => none) (by
      intro args pre out h hp
      split at h
      · simp only [Option.some.injEq, Prod.mk.injEq] at h
        obtain ⟨rfl, rfl⟩ := h
        exact yhash_c _ _ _ _ _ _ _ (leB_iff.1 hp)
      · simp only [Option.some.injEq, Prod.mk.injEq] at h
        obtain ⟨rfl, rfl⟩ := h
        rename_i has ck n chain hash full b
        refine HCall.args (yhash_c chain hash ck b has full n (leB_iff.1 hp)) rfl fun ρ I w vs r => ?_
        obtain ⟨x, xs, rfl, k1, k2⟩ := RV_cons.1 r
        exact RV_cons.2 ⟨x, xs, rfl, leV_flat _ _ _ _ _ k1, k2⟩
      · simp at h)).add 15 (fun
    | [.agg [.bool has, .b8 32 ck, .u64 n, .b8 32 chain, .b8 32 hash], .vec8 _ b] => some (leB chain.length 64 && leB b.length 100000, .ret (symV true (key2 chain b) 0 (key1 chain b) hash) [])
    | _ => none) (by
      intro args pre out h hp
      split at h
      · simp only [Option.some.injEq, Prod.mk.injEq] at h
        obtain ⟨rfl, rfl⟩ := h
        simp only [Bool.and_eq_true] at hp
        exact ykey_c _ _ _ _ _ _ _ (leB_iff.1 hp.1) (leB_iff.1 hp.2)
      · simp at h)
end Go.Proofs.YtdipeoacmapehaaDoor

set_option linter.unusedSimpArgs false
set_option linter.unusedVariables false
namespace Go.Proofs.YtdipeoacmapehaaDoor
open Go Go.V Go.Fld Go.Pol Go.Cha Go.Bla
set_option maxHeartbeats 0
set_option maxRecDepth 100000

theorem yboth_eq (chain hash ck b : List UInt8) (has fb : Bool) (n : UInt64) (K : AV → Heap → Prop) : walk Tryd.E RQ Y2.C (fun f l => .unroll 5) 5 17 [.agg [.bool has, .b8 32 ck, .u64 n, .b8 32 chain, .b8 32 hash], .vec8 fb b] K = (
 let x0 : List UInt8 := (key2 chain b)
 cnd ((leB (List.length chain) 64) && (leB (List.length b) 100000))
 (cnd (leB ((List.length hash) + (List.length x0)) 1000000)
 (K (AV.agg [AV.agg [AV.bool Bool.true, AV.b8 32 (key3 chain b), AV.u64 0], AV.b8 32 (key1 chain b), AV.b8 32 (Bla.sumS (hash ++ x0))]) []))) := by kernel_rfl

end Go.Proofs.YtdipeoacmapehaaDoor

set_option linter.unusedSimpArgs false
set_option linter.unusedVariables false
namespace Go.Proofs.YtdipeoacmapehaaDoor
open Go Go.V Go.Fld Go.Pol Go.Cha Go.Bla
set_option maxRecDepth 100000
theorem length_key1 (c b : List UInt8) : (key1 c b).length = 32 := length_macS _ _
theorem length_key2 (c b : List UInt8) : (key2 c b).length = 32 := length_macS _ _
theorem length_key3 (c b : List UInt8) : (key3 c b).length = 32 := length_macS _ _
theorem yboth_c (chain hash ck b : List UInt8) (has fb : Bool) (n : UInt64) (h1 : chain.length ≤ 64) (h2 : b.length ≤ 100000) (h3 : hash.length ≤ 64) :
    HCall Tryd.E 17 [.agg [.bool has, .b8 32 ck, .u64 n, .b8 32 chain, .b8 32 hash], .vec8 fb b] (.ret (symV true (key3 chain b) 0 (key1 chain b) (sumS (hash ++ key2 chain b))) []) := by
  refine HCall.weak (a := AV.agg [AV.agg [AV.bool true, AV.b8 32 (key3 chain b), AV.u64 0], AV.b8 32 (key1 chain b), AV.b8 32 (sumS (hash ++ key2 chain b))]) ?_ (leV_flat _) rfl
  refine HCall.of_walk (R := RQ) (T := Y2) (fun _ _ => .unroll 5) 5 rfl rfl ?_
  rw [yboth_eq]
  dsimp only
  rw [length_key2, leB_of h1, leB_of h2, leB_of (by omega)]
  exact ⟨rfl, rfl⟩
noncomputable def Y3 : Ctr Tryd.E := Y2.add 17 (fun
    | [.agg [.bool has, .b8 32 ck, .u64 n, .b8 32 chain, .b8 32 hash], .vec8 _ b] => some (leB chain.length 64 && (leB b.length 100000 && leB hash.length 64), .ret (symV true (key3 chain b) 0 (key1 chain b) (sumS (hash ++ key2 chain b))) [])
    | _ => none) (by
      intro args pre out h hp
      split at h
      · simp only [Option.some.injEq, Prod.mk.injEq] at h
        obtain ⟨rfl, rfl⟩ := h
        simp only [Bool.and_eq_true] at hp
        exact yboth_c _ _ _ _ _ _ _ (leB_iff.1 hp.1) (leB_iff.1 hp.2.1) (leB_iff.1 hp.2.2)
      · simp at h)
end Go.Proofs.YtdipeoacmapehaaDoor

set_option linter.unusedSimpArgs false
set_option linter.unusedVariables false
namespace Go.Proofs.YtdipeoacmapehaaDoor
open Go Go.V Go.Fld Go.Pol Go.Cha Go.Bla
set_option maxHeartbeats 0
set_option maxRecDepth 100000

theorem yseal_eq (chain hash ck b : List UInt8) (has fb : Bool) (n : UInt64) (K : AV → Heap → Prop) : walk Tryd.E RQ Y3.C (fun f l => .unroll 5) 5 18 [.agg [.bool has, .b8 32 ck, .u64 n, .b8 32 chain, .b8 32 hash], .vec8 fb b] K = (
 let x0 : Nat := (List.length hash)
 let x1 : Nat := (List.length b)
 let x2 : List UInt8 := (sealS ck (cnonceS n) hash b)
 let x3 : List UInt8 := (List.take (x1 + 16) (List.drop 0 x2))
 let x4 : List UInt8 := (List.take x1 (List.drop 0 b))
 cnd ((Bool.not (ltB 200 x0)) && (Bool.not (ltB 800 x1)))
 (ite2 (has)
 -- THEN
 (ite2 (maxB n)
 -- THEN
 (K (AV.tup [AV.agg [AV.agg [AV.bool Bool.false, AV.b8 32 [0, 0, 0, 0, 0, 0, 0, 0, 0, 0, 0, 0, 0, 0, 0, 0, 0, 0, 0, 0, 0, 0, 0, 0, 0, 0, 0, 0, 0, 0, 0, 0], AV.u64 0], AV.b8 32 [0, 0, 0, 0, 0, 0, 0, 0, 0, 0, 0, 0, 0, 0, 0, 0, 0, 0, 0, 0, 0, 0, 0, 0, 0, 0, 0, 0, 0, 0, 0, 0], AV.b8 32 [0, 0, 0, 0, 0, 0, 0, 0, 0, 0, 0, 0, 0, 0, 0, 0, 0, 0, 0, 0, 0, 0, 0, 0, 0, 0, 0, 0, 0, 0, 0, 0]], AV.vec8 Bool.true [], AV.int IntKind.i64 11]) [])
 -- ELSE
 (cnd (Bool.true && ((Bool.true && (leB (0 + (x1 + 16)) (List.length x2))) && Bool.true))
 (cnd (leB (x0 + (List.length x3)) 1000000)
 (K (AV.tup [AV.agg [AV.bool Bool.true, AV.b8 32 ck, AV.u64 (n + 1), AV.b8 32 chain, AV.b8 32 (Bla.sumS (hash ++ x3))], AV.sl 0 0 1 (x1 + 16), AV.int IntKind.i64 0]) [Ent.grow8 x2 []]))))
 -- ELSE
 (ite2 (nilC ck n)
 -- THEN
 (cnd (Bool.true && ((Bool.true && (leB (0 + x1) x1)) && Bool.true))
 (cnd (leB (x0 + (List.length x4)) 1000000)
 (K (AV.tup [AV.agg [AV.bool Bool.false, AV.b8 32 ck, AV.u64 n, AV.b8 32 chain, AV.b8 32 (Bla.sumS (hash ++ x4))], AV.sl 0 0 1 x1, AV.int IntKind.i64 0]) [Ent.grow8 b []])))
 -- ELSE
 (K (AV.tup [AV.agg [AV.agg [AV.bool Bool.false, AV.b8 32 [0, 0, 0, 0, 0, 0, 0, 0, 0, 0, 0, 0, 0, 0, 0, 0, 0, 0, 0, 0, 0, 0, 0, 0, 0, 0, 0, 0, 0, 0, 0, 0], AV.u64 0], AV.b8 32 [0, 0, 0, 0, 0, 0, 0, 0, 0, 0, 0, 0, 0, 0, 0, 0, 0, 0, 0, 0, 0, 0, 0, 0, 0, 0, 0, 0, 0, 0, 0, 0], AV.b8 32 [0, 0, 0, 0, 0, 0, 0, 0, 0, 0, 0, 0, 0, 0, 0, 0, 0, 0, 0, 0, 0, 0, 0, 0, 0, 0, 0, 0, 0, 0, 0, 0]], AV.vec8 Bool.true [], AV.int IntKind.i64 9]) [])))) := by kernel_rfl

theorem yopen_eq (chain hash ck b : List UInt8) (has fb : Bool) (n : UInt64) (K : AV → Heap → Prop) : walk Tryd.E RQ Y3.C (fun f l => .unroll 5) 5 19 [.agg [.bool has, .b8 32 ck, .u64 n, .b8 32 chain, .b8 32 hash], .vec8 fb b] K = (
 let x0 : Nat := (List.length b)
 let x1 : Nat := (List.length hash)
 let x2 : Bool := leB (x1 + x0) 1000000
 cnd ((leB x0 1000000000) && (has || (Bool.not (ltB 800 x0))))
 (ite2 (has)
 -- THEN
 (ite2 (maxB n)
 -- THEN
 (K (AV.tup [AV.agg [AV.agg [AV.bool Bool.false, AV.b8 32 [0, 0, 0, 0, 0, 0, 0, 0, 0, 0, 0, 0, 0, 0, 0, 0, 0, 0, 0, 0, 0, 0, 0, 0, 0, 0, 0, 0, 0, 0, 0, 0], AV.u64 0], AV.b8 32 [0, 0, 0, 0, 0, 0, 0, 0, 0, 0, 0, 0, 0, 0, 0, 0, 0, 0, 0, 0, 0, 0, 0, 0, 0, 0, 0, 0, 0, 0, 0, 0], AV.b8 32 [0, 0, 0, 0, 0, 0, 0, 0, 0, 0, 0, 0, 0, 0, 0, 0, 0, 0, 0, 0, 0, 0, 0, 0, 0, 0, 0, 0, 0, 0, 0, 0]], AV.vec8 Bool.true [], AV.int IntKind.i64 11]) [])
 -- ELSE
 (ite2 ((ltB 200 x1) || (ltB 816 x0))
 -- THEN
 (K (AV.tup [AV.agg [AV.agg [AV.bool Bool.false, AV.b8 32 [0, 0, 0, 0, 0, 0, 0, 0, 0, 0, 0, 0, 0, 0, 0, 0, 0, 0, 0, 0, 0, 0, 0, 0, 0, 0, 0, 0, 0, 0, 0, 0], AV.u64 0], AV.b8 32 [0, 0, 0, 0, 0, 0, 0, 0, 0, 0, 0, 0, 0, 0, 0, 0, 0, 0, 0, 0, 0, 0, 0, 0, 0, 0, 0, 0, 0, 0, 0, 0], AV.b8 32 [0, 0, 0, 0, 0, 0, 0, 0, 0, 0, 0, 0, 0, 0, 0, 0, 0, 0, 0, 0, 0, 0, 0, 0, 0, 0, 0, 0, 0, 0, 0, 0]], AV.vec8 Bool.true [], AV.int IntKind.i64 1]) [])
 -- ELSE
 (ite2 (ltB x0 16)
 -- THEN
 (K (AV.tup [AV.agg [AV.agg [AV.bool Bool.false, AV.b8 32 [0, 0, 0, 0, 0, 0, 0, 0, 0, 0, 0, 0, 0, 0, 0, 0, 0, 0, 0, 0, 0, 0, 0, 0, 0, 0, 0, 0, 0, 0, 0, 0], AV.u64 0], AV.b8 32 [0, 0, 0, 0, 0, 0, 0, 0, 0, 0, 0, 0, 0, 0, 0, 0, 0, 0, 0, 0, 0, 0, 0, 0, 0, 0, 0, 0, 0, 0, 0, 0], AV.b8 32 [0, 0, 0, 0, 0, 0, 0, 0, 0, 0, 0, 0, 0, 0, 0, 0, 0, 0, 0, 0, 0, 0, 0, 0, 0, 0, 0, 0, 0, 0, 0, 0]], AV.vec8 Bool.true [], AV.int IntKind.i64 4]) [])
 -- ELSE
 (ite2 (badS ck (cnonceS n) hash b)
 -- THEN
 (K (AV.tup [AV.agg [AV.agg [AV.bool Bool.false, AV.b8 32 [0, 0, 0, 0, 0, 0, 0, 0, 0, 0, 0, 0, 0, 0, 0, 0, 0, 0, 0, 0, 0, 0, 0, 0, 0, 0, 0, 0, 0, 0, 0, 0], AV.u64 0], AV.b8 32 [0, 0, 0, 0, 0, 0, 0, 0, 0, 0, 0, 0, 0, 0, 0, 0, 0, 0, 0, 0, 0, 0, 0, 0, 0, 0, 0, 0, 0, 0, 0, 0], AV.b8 32 [0, 0, 0, 0, 0, 0, 0, 0, 0, 0, 0, 0, 0, 0, 0, 0, 0, 0, 0, 0, 0, 0, 0, 0, 0, 0, 0, 0, 0, 0, 0, 0]], AV.vec8 Bool.true [], AV.int IntKind.i64 10]) [])
 -- ELSE
 (cnd (x2)
 (K (AV.tup [AV.agg [AV.bool Bool.true, AV.b8 32 ck, AV.u64 (n + 1), AV.b8 32 chain, AV.b8 32 (Bla.sumS (hash ++ b))], AV.sl 0 0 1 (x0 - 16), AV.int IntKind.i64 0]) [Ent.grow8 (plainS ck (cnonceS n) b) []]))))))
 -- ELSE
 (ite2 (nilC ck n)
 -- THEN
 (cnd (x2)
 (K (AV.tup [AV.agg [AV.bool Bool.false, AV.b8 32 ck, AV.u64 n, AV.b8 32 chain, AV.b8 32 (Bla.sumS (hash ++ b))], AV.sl 0 0 1 x0, AV.int IntKind.i64 0]) [Ent.grow8 b []]))
 -- ELSE
 (K (AV.tup [AV.agg [AV.agg [AV.bool Bool.false, AV.b8 32 [0, 0, 0, 0, 0, 0, 0, 0, 0, 0, 0, 0, 0, 0, 0, 0, 0, 0, 0, 0, 0, 0, 0, 0, 0, 0, 0, 0, 0, 0, 0, 0], AV.u64 0], AV.b8 32 [0, 0, 0, 0, 0, 0, 0, 0, 0, 0, 0, 0, 0, 0, 0, 0, 0, 0, 0, 0, 0, 0, 0, 0, 0, 0, 0, 0, 0, 0, 0, 0], AV.b8 32 [0, 0, 0, 0, 0, 0, 0, 0, 0, 0, 0, 0, 0, 0, 0, 0, 0, 0, 0, 0, 0, 0, 0, 0, 0, 0, 0, 0, 0, 0, 0, 0]], AV.vec8 Bool.true [], AV.int IntKind.i64 9]) [])))) := by kernel_rfl

end Go.Proofs.YtdipeoacmapehaaDoor

set_option linter.unusedSimpArgs false
set_option linter.unusedVariables false
namespace Go.Proofs.YtdipeoacmapehaaDoor
open Go Go.V Go.Fld Go.Pol Go.Cha
theorem bad_seal (k n a t : List UInt8) : badS k n a (sealS k n a t) = false := by
  rw [badS_eq]; unfold badF
  rw [length_sealS, Nat.add_sub_cancel, sealS_eq]; unfold sealF
  rw [List.drop_left' (length_streamS ..), List.take_left' (length_streamS ..), beq_self_eq_true]; rfl
theorem plain_seal (k n a t : List UInt8) : plainS k n (sealS k n a t) = t := by
  rw [plainS_eq]; unfold plainF
  rw [length_sealS, Nat.add_sub_cancel, sealS_eq]; unfold sealF
  rw [List.take_left' (length_streamS ..), streamS_twice]
end Go.Proofs.YtdipeoacmapehaaDoor
