import Derived.Test.YtehaohfglolljaaGreatDoorZzag
import Derived.Test.YtehaohfglolljaaGreatDoorZzah
import Derived.Test.YtehaohfglolljaaGreatDoorZzab
import Derived.Test.YtehaohfglolljaaGreatDoorZzac
import Derived.Test.YtehaohfglolljaaGreatDoorZzaf
noncomputable section
set_option linter.unusedSimpArgs false
set_option linter.unusedVariables false
namespace Go.Proofs.YtehaohfglolljaaGreatDoor
open Go Go.V Go.Cha
set_option maxRecDepth 100000
noncomputable abbrev RS := ROps.std Tryz.E
noncomputable abbrev T0 := Ctr.nil Tryz.E
theorem z1fq (x : UInt32) (K : AV → Heap → Prop) : walk Tryz.E RS T0.C (fun _ _ => .unroll 6) 3 119 [.u32 x, .int .i64 (16)] K = K (.u32 (z4c x 16 16)) [] := by kernel_rfl
theorem z1gt (x : UInt32) : HCall Tryz.E 119 [.u32 x, .int .i64 (16)] (.ret (.u32 (z4c x 16 16)) []) := by
 refine HCall.z1lg (R := RS) (T := T0) (fun _ _ => .unroll 6) 3 rfl rfl ?_
 rw [z1fq];exact ⟨rfl, rfl⟩
theorem z1ha (x : UInt32) (K : AV → Heap → Prop) : walk Tryz.E RS T0.C (fun _ _ => .unroll 6) 3 119 [.u32 x, .int .i64 (12)] K = K (.u32 (z4c x 12 20)) [] := by kernel_rfl
theorem z1ft (x : UInt32) : HCall Tryz.E 119 [.u32 x, .int .i64 (12)] (.ret (.u32 (z4c x 12 20)) []) := by
 refine HCall.z1lg (R := RS) (T := T0) (fun _ _ => .unroll 6) 3 rfl rfl ?_
 rw [z1ha];exact ⟨rfl, rfl⟩
theorem z1gk (x : UInt32) (K : AV → Heap → Prop) : walk Tryz.E RS T0.C (fun _ _ => .unroll 6) 3 119 [.u32 x, .int .i64 (8)] K = K (.u32 (z4c x 8 24)) [] := by kernel_rfl
theorem z1is (x : UInt32) : HCall Tryz.E 119 [.u32 x, .int .i64 (8)] (.ret (.u32 (z4c x 8 24)) []) := by
 refine HCall.z1lg (R := RS) (T := T0) (fun _ _ => .unroll 6) 3 rfl rfl ?_
 rw [z1gk];exact ⟨rfl, rfl⟩
theorem z1i8 (x : UInt32) (K : AV → Heap → Prop) : walk Tryz.E RS T0.C (fun _ _ => .unroll 6) 3 119 [.u32 x, .int .i64 (7)] K = K (.u32 (z4c x 7 25)) [] := by kernel_rfl
theorem z1i3 (x : UInt32) : HCall Tryz.E 119 [.u32 x, .int .i64 (7)] (.ret (.u32 (z4c x 7 25)) []) := by
 refine HCall.z1lg (R := RS) (T := T0) (fun _ _ => .unroll 6) 3 rfl rfl ?_
 rw [z1i8];exact ⟨rfl, rfl⟩
theorem z1hd (x : UInt32) (K : AV → Heap → Prop) : walk Tryz.E RS T0.C (fun _ _ => .unroll 6) 3 119 [.u32 x, .int .i64 (-16)] K = K (.u32 (z4c x 16 16)) [] := by kernel_rfl
theorem z1h1 (x : UInt32) : HCall Tryz.E 119 [.u32 x, .int .i64 (-16)] (.ret (.u32 (z4c x 16 16)) []) := by
 refine HCall.z1lg (R := RS) (T := T0) (fun _ _ => .unroll 6) 3 rfl rfl ?_
 rw [z1hd];exact ⟨rfl, rfl⟩
theorem z1g9 (x : UInt32) (K : AV → Heap → Prop) : walk Tryz.E RS T0.C (fun _ _ => .unroll 6) 3 119 [.u32 x, .int .i64 (-12)] K = K (.u32 (z4c x 20 12)) [] := by kernel_rfl
theorem z1ew (x : UInt32) : HCall Tryz.E 119 [.u32 x, .int .i64 (-12)] (.ret (.u32 (z4c x 20 12)) []) := by
 refine HCall.z1lg (R := RS) (T := T0) (fun _ _ => .unroll 6) 3 rfl rfl ?_
 rw [z1g9];exact ⟨rfl, rfl⟩
theorem z1f0 (x : UInt32) (K : AV → Heap → Prop) : walk Tryz.E RS T0.C (fun _ _ => .unroll 6) 3 119 [.u32 x, .int .i64 (-8)] K = K (.u32 (z4c x 24 8)) [] := by kernel_rfl
theorem z1ih (x : UInt32) : HCall Tryz.E 119 [.u32 x, .int .i64 (-8)] (.ret (.u32 (z4c x 24 8)) []) := by
 refine HCall.z1lg (R := RS) (T := T0) (fun _ _ => .unroll 6) 3 rfl rfl ?_
 rw [z1f0];exact ⟨rfl, rfl⟩
theorem z1i4 (x : UInt32) (K : AV → Heap → Prop) : walk Tryz.E RS T0.C (fun _ _ => .unroll 6) 3 119 [.u32 x, .int .i64 (-7)] K = K (.u32 (z4c x 25 7)) [] := by kernel_rfl
theorem z1gl (x : UInt32) : HCall Tryz.E 119 [.u32 x, .int .i64 (-7)] (.ret (.u32 (z4c x 25 7)) []) := by
 refine HCall.z1lg (R := RS) (T := T0) (fun _ _ => .unroll 6) 3 rfl rfl ?_
 rw [z1i4];exact ⟨rfl, rfl⟩
def T1 : Ctr Tryz.E := T0.add 119 (fun
  | [.u32 x, .int .i64 k] => bif k == 16 then some (true, .ret (.u32 (z4c x 16 16)) []) else bif k == 12 then some (true, .ret (.u32 (z4c x 12 20)) []) else bif k == 8 then some (true, .ret (.u32 (z4c x 8 24)) []) else bif k == 7 then some (true, .ret (.u32 (z4c x 7 25)) []) else bif k == -16 then some (true, .ret (.u32 (z4c x 16 16)) []) else bif k == -12 then some (true, .ret (.u32 (z4c x 20 12)) []) else bif k == -8 then some (true, .ret (.u32 (z4c x 24 8)) []) else bif k == -7 then some (true, .ret (.u32 (z4c x 25 7)) []) else none
  | _ => none) (by
   intro args pre out h hp
   split at h
   ·rename_i x k
    by_cases h0 : k = 16
    ·subst h0;simp only [beq_self_eq_true, cond_true, Int.reduceBEq, Int.reduceNeg, cond_false, Option.some.injEq, Prod.mk.injEq] at h;obtain ⟨rfl, rfl⟩ := h;exact z1gt _
    by_cases h1 : k = 12
    ·subst h1;simp only [beq_self_eq_true, cond_true, Int.reduceBEq, Int.reduceNeg, cond_false, Option.some.injEq, Prod.mk.injEq] at h;obtain ⟨rfl, rfl⟩ := h;exact z1ft _
    by_cases h2 : k = 8
    ·subst h2;simp only [beq_self_eq_true, cond_true, Int.reduceBEq, Int.reduceNeg, cond_false, Option.some.injEq, Prod.mk.injEq] at h;obtain ⟨rfl, rfl⟩ := h;exact z1is _
    by_cases h3 : k = 7
    ·subst h3;simp only [beq_self_eq_true, cond_true, Int.reduceBEq, Int.reduceNeg, cond_false, Option.some.injEq, Prod.mk.injEq] at h;obtain ⟨rfl, rfl⟩ := h;exact z1i3 _
    by_cases h4 : k = -16
    ·subst h4;simp only [beq_self_eq_true, cond_true, Int.reduceBEq, Int.reduceNeg, cond_false, Option.some.injEq, Prod.mk.injEq] at h;obtain ⟨rfl, rfl⟩ := h;exact z1h1 _
    by_cases h5 : k = -12
    ·subst h5;simp only [beq_self_eq_true, cond_true, Int.reduceBEq, Int.reduceNeg, cond_false, Option.some.injEq, Prod.mk.injEq] at h;obtain ⟨rfl, rfl⟩ := h;exact z1ew _
    by_cases h6 : k = -8
    ·subst h6;simp only [beq_self_eq_true, cond_true, Int.reduceBEq, Int.reduceNeg, cond_false, Option.some.injEq, Prod.mk.injEq] at h;obtain ⟨rfl, rfl⟩ := h;exact z1ih _
    by_cases h7 : k = -7
    ·subst h7;simp only [beq_self_eq_true, cond_true, Int.reduceBEq, Int.reduceNeg, cond_false, Option.some.injEq, Prod.mk.injEq] at h;obtain ⟨rfl, rfl⟩ := h;exact z1gl _
    simp only [beq_eq_false_iff_ne.2 h0, beq_eq_false_iff_ne.2 h1, beq_eq_false_iff_ne.2 h2, beq_eq_false_iff_ne.2 h3, beq_eq_false_iff_ne.2 h4, beq_eq_false_iff_ne.2 h5, beq_eq_false_iff_ne.2 h6, beq_eq_false_iff_ne.2 h7, cond_false, reduceCtorEq] at h
   ·simp at h)
def zjf (key nonce : List UInt8) (c : UInt32) (n : Nat) : List AV :=
 [.b8 32 key, .u32 c, .b8 12 nonce, .ptr 0 0, .any, .ptr 1 0, .ptr 2 0, .ptr 3 0, .any, .any, .ptr 4 0] ++ List.replicate 31 .any ++ [.int .i64 n] ++ List.replicate 58 .any
def ziv (key nonce : List UInt8) (c : UInt32) (n : Nat) : Heap :=
 [.blk [.b8 32 key] [], .blk [.b8 12 nonce] [], .blk [.b8 64 (List.replicate 64 0)] [], .blk [.w32 16 (zg4 (startS key c nonce) n)] [], .blk [.w32 16 (startS key c nonce)] []]
end Go.Proofs.YtehaohfglolljaaGreatDoor
namespace Go.Proofs.YtehaohfglolljaaGreatDoor
open Go Go.V Go.Cha Go.Bla
def zgh (held : List UInt8) (v : List UInt32) : FuncId → Nat → LPlan := fun f l =>
 bif f == 97 && l == 3 then .rel [0, 1, 2, 4, 5] [] Nat (fun _ i => i ≤ 16) (fun i => 16 - i) (fun i => [(17, .int .i64 (i : Nat))]) (fun i => [(2, .blk [.w32 16 (z2q held i)] [])])
 else bif f == 97 && l == 22 then .rel [0, 1, 2, 4, 5, 8, 10, 77] [] Nat (fun _ n => n ≤ 10) (fun n => 10 - n) (fun n => [(78, .int .i64 (n : Nat))]) (fun n => [(3, .blk [.w32 16 (z50 (z2q held 16) v n)] [])])
 else .unroll 17
set_option maxHeartbeats 0
set_option maxRecDepth 100000
def sqA (h : List UInt32) (held : List UInt8) (n len : Int) : List AV := [.w32 8 h, .b8 64 held, .int .i64 n, .int .i64 len]
def sqT (h : List UInt32) (held : List UInt8) (n len : Int) (last : Bool) (k : Int) : List AV := [.agg (sqA h held n len), .bool last, .ptr 0 0, .any, .ptr 1 0, .ptr 2 0] ++ List.replicate 11 .any ++ [.int .i64 k] ++ List.replicate 143 .any
def sqH (h : List UInt32) (held : List UInt8) (n len : Int) (m : List UInt32) : Heap := [.blk (sqA h held n len) [], .blk [.w32 8 [0, 0, 0, 0, 0, 0, 0, 0]] [], .blk [.w32 16 m] []]
def sqU (h : List UInt32) (held : List UInt8) (n len : Int) (last : Bool) (k : Int) : List AV := [.agg (sqA h held n len), .bool last, .ptr 0 0, .any, .ptr 1 0, .ptr 2 0, .any, .any, .ptr 3 0, .any, .fn (.func 118) [] [.ptr 3 0]] ++ List.replicate 66 .any ++ [.n64 160 ordersL, .int .i64 k] ++ List.replicate 82 .any
def sqI (h : List UInt32) (held : List UInt8) (n len : Int) (m v : List UInt32) : Heap := [.blk (sqA h held n len) [], .blk [.w32 8 [0, 0, 0, 0, 0, 0, 0, 0]] [], .blk [.w32 16 m] [], .blk [.w32 16 v] []]
def zas (i k : Int) : Bool := inB (wr .i64 (wr .i64 (4 * i) + k)) 64
def z83 (held : List UInt8) (i k : Int) (j : Nat) (l : List UInt32) : List UInt32 := l.set j (z9i (l.getD j 0) 8 ||| (held.getD (Int.toNat (wr .i64 (wr .i64 (4 * i) + k))) 0).toUInt32)
def sqP (h : List UInt32) (held : List UInt8) (n len : Int) (last : Bool) (K : AV → Heap → Prop) : Prop :=
 ((∃ a : Nat, a ≤ 16 ∧ leS 3 ⟨sqT h held n len last 0, sqH h held n len [0, 0, 0, 0, 0, 0, 0, 0, 0, 0, 0, 0, 0, 0, 0, 0]⟩ (sqT h held n len last (a : Int)) (sqH h held n len (z2q held a))) ∧
  ∀ a : Nat, a ≤ 16 → za (ltI (a : Int) 16)
   (cnd (inB (a : Int) 16) (cnd (zas a 3) (cnd (inB (a : Int) 16) (cnd (inB (a : Int) 16) (cnd (zas a 2) (cnd (inB (a : Int) 16) (cnd (inB (a : Int) 16) (cnd (zas a 1) (cnd (inB (a : Int) 16) (cnd (inB (a : Int) 16) (cnd (zas a 0) (cnd (inB (a : Int) 16)
    (∃ b : Nat, (16 - b < 16 - a ∧ b ≤ 16) ∧ leS 3 ⟨sqT h held n len last (wr .i64 ((a : Int) + 1)), sqH h held n len (z83 held a 0 a (z83 held a 1 a (z83 held a 2 a (z83 held a 3 a (z2q held a)))))⟩ (sqT h held n len last (b : Int)) (sqH h held n len (z2q held b)))))))))))))))
   ((∃ r : Nat, r ≤ 10 ∧ leS 4 ⟨sqU h held n len last 0, sqI h held n len (z2q held a) (z8b h len last)⟩ (sqU h held n len last (r : Int)) (sqI h held n len (z2q held a) (z50 (z2q held 16) (z8b h len last) r))) ∧
   ∀ r : Nat, r ≤ 10 → za (ltI (r : Int) 10)
    (cnd (inB (r : Int) 10 && true) (cnd (cB r 0) (cnd (cB r 1) (cnd (cB r 2) (cnd (cB r 3) (cnd (cB r 4) (cnd (cB r 5) (cnd (cB r 6) (cnd (cB r 7) (cnd (cB r 8) (cnd (cB r 9) (cnd (cB r 10) (cnd (cB r 11) (cnd (cB r 12) (cnd (cB r 13) (cnd (cB r 14) (cnd (cB r 15) ((∃ b : Nat, (10 - b < 10 - r ∧ b ≤ 10) ∧ leS 4 ⟨sqU h held n len last (wr .i64 ((r : Int) + 1)), sqI h held n len (z2q held a) (zok (z2q held a) r (z50 (z2q held 16) (z8b h len last) r))⟩ (sqU h held n len last (b : Int)) (sqI h held n len (z2q held a) (z50 (z2q held 16) (z8b h len last) b)))))))))))))))))))))
    (K (.w32 8 (outB h (z50 (z2q held 16) (z8b h len last) r))) [])))
theorem z10w (h : List UInt32) (held : List UInt8) (n len : Int) (K : AV → Heap → Prop) : walk Tryz.E RS T1.C (zgh held (z8b h len true)) 5 97 [.agg [.w32 8 h, .b8 64 held, .int .i64 n, .int .i64 len], .bool true] K = sqP h held n len true K := by kernel_rfl
theorem z11q (h : List UInt32) (held : List UInt8) (n len : Int) (K : AV → Heap → Prop) : walk Tryz.E RS T1.C (zgh held (z8b h len false)) 5 97 [.agg [.w32 8 h, .b8 64 held, .int .i64 n, .int .i64 len], .bool false] K = sqP h held n len false K := by kernel_rfl
theorem z170 (h : List UInt32) (held : List UInt8) (n len : Int) (last : Bool) (k : Int) (m : List UInt32) : leS 3 ⟨sqT h held n len last k, sqH h held n len m⟩ (sqT h held n len last k) (sqH h held n len m) :=
 ⟨rfl, rfl, rfl, rfl, rfl, rfl, rfl, rfl, rfl, trivial⟩
theorem z14n (h : List UInt32) (held : List UInt8) (n len : Int) (last : Bool) (k : Int) (m v : List UInt32) : leS 4 ⟨sqU h held n len last k, sqI h held n len m v⟩ (sqU h held n len last k) (sqI h held n len m v) :=
 ⟨rfl, rfl, rfl, rfl, rfl, rfl, rfl, rfl, rfl, rfl, rfl, rfl, trivial⟩
theorem z11x (held : List UInt8) (a : Nat) (ha : a < 16) : z83 held a 0 a (z83 held a 1 a (z83 held a 2 a (z83 held a 3 a (z2q held a)))) = z2q held (a + 1) := by
 have hl := zs0 held a;have h0 := z13u held (Nat.le_refl a);have ix : ∀ k : Nat, k ≤ 3 → Int.toNat (wr .i64 (wr .i64 (4 * (a : Int)) + (k : Int))) = 4 * a + k := fun k hk => by
  rw [z2f (z := 4 * (a : Int)) (by omega) (by omega), z2f (by omega) (by omega)]; omega
 rw [← z10n];unfold z83 z123;rw [h0, show (3 : Int) = ((3 : Nat) : Int) from rfl, show (2 : Int) = ((2 : Nat) : Int) from rfl, show (1 : Int) = ((1 : Nat) : Int) from rfl, show (0 : Int) = ((0 : Nat) : Int) from rfl, ix 3 (by decide), ix 2 (by decide), ix 1 (by decide), ix 0 (by decide)]
 rw [zbo (by first | (simp only [List.length_set]; omega) | omega), List.set_set, zbo (by first | (simp only [List.length_set]; omega) | omega), List.set_set, zbo (by first | (simp only [List.length_set]; omega) | omega), List.set_set]
 rfl
theorem zgd {a k : Nat} (ha : a < 16) (hk : k ≤ 3) : zas a k = true := by
 unfold zas;rw [z2f (z := 4 * (a : Int)) (by omega) (by omega), z2f (by omega) (by omega)]
 exact z44 (by omega) (by omega)
theorem z1fb (h : List UInt32) (held : List UInt8) (n len : Int) (last : Bool) :
  ((∃ a : Nat, a ≤ 16 ∧ leS 3 ⟨sqT h held n len last 0, sqH h held n len [0, 0, 0, 0, 0, 0, 0, 0, 0, 0, 0, 0, 0, 0, 0, 0]⟩ (sqT h held n len last (a : Int)) (sqH h held n len (z2q held a))) ∧
   (∀ a : Nat, a < 16 → (∃ b : Nat, (16 - b < 16 - a ∧ b ≤ 16) ∧ leS 3 ⟨sqT h held n len last (wr .i64 ((a : Int) + 1)), sqH h held n len (z83 held a 0 a (z83 held a 1 a (z83 held a 2 a (z83 held a 3 a (z2q held a)))))⟩ (sqT h held n len last (b : Int)) (sqH h held n len (z2q held b)))) ∧
   (∀ m v : List UInt32, ∃ r : Nat, r ≤ 10 ∧ leS 4 ⟨sqU h held n len last 0, sqI h held n len m v⟩ (sqU h held n len last (r : Int)) (sqI h held n len m (z50 m v r))) ∧
   (∀ (m v : List UInt32) (r : Nat), r < 10 → (∃ b : Nat, (10 - b < 10 - r ∧ b ≤ 10) ∧ leS 4 ⟨sqU h held n len last (wr .i64 ((r : Int) + 1)), sqI h held n len m (zok m r (z50 m v r))⟩ (sqU h held n len last (b : Int)) (sqI h held n len m (z50 m v b))))) := by
 refine ⟨⟨0, by omega, ?_⟩, fun a ha => ⟨a + 1, ⟨by omega, by omega⟩, ?_⟩, fun m v => ⟨0, by omega, ?_⟩, fun m v r hr => ⟨r + 1, ⟨by omega, by omega⟩, ?_⟩⟩
 ·rw [z12k]; exact z170 ..
 ·rw [z11x held a ha, z2f (by omega) (by omega)]; exact z170 ..
 ·rw [Bla.rounds_zero]; exact z14n ..
 ·rw [Bla.rounds_succ, z2f (by omega) (by omega)]; exact z14n ..
theorem z1ao (h : List UInt32) (held : List UInt8) (n len : Int) (last : Bool) : ∀ K : AV → Heap → Prop, K (.w32 8 (squeezeS h held len last)) [] → sqP h held n len last K := by
 obtain ⟨p1, p2, p3, p4⟩ := z1fb h held n len last;intro K hK;refine ⟨p1, fun a ha => ?_⟩
 rcases Nat.lt_or_ge a 16 with h1 | h1
 ·rw [z5g (by omega), z44 (by omega) (by omega), show zas a 3 = true from zgd (k := 3) h1 (by decide), show zas a 2 = true from zgd (k := 2) h1 (by decide), show zas a 1 = true from zgd (k := 1) h1 (by decide), show zas a 0 = true from zgd (k := 0) h1 (by decide)]
  exact p2 a h1
 ·obtain rfl : a = 16 := by omega
  rw [z4l (by omega)]
  refine ⟨p3 _ _, fun r hr => ?_⟩
  rcases Nat.lt_or_ge r 10 with h2 | h2
  ·rw [z5g (by omega), z44 (by omega) (by omega)]
   have c := fun i hi => z1iz (i := i) h2 hi
   rw [c 0 (by decide), c 1 (by decide), c 2 (by decide), c 3 (by decide), c 4 (by decide), c 5 (by decide), c 6 (by decide), c 7 (by decide), c 8 (by decide), c 9 (by decide), c 10 (by decide), c 11 (by decide), c 12 (by decide), c 13 (by decide), c 14 (by decide), c 15 (by decide)]
   exact p4 _ _ r h2
  ·obtain rfl : r = 10 := by omega
   rw [z4l (by omega)]
   rw [zx5] at hK;unfold zh5 at hK;rw [← z8x, ← zbu] at hK;exact zq.2 ⟨fun h => Bool.noConfusion h, fun _ => hK⟩
theorem z11p (h : List UInt32) (held : List UInt8) (n len : Int) : HCall Tryz.E 97 [.agg [.w32 8 h, .b8 64 held, .int .i64 n, .int .i64 len], .bool true] (.ret (.w32 8 (squeezeS h held len true)) []) := by
 refine HCall.z1lg (R := RS) (T := T1) (zgh held (z8b h len true)) 5 rfl rfl ?_;exact Eq.mpr (z10w h held n len _) (z1ao h held n len true _ zh2)
theorem z10h (h : List UInt32) (held : List UInt8) (n len : Int) : HCall Tryz.E 97 [.agg [.w32 8 h, .b8 64 held, .int .i64 n, .int .i64 len], .bool false] (.ret (.w32 8 (squeezeS h held len false)) []) := by
 refine HCall.z1lg (R := RS) (T := T1) (zgh held (z8b h len false)) 5 rfl rfl ?_;exact Eq.mpr (z11q h held n len _) (z1ao h held n len false _ zh2)
theorem z15q (h : List UInt32) (held : List UInt8) (n len : Int) : ∀ last : Bool, HCall Tryz.E 97 [.agg [.w32 8 h, .b8 64 held, .int .i64 n, .int .i64 len], .bool last] (.ret (.w32 8 (squeezeS h held len last)) [])
 | true => z11p h held n len
 | false => z10h h held n len
def B1 : Ctr Tryz.E := T1.add 97 (fun
  | [.agg [.w32 8 h, .b8 64 held, .int .i64 _, .int .i64 len], .bool last] => some (true, .ret (.w32 8 (squeezeS h held len last)) [])
  | _ => none) (by
   intro args pre out h hp
   split at h
   ·obtain ⟨rfl, rfl⟩ := spE h;exact z15q ..
   ·simp at h)
theorem z15e (h : List UInt32) (held : List UInt8) (n len : Int) (K : AV → Heap → Prop) : walk Tryz.E (ROps.frz Tryz.E) B1.C (fun _ l => bif l == 4 then Inv.count [47, 48] 48 49 else .unroll 17) 5 96 [.agg [.w32 8 h, .b8 64 held, .int .i64 n, .int .i64 len]] K = (
 let x0 : List UInt8 := (zx (Option.some n) Option.none held)
 let x1 : Nat := x0.length
 let x2 : Int := (x1 : Int)
 let x3 : List (Nat × Nat) := [((0 + 8) + (loN (Option.some n)), (0 + 8) + (hiN 64 Option.none))]
 let u0 := (true && (z1d (Option.some n) Option.none 64))
 za (ltI n 0)
 (K (.int .i64 9) [])
 (za (cond false true (ltI 64 n))
 (K (.int .i64 9) [])
 (za (cond false true (ltI len n))
 (K (.int .i64 9) [])
 (za (cond false true (ltI 1073741824 len))
 (K (.int .i64 9) [])
 (za (cond false true ((Int.tmod (wr .i64 (z6r len n)) 64) != 0))
 (K (.int .i64 9) [])
 (za (n == 0)
 (za (cond false true (cond true (ltI 0 len) false))
 (K (.int .i64 9) [])
 (cnd u0
 ((∃ w0 : Nat, (Inv.upTo [.int .i64 x2] w0) ∧ ((AV.vec8 false x0 = .vec8 false x0) ∧ ((AV.int .i64 x2 = .int .i64 x2) ∧ ((AV.int .i64 0 = .int .i64 (w0 : Int)) ∧ cnd (eqF x3 x3)
 ((AV.w32 8 h = .w32 8 h) ∧ ((AV.b8 64 held = .b8 64 held) ∧ ((AV.int .i64 n = .int .i64 n) ∧ ((AV.int .i64 len = .int .i64 len) ∧ True)))))))) ∧ (∀ w1 : Nat, (Inv.upTo [.int .i64 x2] w1 → za (ltI (w1 : Int) x2)
 (cnd ((inB (w1 : Int) x1) && true)
 (cnd (leB (0 + x1) x1)
 (za ((((UInt8.toNat (List.getD x0 (ofs 0 (w1 : Int)) 0)) : Nat) : Int) != 0)
 (K (.int .i64 9) [])
 ((∃ w2 : Nat, (((Inv.up w2) < (Inv.up w1)) ∧ (Inv.upTo [.int .i64 x2] w2)) ∧ ((AV.vec8 false x0 = .vec8 false x0) ∧ ((AV.int .i64 x2 = .int .i64 x2) ∧ ((AV.int .i64 (wr .i64 ((w1 : Int) + 1)) = .int .i64 (w2 : Int)) ∧ cnd (eqF x3 x3)
 ((AV.w32 8 h = .w32 8 h) ∧ ((AV.b8 64 held = .b8 64 held) ∧ ((AV.int .i64 n = .int .i64 n) ∧ ((AV.int .i64 len = .int .i64 len) ∧ True))))))))))))
 (K (.int .i64 0) []))))))
 (cnd u0
 ((∃ w3 : Nat, (Inv.upTo [.int .i64 x2] w3) ∧ ((AV.vec8 false x0 = .vec8 false x0) ∧ ((AV.int .i64 x2 = .int .i64 x2) ∧ ((AV.int .i64 0 = .int .i64 (w3 : Int)) ∧ cnd (eqF x3 x3)
 ((AV.w32 8 h = .w32 8 h) ∧ ((AV.b8 64 held = .b8 64 held) ∧ ((AV.int .i64 n = .int .i64 n) ∧ ((AV.int .i64 len = .int .i64 len) ∧ True)))))))) ∧ (∀ w4 : Nat, (Inv.upTo [.int .i64 x2] w4 → za (ltI (w4 : Int) x2)
 (cnd ((inB (w4 : Int) x1) && true)
 (cnd (leB (0 + x1) x1)
 (za ((((UInt8.toNat (List.getD x0 (ofs 0 (w4 : Int)) 0)) : Nat) : Int) != 0)
 (K (.int .i64 9) [])
 ((∃ w5 : Nat, (((Inv.up w5) < (Inv.up w4)) ∧ (Inv.upTo [.int .i64 x2] w5)) ∧ ((AV.vec8 false x0 = .vec8 false x0) ∧ ((AV.int .i64 x2 = .int .i64 x2) ∧ ((AV.int .i64 (wr .i64 ((w4 : Int) + 1)) = .int .i64 (w5 : Int)) ∧ cnd (eqF x3 x3)
 ((AV.w32 8 h = .w32 8 h) ∧ ((AV.b8 64 held = .b8 64 held) ∧ ((AV.int .i64 n = .int .i64 n) ∧ ((AV.int .i64 len = .int .i64 len) ∧ True))))))))))))
 (K (.int .i64 0) []))))))))))) := by kernel_rfl
theorem z17k (K : AV → Heap → Prop) : walk Tryz.E RS B1.C (fun _ l => .unroll 17) 5 67 [] K = K (.agg [.w32 8 (iv.set 0 1795745351), .b8 64 zdm, .int .i64 0, .int .i64 0]) [] := by kernel_rfl
theorem z17n : HCall Tryz.E 67 [] (.ret (.agg [.w32 8 startS.h, .b8 64 startS.held, .int .i64 ((startS.n : Nat) : Int), .int .i64 ((startS.len : Nat) : Int)]) []) := by
 refine HCall.z1lg (R := RS) (T := B1) (fun _ _ => .unroll 17) 5 rfl rfl ?_
 rw [z17k];exact ⟨rfl, rfl⟩
theorem zu8 : ∀ x : List (Nat × Nat), eqF x x = true
 | [] => rfl
 | (a, b) :: r => by simp [eqF, zu8 r]
theorem z19x (h : List UInt32) (held : List UInt8) (n len : Int) (o : okP held n len) : HCall Tryz.E 96 [.agg [.w32 8 h, .b8 64 held, .int .i64 n, .int .i64 len]] (.ret (.int .i64 0) []) := by
 refine HCall.z1lm rfl rfl fun hl => ?_
 have hh : held.length = 64 := hl (.agg _) (List.mem_cons_self ..) (.b8 64 held) (by simp)
 clear hl;refine HCall.z1lg (R := ROps.frz Tryz.E) (T := B1) (fun _ l => bif l == 4 then Inv.count [47, 48] 48 49 else .unroll 17) 5 rfl rfl ?_
 rw [z15e];obtain ⟨p1, p2, p3, p4, p5, p6, p7⟩ := o;have e5 : z1d (some n) none 64 = true := by
  show (nnB _ && leB (Int.toNat _) _) = true;rw [z3e.2 p1, zp (by omega)]; rfl
 have e6 : zx (some n) none held = held.drop n.toNat := rfl;have e7 : (Int.tmod (wr .i64 (z6r len n)) 64 != 0) = false := by
  rw [z4p, z2f (by omega) (by omega), Int.tmod_eq_emod_of_nonneg (by omega), p5]; rfl
 dsimp only;rw [e5, e6, e7, z4l (x := n) (by omega), z4l (x := 64) (by omega), z4l (x := len) (by omega), z4l (x := 1073741824) (by omega), zu8]
 have hl : (held.drop n.toNat).length = 64 - n.toNat := by rw [List.length_drop, hh]
 have hz : ∀ i, (held.drop n.toNat).getD i 0 = 0 := fun i => by
  rw [List.getD_eq_getElem?_getD, List.getElem?_drop, ← List.getD_eq_getElem?_getD];exact p7 _ (by omega)
 generalize held.drop n.toNat = l at *;have go : (∃ w0 : Nat, Inv.upTo [AV.int .i64 ((l.length : Nat) : Int)] w0 ∧ ((AV.vec8 false l = AV.vec8 false l) ∧ ((AV.int .i64 ((l.length : Nat) : Int) = AV.int .i64 ((l.length : Nat) : Int)) ∧ ((AV.int .i64 0 = AV.int .i64 ((w0 : Nat) : Int)) ∧ cnd true ((AV.w32 8 h = AV.w32 8 h) ∧ ((AV.b8 64 held = AV.b8 64 held) ∧ ((AV.int .i64 n = AV.int .i64 n) ∧ ((AV.int .i64 len = AV.int .i64 len) ∧ True)))))))) ∧ (∀ w1 : Nat, (Inv.upTo [AV.int .i64 ((l.length : Nat) : Int)] w1 → za (ltI ((w1 : Nat) : Int) ((l.length : Nat) : Int))
 (cnd ((inB ((w1 : Nat) : Int) l.length) && true)
 (cnd (leB (0 + l.length) l.length)
 (za ((((UInt8.toNat (List.getD l (ofs 0 ((w1 : Nat) : Int)) 0)) : Nat) : Int) != 0)
 ((Out.ret (AV.int .i64 0) []).has (AV.int .i64 9) [])
 ((∃ w2 : Nat, (((Inv.up w2) < (Inv.up w1)) ∧ (Inv.upTo [AV.int .i64 ((l.length : Nat) : Int)] w2)) ∧ ((AV.vec8 false l = AV.vec8 false l) ∧ ((AV.int .i64 ((l.length : Nat) : Int) = AV.int .i64 ((l.length : Nat) : Int)) ∧ ((AV.int .i64 (wr .i64 (((w1 : Nat) : Int) + 1)) = AV.int .i64 ((w2 : Nat) : Int)) ∧ cnd true ((AV.w32 8 h = AV.w32 8 h) ∧ ((AV.b8 64 held = AV.b8 64 held) ∧ ((AV.int .i64 n = AV.int .i64 n) ∧ ((AV.int .i64 len = AV.int .i64 len) ∧ True))))))))))))
 ((Out.ret (AV.int .i64 0) []).has (AV.int .i64 0) []))) := by
  refine ⟨⟨0, by rw [Inv.upTo_int]; omega, rfl, rfl, rfl, rfl, rfl, rfl, rfl, trivial⟩, fun w1 hi => ?_⟩
  rw [Inv.upTo_int] at hi;rcases Nat.lt_or_ge w1 l.length with h1 | h1
  ·rw [z5g (by omega), z44 (by omega) (by omega), zp (by omega), hz, z2f (by omega) (by omega)]
   exact ⟨w1 + 1, ⟨Inv.up_lt (by omega), by rw [Inv.upTo_int]; omega⟩, rfl, rfl, rfl, rfl, rfl, rfl, rfl, trivial⟩
  ·rw [z4l (by omega)]
   exact zq.2 ⟨fun h => Bool.noConfusion h, fun _ => ⟨rfl, rfl⟩⟩
 by_cases hn : n = 0
 ·subst hn;have := p6 rfl;subst this;exact go
 ·have : (n == 0) = false := beq_eq_false_iff_ne.2 hn;rw [this];exact go
def B2 : Ctr Tryz.E := (B1.add 67 (fun
  | [] => some (true, .ret (.agg [.w32 8 startS.h, .b8 64 startS.held, .int .i64 ((startS.n : Nat) : Int), .int .i64 ((startS.len : Nat) : Int)]) [])
  | _ => none) (by
   intro args pre out h hp
   split at h
   ·obtain ⟨rfl, rfl⟩ := spE h;exact z17n
   ·simp at h)).add 96 (fun
  | [.agg [.w32 8 _, .b8 64 held, .int .i64 n, .int .i64 len]] => some (okS held n len, .ret (.int .i64 0) [])
  | _ => none) (by
   intro args pre out h hp
   split at h
   ·obtain ⟨rfl, rfl⟩ := spE h;exact z19x _ _ _ _ (z66.1 hp)
   ·simp at h)
def z1ar (s : BS) (b : List UInt8) : LPlan := .rel [2, 4, 22, 23] [23] Nat Inv.upTo Inv.up (fun i => [(24, .int .i64 (i : Nat))])
 (fun i => [(0, .blk [.w32 8 (addB s (b.take i)).h, .b8 64 (addB s (b.take i)).held, .int .i64 (((addB s (b.take i)).n : Nat) : Int), .int .i64 (((addB s (b.take i)).len : Nat) : Int)] [])])
theorem z1d8 (s : BS) (full : Bool) (b : List UInt8) (K : AV → Heap → Prop) : walk Tryz.E RS B2.C (fun _ l => z1ar s b) 5 66 [.agg [.w32 8 s.h, .b8 64 s.held, .int .i64 ((s.n : Nat) : Int), .int .i64 ((s.len : Nat) : Int)], .vec8 full b] K = (
 let x0 : List UInt8 := (Bla.BS.held s)
 let x1 : Int := (((Bla.BS.n s) : Nat) : Int)
 let x2 : Int := (((Bla.BS.len s) : Nat) : Int)
 let x3 : Nat := b.length
 let x4 : Int := (x3 : Int)
 let x5 : List UInt8 := (List.replicate 64 0)
 cnd (Bla.okS x0 x1 x2)
 (za (ltI (wr .i64 (z6r 1073741824 x2)) x4)
 (K (.tup [.agg [.w32 8 [0, 0, 0, 0, 0, 0, 0, 0], .b8 64 x5, .int .i64 0, .int .i64 0], .int .i64 1]) [])
 ((∃ w0 : Nat, (Inv.upTo [.int .i64 x4] w0) ∧ ((AV.vec8 full b = .vec8 full b) ∧ ((AV.int .i64 x4 = .int .i64 x4) ∧ ((AV.int .i64 0 = .int .i64 (w0 : Int)) ∧ ((AV.w32 8 (Bla.BS.h s) = .w32 8 (Bla.BS.h (Bla.addB s (List.take w0 b)))) ∧ ((AV.b8 64 x0 = .b8 64 (Bla.BS.held (Bla.addB s (List.take w0 b)))) ∧ ((AV.int .i64 x1 = .int .i64 (((Bla.BS.n (Bla.addB s (List.take w0 b))) : Nat) : Int)) ∧ ((AV.int .i64 x2 = .int .i64 (((Bla.BS.len (Bla.addB s (List.take w0 b))) : Nat) : Int)) ∧ ((AV.w32 8 [0, 0, 0, 0, 0, 0, 0, 0] = .w32 8 [0, 0, 0, 0, 0, 0, 0, 0]) ∧ ((AV.b8 64 x5 = .b8 64 x5) ∧ ((AV.int .i64 0 = .int .i64 0) ∧ ((AV.int .i64 0 = .int .i64 0) ∧ True)))))))))))) ∧ (∀ w1 : Nat, (Inv.upTo [.int .i64 x4] w1 → za (ltI (w1 : Int) x4)
 (cnd ((inB (w1 : Int) x3) && true)
 (cnd (leB (0 + x3) x3)
 (za ((((Bla.BS.n (Bla.addB s (List.take w1 b))) : Nat) : Int) == 64)
 ((∃ w2 : Nat, (((Inv.up w2) < (Inv.up w1)) ∧ (Inv.upTo [.int .i64 x4] w2)) ∧ ((AV.vec8 full b = .vec8 full b) ∧ ((AV.int .i64 x4 = .int .i64 x4) ∧ ((AV.int .i64 (wr .i64 ((w1 : Int) + 1)) = .int .i64 (w2 : Int)) ∧ ((AV.w32 8 (Bla.squeezeS (Bla.BS.h (Bla.addB s (List.take w1 b))) (Bla.BS.held (Bla.addB s (List.take w1 b))) (((Bla.BS.len (Bla.addB s (List.take w1 b))) : Nat) : Int) false) = .w32 8 (Bla.BS.h (Bla.addB s (List.take w2 b)))) ∧ ((AV.b8 64 (List.set x5 0 (List.getD b (ofs 0 (w1 : Int)) 0)) = .b8 64 (Bla.BS.held (Bla.addB s (List.take w2 b)))) ∧ ((AV.int .i64 1 = .int .i64 (((Bla.BS.n (Bla.addB s (List.take w2 b))) : Nat) : Int)) ∧ ((AV.int .i64 (wr .i64 ((((Bla.BS.len (Bla.addB s (List.take w1 b))) : Nat) : Int) + 1)) = .int .i64 (((Bla.BS.len (Bla.addB s (List.take w2 b))) : Nat) : Int)) ∧ ((AV.w32 8 [0, 0, 0, 0, 0, 0, 0, 0] = .w32 8 [0, 0, 0, 0, 0, 0, 0, 0]) ∧ ((AV.b8 64 x5 = .b8 64 x5) ∧ ((AV.int .i64 0 = .int .i64 0) ∧ ((AV.int .i64 0 = .int .i64 0) ∧ True)))))))))))))
 (cnd (inB (((Bla.BS.n (Bla.addB s (List.take w1 b))) : Nat) : Int) 64)
 ((∃ w3 : Nat, (((Inv.up w3) < (Inv.up w1)) ∧ (Inv.upTo [.int .i64 x4] w3)) ∧ ((AV.vec8 full b = .vec8 full b) ∧ ((AV.int .i64 x4 = .int .i64 x4) ∧ ((AV.int .i64 (wr .i64 ((w1 : Int) + 1)) = .int .i64 (w3 : Int)) ∧ ((AV.w32 8 (Bla.BS.h (Bla.addB s (List.take w1 b))) = .w32 8 (Bla.BS.h (Bla.addB s (List.take w3 b)))) ∧ ((AV.b8 64 (List.set (Bla.BS.held (Bla.addB s (List.take w1 b))) (Int.toNat (((Bla.BS.n (Bla.addB s (List.take w1 b))) : Nat) : Int)) (List.getD b (ofs 0 (w1 : Int)) 0)) = .b8 64 (Bla.BS.held (Bla.addB s (List.take w3 b)))) ∧ ((AV.int .i64 (wr .i64 ((((Bla.BS.n (Bla.addB s (List.take w1 b))) : Nat) : Int) + 1)) = .int .i64 (((Bla.BS.n (Bla.addB s (List.take w3 b))) : Nat) : Int)) ∧ ((AV.int .i64 (wr .i64 ((((Bla.BS.len (Bla.addB s (List.take w1 b))) : Nat) : Int) + 1)) = .int .i64 (((Bla.BS.len (Bla.addB s (List.take w3 b))) : Nat) : Int)) ∧ ((AV.w32 8 [0, 0, 0, 0, 0, 0, 0, 0] = .w32 8 [0, 0, 0, 0, 0, 0, 0, 0]) ∧ ((AV.b8 64 x5 = .b8 64 x5) ∧ ((AV.int .i64 0 = .int .i64 0) ∧ ((AV.int .i64 0 = .int .i64 0) ∧ True)))))))))))))))))
 (K (.tup [.agg [.w32 8 (Bla.BS.h (Bla.addB s (List.take w1 b))), .b8 64 (Bla.BS.held (Bla.addB s (List.take w1 b))), .int .i64 (((Bla.BS.n (Bla.addB s (List.take w1 b))) : Nat) : Int), .int .i64 (((Bla.BS.len (Bla.addB s (List.take w1 b))) : Nat) : Int)], .int .i64 0]) [])))))) := by kernel_rfl
theorem z1hz (s : BS) (full : Bool) (b : List UInt8) (o : s.ok) (hb : s.len + b.length ≤ 1073741824) :
  HCall Tryz.E 66 [.agg [.w32 8 s.h, .b8 64 s.held, .int .i64 ((s.n : Nat) : Int), .int .i64 ((s.len : Nat) : Int)], .vec8 full b]
   (.ret (.tup [.agg [.w32 8 (addB s b).h, .b8 64 (addB s b).held, .int .i64 (((addB s b).n : Nat) : Int), .int .i64 (((addB s b).len : Nat) : Int)], .int .i64 0]) []) := by
 refine HCall.z1lg (R := RS) (T := B2) (fun _ _ => z1ar s b) 5 rfl rfl ?_
 rw [z1d8];dsimp only;rw [o.s, z4p, z2f (z := 1073741824 - ((s.len : Nat) : Int)) (by omega) (by omega), z4l (x := 1073741824 - ((s.len : Nat) : Int)) (by omega)]
 refine ⟨⟨0, by rw [Inv.upTo_int]; omega, ?_⟩, fun i hi => ?_⟩
 ·rw [List.take_zero, z19w];exact ⟨rfl, rfl, rfl, rfl, rfl, rfl, rfl, rfl, rfl, rfl, rfl, trivial⟩
 ·rw [Inv.upTo_int] at hi;have hlt : (b.take i).length = i := by rw [List.length_take]; omega
  obtain ⟨os, ol⟩ := zyx (b := b.take i) o (by omega)
  rw [hlt] at ol;have hn := os.n;rcases Nat.lt_or_ge i b.length with h | h
  ·have hstep := z140 (s := s) h;generalize hS : addB s (b.take i) = S at *;rw [z5g (by omega), z44 (by omega) (by omega), zp (by omega)]
   show za (((S.n : Nat) : Int) == 64) _ _;rw [z2f (z := (i : Int) + 1) (by omega) (by omega), z2f (z := ((S.n : Nat) : Int) + 1) (by omega) (by omega), z2f (z := ((S.len : Nat) : Int) + 1) (by omega) (by omega), show ofs 0 ((i : Nat) : Int) = i from rfl, Int.toNat_natCast]
   unfold zgu at hstep
   by_cases e : S.n = 64
   ·rw [if_pos e] at hstep;refine zq.2 ⟨fun _ => ⟨i + 1, ⟨Inv.up_lt (by omega), by rw [Inv.upTo_int]; omega⟩, ?_⟩, fun h => ?_⟩
    ·rw [hstep];exact ⟨rfl, rfl, rfl, rfl, rfl, rfl, rfl, rfl, rfl, rfl, rfl, trivial⟩
    ·rw [e] at h; exact absurd h (by decide)
   ·rw [if_neg e] at hstep;refine zq.2 ⟨fun h => ?_, fun _ => ?_⟩
    ·have : ((S.n : Nat) : Int) = 64 := eq_of_beq h;omega
    ·rw [z44 (by omega) (by omega)]
     refine ⟨i + 1, ⟨Inv.up_lt (by omega), by rw [Inv.upTo_int]; omega⟩, ?_⟩
     rw [hstep];exact ⟨rfl, rfl, rfl, rfl, rfl, rfl, rfl, rfl, rfl, rfl, rfl, trivial⟩
  ·rw [z4l (by omega), List.take_of_length_le h]
   exact zq.2 ⟨fun h => Bool.noConfusion h, fun _ => ⟨rfl, rfl⟩⟩
theorem z1ez (s : BS) (K : AV → Heap → Prop) : walk Tryz.E RS B2.C (fun _ _ => .unroll 33) 5 68 [.agg [.w32 8 s.h, .b8 64 s.held, .int .i64 ((s.n : Nat) : Int), .int .i64 ((s.len : Nat) : Int)]] K =
 cnd (okS s.held ((s.n : Nat) : Int) ((s.len : Nat) : Int)) (K (.tup [.b8 32 (zw6 (squeezeS s.h s.held ((s.len : Nat) : Int) true)), .int .i64 0]) []) := by kernel_rfl
theorem z1ga (s : BS) (o : s.ok) : HCall Tryz.E 68 [.agg [.w32 8 s.h, .b8 64 s.held, .int .i64 ((s.n : Nat) : Int), .int .i64 ((s.len : Nat) : Int)]] (.ret (.tup [.b8 32 (endB s), .int .i64 0]) []) := by
 refine HCall.z1lg (R := RS) (T := B2) (fun _ _ => .unroll 33) 5 rfl rfl ?_
 rw [z1ez, o.s, zyg];unfold zey;exact ⟨rfl, rfl⟩
theorem BS.of {h : List UInt32} {held : List UInt8} {n len : Int} (hh : held.length = 64) (ok : okP held n len) : BS.ok ⟨h, held, n.toNat, len.toNat⟩ ∧ ((n.toNat : Nat) : Int) = n ∧ ((len.toNat : Nat) : Int) = len := by
 have e1 : ((n.toNat : Nat) : Int) = n := by have := ok.1; omega
 have e2 : ((len.toNat : Nat) : Int) = len := by have := ok.1; have := ok.2.2.1; omega
 exact ⟨⟨hh, by show okP held ((n.toNat : Nat) : Int) ((len.toNat : Nat) : Int); rw [e1, e2]; exact ok⟩, e1, e2⟩
def bsO (h : List UInt32) (held : List UInt8) (n len : Int) (b : List UInt8) : BS := addB ⟨h, held, n.toNat, len.toNat⟩ b
theorem z1f4 (h : List UInt32) (held : List UInt8) (n len : Int) (full : Bool) (b : List UInt8) (ok : okP held n len) (hb : len.toNat + b.length ≤ 1073741824) :
  HCall Tryz.E 66 [.agg [.w32 8 h, .b8 64 held, .int .i64 n, .int .i64 len], .vec8 full b]
   (.ret (.tup [.agg [.w32 8 (bsO h held n len b).h, .b8 64 (bsO h held n len b).held, .int .i64 (((bsO h held n len b).n : Nat) : Int), .int .i64 (((bsO h held n len b).len : Nat) : Int)], .int .i64 0]) []) := by
 refine HCall.z1lm rfl rfl fun hl => ?_
 have hh : held.length = 64 := hl (.agg _) (List.mem_cons_self ..) (.b8 64 held) (by simp)
 obtain ⟨o, e1, e2⟩ := BS.of (h := h) hh ok;have := z1hz ⟨h, held, n.toNat, len.toNat⟩ full b o hb;dsimp only at this;rw [e1, e2] at this;exact this
theorem z1ho (h : List UInt32) (held : List UInt8) (n len : Int) (ok : okP held n len) :
  HCall Tryz.E 68 [.agg [.w32 8 h, .b8 64 held, .int .i64 n, .int .i64 len]] (.ret (.tup [.b8 32 (endB ⟨h, held, n.toNat, len.toNat⟩), .int .i64 0]) []) := by
 refine HCall.z1lm rfl rfl fun hl => ?_
 have hh : held.length = 64 := hl (.agg _) (List.mem_cons_self ..) (.b8 64 held) (by simp)
 obtain ⟨o, e1, e2⟩ := BS.of (h := h) hh ok;have := z1ga ⟨h, held, n.toNat, len.toNat⟩ o;dsimp only at this;rw [e1, e2] at this;exact this
def B3 : Ctr Tryz.E := (B2.add 66 (fun
  | [.agg [.w32 8 h, .b8 64 held, .int .i64 n, .int .i64 len], .vec8 _ b] => some (okS held n len && leB (len.toNat + b.length) 1073741824, .ret (.tup [.agg [.w32 8 (bsO h held n len b).h, .b8 64 (bsO h held n len b).held, .int .i64 (((bsO h held n len b).n : Nat) : Int), .int .i64 (((bsO h held n len b).len : Nat) : Int)], .int .i64 0]) [])
  | _ => none) (by
   intro args pre out h hp
   split at h
   ·obtain ⟨rfl, rfl⟩ := spE h;simp only [Bool.and_eq_true, zh] at hp;exact z1f4 _ _ _ _ _ _ (z66.1 hp.1) hp.2
   ·simp at h)).add 68 (fun
  | [.agg [.w32 8 h, .b8 64 held, .int .i64 n, .int .i64 len]] => some (okS held n len, .ret (.tup [.b8 32 (endB ⟨h, held, n.toNat, len.toNat⟩), .int .i64 0]) [])
  | _ => none) (by
   intro args pre out h hp
   split at h
   ·obtain ⟨rfl, rfl⟩ := spE h;exact z1ho _ _ _ _ (z66.1 hp)
   ·simp at h)
end Go.Proofs.YtehaohfglolljaaGreatDoor
namespace Go.Proofs.YtehaohfglolljaaGreatDoor
open Go Go.V Go.Cha
set_option maxHeartbeats 0
set_option maxRecDepth 100000
def z1c0 (key nonce : List UInt8) (c : UInt32) (n : Nat) : List AV :=
 [.b8 32 key, .u32 c, .b8 12 nonce, .ptr 0 0, .any, .ptr 1 0, .ptr 2 0, .ptr 3 0, .any, .any, .ptr 4 0] ++ List.replicate 31 .any ++ [.int .i64 (wr .i64 ((n : Int) + 1))] ++ List.replicate 58 .any
def z1c6 (key nonce : List UInt8) (c : UInt32) (n : Nat) : Heap :=
 [.blk [.b8 32 key] [], .blk [.b8 12 nonce] [], .blk [.b8 64 (List.replicate 64 0)] [], .blk [.w32 16 (zzj (zg4 (startS key c nonce) n))] [], .blk [.w32 16 (startS key c nonce)] []]
theorem z1er (key nonce : List UInt8) (c : UInt32) (K : AV → Heap → Prop) : walk Tryz.E RS T1.C (fun f l => bif f == 131 && l == 14 then .inv Nat (fun n => n ≤ 10) (fun n => 10 - n) (zjf key nonce c) (ziv key nonce c) else .unroll 17) 5 131 [.b8 32 key, .u32 c, .b8 12 nonce] K =
  ((∃ a : Nat, a ≤ 10 ∧ leS 5 ⟨zjf key nonce c 0, ziv key nonce c 0⟩ (zjf key nonce c a) (ziv key nonce c a)) ∧
   ∀ a : Nat, a ≤ 10 → za (ltI (a : Int) 10) (∃ b : Nat, (10 - b < 10 - a ∧ b ≤ 10) ∧ leS 5 ⟨z1c0 key nonce c a, z1c6 key nonce c a⟩ (zjf key nonce c b) (ziv key nonce c b))
    (K (.b8 64 (outS (zg4 (startS key c nonce) a) (startS key c nonce))) [])) := by kernel_rfl
theorem wrap64 {n : Int} (h : -9223372036854775808 ≤ n) (h2 : n ≤ 9223372036854775807) : IntKind.i64.wrap n = n := by
 have := IntKind.wrap_i64 n;rw [this]; omega
theorem z1dd (key nonce : List UInt8) (c : UInt32) : HCall Tryz.E 131 [.b8 32 key, .u32 c, .b8 12 nonce] (.ret (.b8 64 (blockS key c nonce)) []) := by
 refine HCall.z1lg (R := RS) (T := T1) (fun f l => bif f == 131 && l == 14 then .inv Nat (fun n => n ≤ 10) (fun n => 10 - n) (zjf key nonce c) (ziv key nonce c) else .unroll 17) 5 rfl rfl ?_
 rw [z1er];refine ⟨⟨0, Nat.zero_le _, ?_⟩, fun a ha => ?_⟩
 ·exact ⟨rfl, rfl, rfl, rfl, rfl, rfl, rfl, rfl, rfl, trivial⟩
 rcases Nat.lt_or_ge a 10 with h | h
 ·rw [z1o, decide_eq_true (show (a : Int) < 10 by omega)]
  refine ⟨a + 1, ⟨by omega, h⟩, rfl, rfl, rfl, ?_, rfl, rfl, rfl, rfl, rfl, trivial⟩
  rw [z6v, wrap64 (by omega) (by omega)]; rfl
 ·obtain rfl : a = 10 := by omega
  rw [z1o, decide_eq_false (show ¬ ((10 : Nat) : Int) < 10 by decide), zrb]
  exact ⟨rfl, rfl⟩
def T2 : Ctr Tryz.E := T1.add 131 (fun
  | [.b8 32 key, .u32 c, .b8 12 nonce] => some (true, .ret (.b8 64 (blockS key c nonce)) [])
  | _ => none) (by
   intro args pre out h hp
   split at h
   ·obtain ⟨rfl, rfl⟩ := spE h;exact z1dd _ _ _
   ·simp at h)
theorem z186 (n m : Int) (K : AV → Heap → Prop) : walk Tryz.E RS T0.C (fun _ _ => .unroll 6) 3 16 [.int .i64 n, .int .i64 m] K =
  cnd (m != 0) (za (ltI (n.tmod m) 0) (K (.int .i64 (wr .i64 (n.tmod m + m))) []) (K (.int .i64 (n.tmod m)) [])) := by kernel_rfl
theorem zlm (n m : Int) (h1 : 0 < m) (h2 : m ≤ 9223372036854775807) : HCall Tryz.E 16 [.int .i64 n, .int .i64 m] (.ret (.int .i64 (n % m)) []) := by
 refine HCall.z1lg (R := RS) (T := T0) (fun _ _ => .unroll 6) 3 rfl rfl ?_
 rw [z186, zjm, z1o, z6v];refine ⟨by simp; omega, ?_⟩
 have e := zvm (n := n) h1;have h6 := Int.emod_nonneg n (show m ≠ 0 by omega)
 have h7 := Int.emod_lt_of_pos n h1;rw [z7r];refine ⟨fun h => ?_, fun h => ?_⟩
 ·rw [if_pos (of_decide_eq_true h)] at e;rw [e, z10i (by omega) (by omega)]; exact ⟨rfl, rfl⟩
 ·rw [if_neg (of_decide_eq_false h)] at e;rw [e]; exact ⟨rfl, rfl⟩
def T3 : Ctr Tryz.E := T2.add 16 (fun
  | [.int .i64 n, .int .i64 m] => some (decide (0 < m) && decide (m ≤ 9223372036854775807), .ret (.int .i64 (n % m)) [])
  | _ => none) (by
   intro args pre out h hp
   split at h
   ·obtain ⟨rfl, rfl⟩ := spE h;simp only [Bool.and_eq_true, decide_eq_true_eq] at hp;exact zlm _ _ hp.1 hp.2
   ·simp at h)
end Go.Proofs.YtehaohfglolljaaGreatDoor
namespace Go.Proofs.YtehaohfglolljaaGreatDoor
open Go Go.V Go.Cha Go.Bla
set_option maxHeartbeats 0
set_option maxRecDepth 100000
theorem z1e6 (full : Bool) (b : List UInt8) (K : AV → Heap → Prop) : walk Tryz.E RS B3.C (fun _ l => .unroll 5) 5 40 [.vec8 full b] K = (
 let x0 : List UInt8 := (Bla.BS.held Bla.startS)
 let x1 : List UInt8 := (Bla.BS.held (bsO (Bla.BS.h Bla.startS) x0 (((Bla.BS.n Bla.startS) : Nat) : Int) (((Bla.BS.len Bla.startS) : Nat) : Int) b))
 let x2 : Int := (((Bla.BS.n (bsO (Bla.BS.h Bla.startS) x0 (((Bla.BS.n Bla.startS) : Nat) : Int) (((Bla.BS.len Bla.startS) : Nat) : Int) b)) : Nat) : Int)
 let x3 : Int := (((Bla.BS.len (bsO (Bla.BS.h Bla.startS) x0 (((Bla.BS.n Bla.startS) : Nat) : Int) (((Bla.BS.len Bla.startS) : Nat) : Int) b)) : Nat) : Int)
 cnd ((Bla.okS x0 0 0) && (leB (0 + b.length) 1073741824))
 (cnd (Bla.okS x1 x2 x3)
 (K (.b8 32 (Bla.endB (Bla.BS.mk (Bla.BS.h (bsO (Bla.BS.h Bla.startS) x0 (((Bla.BS.n Bla.startS) : Nat) : Int) (((Bla.BS.len Bla.startS) : Nat) : Int) b)) x1 (Int.toNat x2) (Int.toNat x3)))) []))) := by kernel_rfl
theorem z16o (b : List UInt8) : bsO startS.h startS.held ((startS.n : Nat) : Int) ((startS.len : Nat) : Int) b = addB startS b := rfl
theorem z1g0 (s : BS) : BS.mk s.h s.held (Int.toNat ((s.n : Nat) : Int)) (Int.toNat ((s.len : Nat) : Int)) = s := rfl
theorem z1h9 (full : Bool) (b : List UInt8) (h : b.length ≤ 1073741824) : HCall Tryz.E 40 [.vec8 full b] (.ret (.b8 32 (sumS b)) []) := by
 refine HCall.z1lg (R := RS) (T := B3) (fun _ _ => .unroll 5) 5 rfl rfl ?_
 rw [z1e6];obtain ⟨o, _⟩ := zyx (b := b) zr5 (by show 0 + b.length ≤ _; omega)
 dsimp only;rw [z16o, z1g0, show okS startS.held 0 0 = true from zr5.s, o.s, zp (by omega), zyy]
 exact ⟨rfl, rfl⟩
def B4 : Ctr Tryz.E := (B3.add 40 (fun
  | [.vec8 _ b] => some (leB b.length 1073741824, .ret (.b8 32 (sumS b)) [])
  | _ => none) (by
   intro args pre out h hp
   split at h
   ·obtain ⟨rfl, rfl⟩ := spE h;exact z1h9 _ _ (zh.1 hp)
   ·simp at h)).add 16 (fun
  | [.int .i64 n, .int .i64 m] => some (decide (0 < m) && decide (m ≤ 9223372036854775807), .ret (.int .i64 (n % m)) [])
  | _ => none) (by
   intro args pre out h hp
   split at h
   ·obtain ⟨rfl, rfl⟩ := spE h;simp only [Bool.and_eq_true, decide_eq_true_eq] at hp;exact zlm _ _ hp.1 hp.2
   ·simp at h)
noncomputable abbrev RRk := ROps.rows Tryz.E
theorem z1a4 (fa : Bool) (a : List UInt8) (K : AV → Heap → Prop) : walk Tryz.E RRk B4.C (fun _ l => .unroll 5) 5 99 [.vec false 1 [.vec8 fa a]] K = (
 let x0 : Nat := a.length
 cnd (leB (x0 * 1) 140737488355328)
 (K (.sl 0 0 1 x0) [Ent.grow8 a []])) := by kernel_rfl
theorem z1ae (fa fb : Bool) (a b : List UInt8) (K : AV → Heap → Prop) : walk Tryz.E RRk B4.C (fun _ l => .unroll 5) 5 99 [.vec false 1 [.vec8 fa a, .vec8 fb b]] K = (
 let x0 : Nat := a.length
 let x1 : Nat := 140737488355328
 let x2 : Nat := (x0 + b.length)
 cnd (leB (x0 * 1) x1)
 (cnd (x0 == x0)
 (cnd (leB (x2 * 1) x1)
 (K (.sl 0 0 1 x2) [Ent.grow8 (a ++ b) []])))) := by kernel_rfl
theorem z1ci (fa : Bool) (a : List UInt8) (h : a.length ≤ 1000000) : HCall Tryz.E 99 [.vec false 1 [.vec8 fa a]] (.ret (.sl 0 0 1 a.length) [.grow8 a []]) := by
 refine HCall.z1lg (R := RRk) (T := B4) (fun _ _ => .unroll 5) 5 rfl rfl ?_
 rw [z1a4];dsimp only;rw [zp (by omega)]
 exact ⟨rfl, rfl⟩
theorem z1ep (fa fb : Bool) (a b : List UInt8) (h : a.length + b.length ≤ 1000000) : HCall Tryz.E 99 [.vec false 1 [.vec8 fa a, .vec8 fb b]] (.ret (.sl 0 0 1 (a.length + b.length)) [.grow8 (a ++ b) []]) := by
 refine HCall.z1lg (R := RRk) (T := B4) (fun _ _ => .unroll 5) 5 rfl rfl ?_
 rw [z1ae];dsimp only;rw [zp (by omega), zp (by omega), beq_self_eq_true]
 exact ⟨rfl, rfl⟩
def K1 : Ctr Tryz.E := B4.add 99 (fun
  | [.vec false 1 [.vec8 _ a]] => some (leB a.length 1000000, .ret (.sl 0 0 1 a.length) [.grow8 a []])
  | [.vec false 1 [.vec8 _ a, .vec8 _ b]] => some (leB (a.length + b.length) 1000000, .ret (.sl 0 0 1 (a.length + b.length)) [.grow8 (a ++ b) []])
  | _ => none) (by
   intro args pre out h hp
   split at h
   ·obtain ⟨rfl, rfl⟩ := spE h;exact z1ci _ _ (zh.1 hp)
   ·obtain ⟨rfl, rfl⟩ := spE h;exact z1ep _ _ _ _ (zh.1 hp)
   ·simp at h)
theorem z17g (fa : Bool) (a : List UInt8) (K : AV → Heap → Prop) : walk Tryz.E RS K1.C (fun _ l => .unroll 5) 5 120 [.vec false 1 [.vec8 fa a]] K = (
 let x0 : Nat := a.length
 let x1 : List UInt8 := (List.take x0 (List.drop 0 a))
 cnd (leB x0 1000000)
 (cnd ((true && (leB (0 + x0) x0)) && true)
 (cnd (leB x1.length 1073741824)
 (K (.sl 0 0 1 32) [Ent.blk [.b8 32 (Bla.sumS x1)] []])))) := by kernel_rfl
theorem z17e (fa fb : Bool) (a b : List UInt8) (K : AV → Heap → Prop) : walk Tryz.E RS K1.C (fun _ l => .unroll 5) 5 120 [.vec false 1 [.vec8 fa a, .vec8 fb b]] K = (
 let x0 : Nat := (a.length + b.length)
 let x1 : List UInt8 := (List.take x0 (List.drop 0 (a ++ b)))
 cnd (leB x0 1000000)
 (cnd ((true && (leB (0 + x0) (a ++ b).length)) && true)
 (cnd (leB x1.length 1073741824)
 (K (.sl 0 0 1 32) [Ent.blk [.b8 32 (Bla.sumS x1)] []])))) := by kernel_rfl
theorem zhr (l : List UInt8) (n : Nat) (h : l.length = n) : List.take n (List.drop 0 l) = l := by
 subst h; simp
theorem z1e8 (fa : Bool) (a : List UInt8) (h : a.length ≤ 1000000) : HCall Tryz.E 120 [.vec false 1 [.vec8 fa a]] (.ret (.sl 0 0 1 32) [.blk [.b8 32 (sumS a)] []]) := by
 refine HCall.z1lg (R := RS) (T := K1) (fun _ _ => .unroll 5) 5 rfl rfl ?_
 rw [z17g];dsimp only;rw [zhr _ _ rfl, zp h, zp (by omega), zp (by omega)]
 exact ⟨rfl, rfl⟩
theorem z1cj (fa fb : Bool) (a b : List UInt8) (h : a.length + b.length ≤ 1000000) : HCall Tryz.E 120 [.vec false 1 [.vec8 fa a, .vec8 fb b]] (.ret (.sl 0 0 1 32) [.blk [.b8 32 (sumS (a ++ b))] []]) := by
 refine HCall.z1lg (R := RS) (T := K1) (fun _ _ => .unroll 5) 5 rfl rfl ?_
 rw [z17e];dsimp only;rw [zhr _ _ (by simp), zp h, zp (by simp), zp (by simp; omega)]
 exact ⟨rfl, rfl⟩
def K2 : Ctr Tryz.E := K1.add 120 (fun
  | [.vec false 1 [.vec8 _ a]] => some (leB a.length 1000000, .ret (.sl 0 0 1 32) [.blk [.b8 32 (sumS a)] []])
  | [.vec false 1 [.vec8 _ a, .vec8 _ b]] => some (leB (a.length + b.length) 1000000, .ret (.sl 0 0 1 32) [.blk [.b8 32 (sumS (a ++ b))] []])
  | _ => none) (by
   intro args pre out h hp
   split at h
   ·obtain ⟨rfl, rfl⟩ := spE h;exact z1e8 _ _ (zh.1 hp)
   ·obtain ⟨rfl, rfl⟩ := spE h;exact z1cj _ _ _ _ (zh.1 hp)
   ·simp at h)
noncomputable abbrev RQ := ROps.rows0 Tryz.E
def z2m (key : List UInt8) : List UInt8 := key.take 64 ++ List.replicate (64 - key.length) 0
def z1l (c : UInt8) (i : Nat) (l : List UInt8) : List UInt8 := (l.take i).map (·^^^ c) ++ l.drop i
def macL (key : List UInt8) : LPlan := .rel [0, 1, 4, 5, 6] [] Nat (fun _ i => i ≤ 64) (fun i => 64 - i) (fun i => [(20, .int .i64 (i : Nat))]) (fun i => [(1, .blk [.b8 64 (z1l 54 i (z2m key))] []), (2, .blk [.b8 64 (z1l 92 i (z2m key))] [])])
theorem z1d6 (fk fb : Bool) (key b : List UInt8) (K : AV → Heap → Prop) : walk Tryz.E RQ K2.C (fun f l => macL key) 5 98 [.vec8 fk key, .vec8 fb b] K = (
 let x0 : Nat := key.length
 let x1 : List UInt8 := (Bla.sumS key)
 let x2 : List UInt8 := (List.replicate 64 0)
 let x3 : List UInt8 := ((List.take 64 x1) ++ (List.drop (Min.min x1.length 64) x2))
 let x4 : Nat := x3.length
 let x5 : Nat := b.length
 let x6 : List UInt8 := (Bla.sumS (x3 ++ b))
 let x7 : Nat := (x4 + x6.length)
 let x8 : List UInt8 := (List.take x7 (List.drop 0 (x3 ++ x6)))
 za (ltI 64 (x0 : Int))
 (cnd (leB x0 1000000)
 ((∃ w0 : Nat, (w0 ≤ 64) ∧ ((AV.sl (shift 2 0) 0 1 32 = .sl (shift 2 0) 0 1 32) ∧ ((AV.vec8 fb b = .vec8 fb b) ∧ ((AV.int .i64 0 = .int .i64 (w0 : Int)) ∧ ((AV.b8 32 [0, 0, 0, 0, 0, 0, 0, 0, 0, 0, 0, 0, 0, 0, 0, 0, 0, 0, 0, 0, 0, 0, 0, 0, 0, 0, 0, 0, 0, 0, 0, 0] = .b8 32 [0, 0, 0, 0, 0, 0, 0, 0, 0, 0, 0, 0, 0, 0, 0, 0, 0, 0, 0, 0, 0, 0, 0, 0, 0, 0, 0, 0, 0, 0, 0, 0]) ∧ False))))) ∧ (∀ w1 : Nat, (w1 ≤ 64 → za (ltI (w1 : Int) 64)
 (cnd (inB (w1 : Int) 64)
 (cnd (inB (w1 : Int) 64)
 (cnd (inB (w1 : Int) 64)
 (cnd (inB (w1 : Int) 64)
 ((∃ w2 : Nat, ((((fun i => 64 - i) w2) < ((fun i => 64 - i) w1)) ∧ (w2 ≤ 64)) ∧ ((AV.sl (shift 2 0) 0 1 32 = .sl (shift 2 0) 0 1 32) ∧ ((AV.vec8 fb b = .vec8 fb b) ∧ ((AV.int .i64 (wr .i64 ((w1 : Int) + 1)) = .int .i64 (w2 : Int)) ∧ ((AV.b8 32 [0, 0, 0, 0, 0, 0, 0, 0, 0, 0, 0, 0, 0, 0, 0, 0, 0, 0, 0, 0, 0, 0, 0, 0, 0, 0, 0, 0, 0, 0, 0, 0] = .b8 32 [0, 0, 0, 0, 0, 0, 0, 0, 0, 0, 0, 0, 0, 0, 0, 0, 0, 0, 0, 0, 0, 0, 0, 0, 0, 0, 0, 0, 0, 0, 0, 0]) ∧ ((AV.b8 64 (z1l 54 w1 (z2m key)) = .b8 64 (z1l 54 w2 (z2m key))) ∧ ((AV.b8 64 (z1l 92 w1 (z2m key)) = .b8 64 (z1l 92 w2 (z2m key))) ∧ ((AV.b8 64 (List.set x3 (ofs 0 (w1 : Int)) ((List.getD x3 (ofs 0 (w1 : Int)) 0) ^^^ 54)) = .b8 64 x3) ∧ ((AV.b8 64 (List.set x3 (ofs 0 (w1 : Int)) ((List.getD x3 (ofs 0 (w1 : Int)) 0) ^^^ 92)) = .b8 64 x3) ∧ True))))))))))))))
 (cnd (leB (x4 + x5) 1000000)
 (cnd (leB x7 1000000)
 (cnd ((true && (leB (0 + x7) (x3 ++ x6).length)) && true)
 (cnd (leB x8.length 1073741824)
 (K (.b8 32 (Bla.sumS x8)) [])))))))))
 ((∃ w3 : Nat, (w3 ≤ 64) ∧ ((AV.vec8 fk key = .vec8 fk key) ∧ ((AV.vec8 fb b = .vec8 fb b) ∧ ((AV.int .i64 0 = .int .i64 (w3 : Int)) ∧ ((AV.b8 32 [0, 0, 0, 0, 0, 0, 0, 0, 0, 0, 0, 0, 0, 0, 0, 0, 0, 0, 0, 0, 0, 0, 0, 0, 0, 0, 0, 0, 0, 0, 0, 0] = .b8 32 [0, 0, 0, 0, 0, 0, 0, 0, 0, 0, 0, 0, 0, 0, 0, 0, 0, 0, 0, 0, 0, 0, 0, 0, 0, 0, 0, 0, 0, 0, 0, 0]) ∧ ((AV.b8 64 ((List.take 64 key) ++ (List.drop (Min.min x0 64) x2)) = .b8 64 (z1l 54 w3 (z2m key))) ∧ ((AV.b8 64 ((List.take 64 key) ++ (List.drop (Min.min x0 64) x2)) = .b8 64 (z1l 92 w3 (z2m key))) ∧ True))))))) ∧ (∀ w4 : Nat, (w4 ≤ 64 → za (ltI (w4 : Int) 64)
 (cnd (inB (w4 : Int) 64)
 (cnd (inB (w4 : Int) 64)
 (cnd (inB (w4 : Int) 64)
 (cnd (inB (w4 : Int) 64)
 ((∃ w5 : Nat, ((((fun i => 64 - i) w5) < ((fun i => 64 - i) w4)) ∧ (w5 ≤ 64)) ∧ ((AV.vec8 fk key = .vec8 fk key) ∧ ((AV.vec8 fb b = .vec8 fb b) ∧ ((AV.int .i64 (wr .i64 ((w4 : Int) + 1)) = .int .i64 (w5 : Int)) ∧ ((AV.b8 32 [0, 0, 0, 0, 0, 0, 0, 0, 0, 0, 0, 0, 0, 0, 0, 0, 0, 0, 0, 0, 0, 0, 0, 0, 0, 0, 0, 0, 0, 0, 0, 0] = .b8 32 [0, 0, 0, 0, 0, 0, 0, 0, 0, 0, 0, 0, 0, 0, 0, 0, 0, 0, 0, 0, 0, 0, 0, 0, 0, 0, 0, 0, 0, 0, 0, 0]) ∧ ((AV.b8 64 (List.set (z1l 54 w4 (z2m key)) (ofs 0 (w4 : Int)) ((List.getD (z1l 54 w4 (z2m key)) (ofs 0 (w4 : Int)) 0) ^^^ 54)) = .b8 64 (z1l 54 w5 (z2m key))) ∧ ((AV.b8 64 (List.set (z1l 92 w4 (z2m key)) (ofs 0 (w4 : Int)) ((List.getD (z1l 92 w4 (z2m key)) (ofs 0 (w4 : Int)) 0) ^^^ 92)) = .b8 64 (z1l 92 w5 (z2m key))) ∧ True))))))))))))
 (cnd (leB ((z1l 54 w4 (z2m key)).length + x5) 1000000)
 (cnd (leB ((z1l 92 w4 (z2m key)).length + (Bla.sumS ((z1l 54 w4 (z2m key)) ++ b)).length) 1000000)
 (cnd ((true && (leB (0 + ((z1l 92 w4 (z2m key)).length + (Bla.sumS ((z1l 54 w4 (z2m key)) ++ b)).length)) ((z1l 92 w4 (z2m key)) ++ (Bla.sumS ((z1l 54 w4 (z2m key)) ++ b))).length)) && true)
 (cnd (leB (List.take ((z1l 92 w4 (z2m key)).length + (Bla.sumS ((z1l 54 w4 (z2m key)) ++ b)).length) (List.drop 0 ((z1l 92 w4 (z2m key)) ++ (Bla.sumS ((z1l 54 w4 (z2m key)) ++ b))))).length 1073741824)
 (K (.b8 32 (Bla.sumS (List.take ((z1l 92 w4 (z2m key)).length + (Bla.sumS ((z1l 54 w4 (z2m key)) ++ b)).length) (List.drop 0 ((z1l 92 w4 (z2m key)) ++ (Bla.sumS ((z1l 54 w4 (z2m key)) ++ b))))))) []))))))))) := by kernel_rfl
theorem zx6 (key : List UInt8) (h : key.length ≤ 64) : (z2m key).length = 64 := by
 simp [z2m]; omega
theorem zjk (c : UInt8) (i : Nat) (l : List UInt8) : (z1l c i l).length = l.length := by
 simp [z1l]; omega
theorem zmp (c : UInt8) (l : List UInt8) : z1l c 0 l = l := by simp [z1l]
theorem zo6 (c : UInt8) (i : Nat) (l : List UInt8) (h : i < l.length) : (z1l c i l).set i ((z1l c i l).getD i 0 ^^^ c) = z1l c (i + 1) l := by
 have hl : ((l.take i).map (·^^^ c)).length = i := by simp; omega
 have hg : (z1l c i l).getD i 0 = l[i] := by
  unfold z1l;rw [List.getD_eq_getElem?_getD, List.getElem?_append_right (by omega), hl, Nat.sub_self, List.getElem?_drop]
  simp [h]
 rw [hg];unfold z1l;rw [List.set_append_right _ _ (by omega), hl, Nat.sub_self, List.drop_eq_getElem_cons h, List.set_cons_zero, List.take_succ_eq_append_getElem h, List.map_append, List.append_assoc]
 rfl
theorem zri (key : List UInt8) (h : key.length ≤ 64) : List.take 64 key ++ List.drop (min key.length 64) (List.replicate 64 0) = z2m key := by
 unfold z2m;rw [Nat.min_eq_left h, List.drop_replicate]
def z59 (key b : List UInt8) : List UInt8 := sumS (z1l 92 64 (z2m key) ++ sumS (z1l 54 64 (z2m key) ++ b))
theorem zhy (a b : List UInt8) (n : Nat) (h : (a ++ b).length = n) : List.take n (List.drop 0 (a ++ b)) = a ++ b := by subst h; rw [List.drop_zero, List.take_length]
theorem z1f6 (fk fb : Bool) (key b : List UInt8) (h1 : key.length ≤ 64) (h2 : b.length ≤ 100000) : HCall Tryz.E 98 [.vec8 fk key, .vec8 fb b] (.ret (.b8 32 (z59 key b)) []) := by
 refine HCall.z1lg (R := RQ) (T := K2) (fun _ _ => macL key) 5 rfl rfl ?_
 rw [z1d6];dsimp only;refine zq.2 ⟨fun h => ?_, fun _ => ?_⟩
 ·have := zo5 h;omega
 have hp : (z2m key).length = 64 := zx6 key h1;refine ⟨⟨0, by omega, rfl, rfl, rfl, rfl, ?_, ?_, trivial⟩, fun i hi => zq.2 ⟨fun h => ?_, fun h => ?_⟩⟩
 ·rw [zmp, ← zri key h1]
 ·rw [zmp, ← zri key h1]
 ·have hi' : i < 64 := by have := zo5 h; omega
  have hin : inB ((i : Nat) : Int) 64 = true := z32.2 (by omega)
  have ho : ofs 0 ((i : Nat) : Int) = i := by simp [ofs]
  rw [hin, ho, zo6 _ _ _ (by omega), zo6 _ _ _ (by omega)]
  refine ⟨i + 1, ⟨by show 64 - (i + 1) < 64 - i; omega, by omega⟩, rfl, rfl, ?_, rfl, rfl, rfl, trivial⟩
  rw [z2f (by omega) (by omega)]
  rfl
 ·have hi' : i = 64 := by
   have : ¬ ((i : Nat) : Int) < 64 := fun hh => by rw [z5g hh] at h; simp at h
   omega
  subst hi';have l1 : (z1l 92 64 (z2m key)).length = 64 := by rw [zjk, hp]
  have l2 : (z1l 54 64 (z2m key)).length = 64 := by rw [zjk, hp]
  have e := zhy (z1l 92 64 (z2m key)) (sumS (z1l 54 64 (z2m key) ++ b)) ((z1l 92 64 (z2m key)).length + (sumS (z1l 54 64 (z2m key) ++ b)).length) (by simp)
  rw [e];rw [zp (by omega), zp (by rw [l1, z1g]; omega), zp (by rw [List.length_append]; omega), zp (by rw [List.length_append, l1, z1g]; omega)]
  exact ⟨rfl, rfl⟩
def K3 : Ctr Tryz.E := K2.add 98 (fun
  | [.vec8 _ key, .vec8 _ b] => some (leB key.length 64 && leB b.length 100000, .ret (.b8 32 (z59 key b)) [])
  | _ => none) (by
   intro args pre out h hp
   split at h
   ·obtain ⟨rfl, rfl⟩ := spE h;simp only [Bool.and_eq_true] at hp;exact z1f6 _ _ _ _ (zh.1 hp.1) (zh.1 hp.2)
   ·simp at h)
theorem z6m (key b : List UInt8) : (z59 key b).length = 32 := z1g _
theorem z14h (fb : Bool) (chain b : List UInt8) (K : AV → Heap → Prop) : walk Tryz.E RQ K3.C (fun f l => .unroll 5) 5 69 [.b8 32 chain, .vec8 fb b] K = (
 let x0 : List UInt8 := (z59 chain b)
 let x1 : Bool := (leB x0.length 64)
 let x2 : List UInt8 := (z59 x0 (List.take 1 (List.drop 0 ([] ++ (List.take 1 (List.drop 0 [1]))))))
 let x3 : Nat := (x2.length + 1)
 let x4 : List UInt8 := (x2 ++ (List.take 1 (List.drop 0 [2])))
 let x5 : List UInt8 := (List.take x3 (List.drop 0 x4))
 let x6 : Nat := ((z59 x0 x5).length + 1)
 let x7 : List UInt8 := ((z59 x0 x5) ++ (List.take 1 (List.drop 0 [3])))
 let x8 : List UInt8 := (List.take x6 (List.drop 0 x7))
 cnd ((leB chain.length 64) && (leB b.length 100000))
 (cnd (x1 && true)
 (cnd (leB x3 1000000)
 (cnd (true && ((true && (leB (0 + x3) x4.length)) && true))
 (cnd (x1 && (leB x5.length 100000))
 (cnd (leB x6 1000000)
 (cnd (true && ((true && (leB (0 + x6) x7.length)) && true))
 (cnd (x1 && (leB x8.length 100000))
 (K (.agg [.b8 32 x2, .b8 32 (z59 x0 x5), .b8 32 (z59 x0 x8)]) []))))))))) := by kernel_rfl
def z28 (chain b : List UInt8) : List UInt8 := z59 (z59 chain b) [1]
def z29 (chain b : List UInt8) : List UInt8 := z59 (z59 chain b) (z28 chain b ++ [2])
def za5 (chain b : List UInt8) : List UInt8 := z59 (z59 chain b) (z29 chain b ++ [3])
theorem take_snoc (a : List UInt8) (x : UInt8) : List.take (a.length + 1) (List.drop 0 (a ++ (List.take 1 (List.drop 0 [x])))) = a ++ [x] := by
 rw [List.drop_zero];exact List.take_of_length_le (by simp)
theorem z191 (fb : Bool) (chain b : List UInt8) (h1 : chain.length ≤ 64) (h2 : b.length ≤ 100000) : HCall Tryz.E 69 [.b8 32 chain, .vec8 fb b] (.ret (.agg [.b8 32 (z28 chain b), .b8 32 (z29 chain b), .b8 32 (za5 chain b)]) []) := by
 refine HCall.z1lg (R := RQ) (T := K3) (fun _ _ => .unroll 5) 5 rfl rfl ?_
 rw [z14h];dsimp only;rw [show z59 (z59 chain b) (List.take 1 (List.drop 0 ([] ++ List.take 1 (List.drop 0 [1])))) = z28 chain b from rfl]
 rw [take_snoc];rw [show z59 (z59 chain b) (z28 chain b ++ [2]) = z29 chain b from rfl]
 rw [take_snoc];rw [show z59 (z59 chain b) (z29 chain b ++ [3]) = za5 chain b from rfl]
 have e0 : (z59 chain b).length = 32 := z6m _ _;have e1 : (z28 chain b).length = 32 := z6m _ _;have e2 : (z29 chain b).length = 32 := z6m _ _;simp only [List.length_append, List.length_cons, List.length_nil, List.length_take, List.length_drop, e0, e1, e2];rw [zp h1, zp h2];exact ⟨rfl, rfl⟩
def K4 : Ctr Tryz.E := K3.add 69 (fun
  | [.b8 32 chain, .vec8 _ b] => some (leB chain.length 64 && leB b.length 100000, .ret (.agg [.b8 32 (z28 chain b), .b8 32 (z29 chain b), .b8 32 (za5 chain b)]) [])
  | _ => none) (by
   intro args pre out h hp
   split at h
   ·obtain ⟨rfl, rfl⟩ := spE h;simp only [Bool.and_eq_true] at hp;exact z191 _ _ _ (zh.1 hp.1) (zh.1 hp.2)
   ·simp at h)
end Go.Proofs.YtehaohfglolljaaGreatDoor
namespace Go.Proofs.YtehaohfglolljaaGreatDoor
open Go Go.V Go.Cha
set_option maxHeartbeats 0
set_option maxRecDepth 100000
theorem z1cu (full : Bool) (b : List UInt8) (K : AV → Heap → Prop) : walk Tryz.E RS T0.C (fun _ _ => .unroll 10) 5 143 [.vec8 full b] K = (
 let x0 : Nat := b.length
 let x1 : Bool := leB (0 + x0) x0
 cnd ((inB 7 x0) && true)
 (cnd (x1)
 (cnd ((inB 6 x0) && true)
 (cnd (x1)
 (cnd ((inB 5 x0) && true)
 (cnd (x1)
 (cnd ((inB 4 x0) && true)
 (cnd (x1)
 (cnd ((inB 3 x0) && true)
 (cnd (x1)
 (cnd ((inB 2 x0) && true)
 (cnd (x1)
 (cnd ((inB 1 x0) && true)
 (cnd (x1)
 (cnd ((inB 0 x0) && true)
 (cnd (x1)
 (K (.u64 ((z2n ((z2n ((z2n ((z2n ((z2n ((z2n ((z2n (0 ||| (UInt8.toUInt64 (List.getD b 7 0))) 8) ||| (UInt8.toUInt64 (List.getD b 6 0))) 8) ||| (UInt8.toUInt64 (List.getD b 5 0))) 8) ||| (UInt8.toUInt64 (List.getD b 4 0))) 8) ||| (UInt8.toUInt64 (List.getD b 3 0))) 8) ||| (UInt8.toUInt64 (List.getD b 2 0))) 8) ||| (UInt8.toUInt64 (List.getD b 1 0))) 8) ||| (UInt8.toUInt64 (List.getD b 0 0)))) []))))))))))))))))) := by kernel_rfl
theorem z17a (a0 a1 a2 b0 b1 b2 : UInt64) (K : AV → Heap → Prop) : walk Tryz.E RS T0.C (fun _ _ => .unroll 10) 5 145 [.w64 3 [a0, a1, a2], .w64 3 [b0, b1, b2]] K = (
 let x0 : UInt64 := (List.getD [a0, a1, a2] 0 0)
 let x1 : UInt64 := (List.getD [b0, b1, b2] 0 0)
 let x2 : UInt64 := (zg x0 x1 0)
 let x3 : List UInt64 := (List.set [a0, a1, a2] 0 ((x0 + x1) + 0))
 let x4 : UInt64 := (List.getD x3 1 0)
 let x5 : UInt64 := (List.getD [b0, b1, b2] 1 0)
 let x6 : UInt64 := (zg x4 x5 x2)
 let x7 : List UInt64 := (List.set x3 1 ((x4 + x5) + x2))
 cnd (z3s x2)
 (cnd (z3s x6)
 (K (.w64 3 (List.set x7 2 (((List.getD x7 2 0) + (List.getD [b0, b1, b2] 2 0)) + x6))) []))) := by kernel_rfl
theorem z19e (x y : UInt64) (K : AV → Heap → Prop) : walk Tryz.E RS T0.C (fun _ _ => .unroll 10) 5 103 [.u64 x, .u64 y] K = (
 let x0 : UInt64 := (y &&& 4294967295)
 let x1 : UInt64 := (x &&& 4294967295)
 let x2 : UInt64 := (((ze x 32) * x0) + (ze (x1 * x0) 32))
 K (.tup [.u64 ((((ze x 32) * (ze y 32)) + (ze x2 32)) + (ze ((x2 &&& 4294967295) + (x1 * (ze y 32))) 32)), .u64 (x * y)]) []) := by kernel_rfl
end Go.Proofs.YtehaohfglolljaaGreatDoor
namespace Go.Proofs.YtehaohfglolljaaGreatDoor
open Go Go.V Go.Fld Go.Pol
set_option maxRecDepth 100000
theorem z1ey (full : Bool) (b : List UInt8) (h : b.length = 8) : HCall Tryz.E 143 [.vec8 full b] (.ret (.u64 (halfS b)) []) := by
 refine HCall.z1lg (R := RS) (T := T0) (fun _ _ => .unroll 10) 5 rfl rfl ?_
 rw [z1cu, z195, h];exact ⟨rfl, rfl⟩
theorem z1c7 (a b : List UInt64) : HCall Tryz.E 145 [.w64 3 a, .w64 3 b] (.ret (.w64 3 (w3 (v3 a + v3 b))) []) := by
 refine HCall.z1lj rfl rfl fun hl => ?_
 have ha : a.length = 3 := hl _ (List.mem_cons_self ..);have hb : b.length = 3 := hl (.w64 3 b) (by simp)
 rw [eta3 ha, eta3 hb];generalize a.getD 0 0 = a0; generalize a.getD 1 0 = a1; generalize a.getD 2 0 = a2
 generalize b.getD 0 0 = b0; generalize b.getD 1 0 = b1; generalize b.getD 2 0 = b2
 refine HCall.z1lg (R := RS) (T := T0) (fun _ _ => .unroll 10) 5 rfl rfl ?_
 rw [z17a];simp only [List.getD_cons_zero, List.getD_cons_succ, List.set_cons_zero, List.set_cons_succ, z3s, z6b, z1r];refine ⟨?_, rfl⟩
 congr 1
 symm;have z : (0 : UInt64).toNat = 0 := rfl;have p0 := z6g a0 b0 0 (by decide)
 have p1 := z6g a1 b1 _ p0.2;have p2 := z6g a2 b2 _ p1.2;generalize zg a0 b0 0 = c0 at *;generalize zg a1 b1 c0 = c1 at *;generalize zg a2 b2 c1 = c2 at *;apply z12j;rw [z8k, z8k];have := z25 (a2 + b2 + c1);have := z25 (a1 + b1 + c0);have := z25 (a0 + b0 + 0);have := z25 a2;have := z25 b2;omega
theorem z1c8 (x y : UInt64) : HCall Tryz.E 103 [.u64 x, .u64 y] (.ret (.tup [.u64 (mulhi x y), .u64 (x * y)]) []) := by
 refine HCall.z1lg (R := RS) (T := T0) (fun _ _ => .unroll 10) 5 rfl rfl ?_
 rw [z19e];refine ⟨?_, rfl⟩;rw [zme, ← mul64_hi]
def P1 : Ctr Tryz.E := ((T0.add 143 (fun
  | [.vec8 _ b] => some (b.length == 8, .ret (.u64 (halfS b)) [])
  | _ => none) (by
   intro args pre out h hp
   split at h
   ·obtain ⟨rfl, rfl⟩ := spE h;exact z1ey _ _ (by simpa using hp)
   ·simp at h)).add 145 (fun
  | [.w64 3 a, .w64 3 b] => some (true, .ret (.w64 3 (w3 (v3 a + v3 b))) [])
  | _ => none) (by
   intro args pre out h hp
   split at h
   ·obtain ⟨rfl, rfl⟩ := spE h;exact z1c7 _ _
   ·simp at h)).add 103 (fun
  | [.u64 x, .u64 y] => some (true, .ret (.tup [.u64 (mulhi x y), .u64 (x * y)]) [])
  | _ => none) (by
   intro args pre out h hp
   split at h
   ·obtain ⟨rfl, rfl⟩ := spE h;exact z1c8 _ _
   ·simp at h)
set_option maxHeartbeats 0
theorem z1ah (a0 a1 a2 r0 r1 : UInt64) (K : AV → Heap → Prop) : walk Tryz.E RS P1.C (fun _ l => bif l == 23 then .unroll 3 else .unroll 10) 5 144 [.w64 3 [a0, a1, a2], .w64 2 [r0, r1]] K = (
 let x0 : UInt64 := (List.getD [a0, a1, a2] 0 0)
 let x1 : UInt64 := (List.getD [r0, r1] 0 0)
 let x2 : UInt64 := (((x0 * x1) + 0) + 0)
 let x3 : List UInt64 := (List.set [0, 0, 0, 0, 0] 0 ((x2 + 0) + 0))
 let x4 : UInt64 := (List.getD [r0, r1] 1 0)
 let x5 : UInt64 := (List.getD x3 1 0)
 let x6 : UInt64 := (((x0 * x4) + x5) + 0)
 let x7 : UInt64 := (((Fld.mulhi x0 x1) + (zg (x0 * x1) 0 0)) + (zg x2 0 0))
 let x8 : List UInt64 := (List.set (List.set x3 1 ((x6 + x7) + 0)) 2 (((Fld.mulhi x0 x4) + (zg (x0 * x4) x5 0)) + (zg x6 x7 0)))
 let x9 : UInt64 := (List.getD [a0, a1, a2] 1 0)
 let x10 : UInt64 := (List.getD x8 1 0)
 let x11 : UInt64 := (((x9 * x1) + x10) + 0)
 let x12 : List UInt64 := (List.set x8 1 ((x11 + 0) + 0))
 let x13 : UInt64 := (List.getD x12 2 0)
 let x14 : UInt64 := (((x9 * x4) + x13) + 0)
 let x15 : UInt64 := (((Fld.mulhi x9 x1) + (zg (x9 * x1) x10 0)) + (zg x11 0 0))
 let x16 : List UInt64 := (List.set (List.set x12 2 ((x14 + x15) + 0)) 3 (((Fld.mulhi x9 x4) + (zg (x9 * x4) x13 0)) + (zg x14 x15 0)))
 let x17 : UInt64 := (List.getD [a0, a1, a2] 2 0)
 let x18 : UInt64 := (List.getD x16 2 0)
 let x19 : UInt64 := (((x17 * x1) + x18) + 0)
 let x20 : List UInt64 := (List.set x16 2 ((x19 + 0) + 0))
 let x21 : UInt64 := (List.getD x20 3 0)
 let x22 : UInt64 := (((x17 * x4) + x21) + 0)
 let x23 : UInt64 := (((Fld.mulhi x17 x1) + (zg (x17 * x1) x18 0)) + (zg x19 0 0))
 let x24 : List UInt64 := (List.set (List.set x20 3 ((x22 + x23) + 0)) 4 (((Fld.mulhi x17 x4) + (zg (x17 * x4) x21 0)) + (zg x22 x23 0)))
 let x25 : UInt64 := (List.getD x24 2 0)
 let x26 : UInt64 := (List.getD x24 3 0)
 let x27 : UInt64 := (List.getD x24 4 0)
 let x28 : Nat := (Pol.v3 (List.set (List.set (List.set [0, 0, 0] 0 ((ze x25 2) ||| (z2n x26 62))) 1 ((ze x26 2) ||| (z2n x27 62))) 2 (ze x27 2)))
 let x29 : List UInt64 := (Pol.w3 ((Pol.v3 (Pol.w3 ((Pol.v3 (Pol.w3 ((Pol.v3 (Pol.w3 ((Pol.v3 (Pol.w3 ((Pol.v3 (List.set (List.set (List.set [0, 0, 0] 0 (List.getD x24 0 0)) 1 (List.getD x24 1 0)) 2 (x25 &&& 3))) + x28))) + x28))) + x28))) + x28))) + x28))
 let x30 : UInt64 := (List.getD x29 2 0)
 let x31 : List UInt64 := (Pol.w3 ((Pol.v3 (List.set x29 2 (x30 &&& 3))) + (Pol.v3 (List.set [0, 0, 0] 0 (5 * (ze x30 2))))))
 let x32 : UInt64 := (List.getD x31 2 0)
 let x33 : List UInt64 := (Pol.w3 ((Pol.v3 (List.set x31 2 (x32 &&& 3))) + (Pol.v3 (List.set [0, 0, 0] 0 (5 * (ze x32 2))))))
 let x34 : Nat := (Pol.v3 (List.set [0, 0, 0] 0 5))
 let x35 : List UInt64 := (Pol.w3 ((Pol.v3 x33) + x34))
 let x36 : UInt64 := (List.getD x35 2 0)
 let x37 : List UInt64 := (Pol.w3 ((Pol.v3 x31) + x34))
 let x38 : UInt64 := (List.getD x37 2 0)
 let x39 : List UInt64 := (Pol.w3 ((Pol.v3 x29) + x34))
 let x40 : UInt64 := (List.getD x39 2 0)
 za (ltI 3 (((UInt64.toNat x30) : Nat) : Int))
 (za (ltI 3 (((UInt64.toNat x32) : Nat) : Int))
 (za (ltI 3 (((UInt64.toNat (List.getD x33 2 0)) : Nat) : Int))
 (False)
 (za (ltI 3 (((UInt64.toNat x36) : Nat) : Int))
 (K (.w64 3 (List.set x35 2 (x36 &&& 3))) [])
 (K (.w64 3 x33) [])))
 (za (ltI 3 (((UInt64.toNat x38) : Nat) : Int))
 (K (.w64 3 (List.set x37 2 (x38 &&& 3))) [])
 (K (.w64 3 x31) [])))
 (za (ltI 3 (((UInt64.toNat x40) : Nat) : Int))
 (K (.w64 3 (List.set x39 2 (x40 &&& 3))) [])
 (K (.w64 3 x29) []))) := by kernel_rfl
theorem z1cc (a r : List UInt64) (ha : v3 a < 2722258935367507707706996859454145691648) (hr : v2 r < 21267647932558653966460912964485513216) : HCall Tryz.E 144 [.w64 3 a, .w64 2 r] (.ret (.w64 3 (w3 (v3 a * v2 r % q))) []) := by
 refine HCall.z1lj rfl rfl fun hl => ?_
 have hla : a.length = 3 := hl _ (List.mem_cons_self ..);have hlr : r.length = 2 := hl (.w64 2 r) (by simp)
 rw [eta3 hla] at ha ⊢;rw [eta2 hlr] at hr ⊢;generalize a.getD 0 0 = a0 at *; generalize a.getD 1 0 = a1 at *; generalize a.getD 2 0 = a2 at *
 generalize r.getD 0 0 = r0 at *; generalize r.getD 1 0 = r1 at *
 refine HCall.z1lg (R := RS) (T := P1) (fun _ l => bif l == 23 then .unroll 3 else .unroll 10) 5 rfl rfl ?_
 rw [z1ah];rw [z8k] at ha ⊢;rw [z1bi] at hr ⊢;intro x0 x1 x2 x3 x4 x5 x6 x7 x8 x9 x10 x11 x12 x13 x14 x15 x16 x17 x18 x19 x20 x21 x22 x23 x24 x25 x26 x27 x28 x29 x30 x31 x32 x33 x34 x35 x36 x37 x38 x39 x40;have hV : (a0.toNat + 18446744073709551616 * a1.toNat + 340282366920938463463374607431768211456 * a2.toNat) * (r0.toNat + 18446744073709551616 * r1.toNat) < 57896044618658097711785492504343953926634992332820282019728792003956564819968 :=
  Nat.lt_of_lt_of_le (Nat.mul_lt_mul'' ha hr) (by decide)
 have z : (0 : UInt64).toNat = 0 := rfl;have c0 : (x24.getD 0 0).toNat + 18446744073709551616 * x7.toNat = a0.toNat * r0.toNat + (0 : UInt64).toNat + (0 : UInt64).toNat := cell a0 r0 0 0;have c1 : x10.toNat + 18446744073709551616 * x13.toNat = a0.toNat * r1.toNat + (0 : UInt64).toNat + x7.toNat := cell a0 r1 0 x7;have c2 : (x24.getD 1 0).toNat + 18446744073709551616 * x15.toNat = a1.toNat * r0.toNat + x10.toNat + (0 : UInt64).toNat := cell a1 r0 x10 0;have c3 : x18.toNat + 18446744073709551616 * x21.toNat = a1.toNat * r1.toNat + x13.toNat + x15.toNat := cell a1 r1 x13 x15;have c4 : x25.toNat + 18446744073709551616 * x23.toNat = a2.toNat * r0.toNat + x18.toNat + (0 : UInt64).toNat := cell a2 r0 x18 0;have c5 : x26.toNat + 18446744073709551616 * x27.toNat = a2.toNat * r1.toNat + x21.toNat + x23.toNat := cell a2 r1 x21 x23;rw [z] at c0 c1 c2 c4;have hp := z1kd c0 c1 c2 c3 c4 c5;have e29 : x29 = w3 (v3 (w3 (v3 (w3 (v3 (w3 (v3 (w3 (v3 [x24.getD 0 0, x24.getD 1 0, x25 &&& 3] + x28)) + x28)) + x28)) + x28)) + x28) := rfl;have e28 : x28 = v3 [ze x25 2 ||| z2n x26 62, ze x26 2 ||| z2n x27 62, ze x27 2] := rfl;have e31 : x31 = w3 (v3 (x29.set 2 (x29.getD 2 0 &&& 3)) + v3 [5 * ze (x29.getD 2 0) 2, 0, 0]) := rfl;have e34 : x34 = v3 [5, 0, 0] := rfl;have e37 : x37 = w3 (v3 x31 + x34) := rfl;have e39 : x39 = w3 (v3 x29 + x34) := rfl;have e30 : x30 = x29.getD 2 0 := rfl;have e32 : x32 = x31.getD 2 0 := rfl;have e38 : x38 = x37.getD 2 0 := rfl;have e40 : x40 = x39.getD 2 0 := rfl
 clear_value x40 x39 x38 x37 x36 x35 x34 x33 x32 x31 x30 x29 x28 x27 x26 x25
 generalize x24.getD 0 0 = l0 at c0 hp e29;generalize x24.getD 1 0 = l1 at c2 hp e29;clear c0 c1 c2 c3 c4 c5 z;clear x24 x23 x22 x21 x20 x19 x18 x17 x16 x15 x14 x13 x12 x11 x10 x9 x8 x7 x6 x5 x4 x3 x2 x1 x0;rw [← hp] at hV ⊢;have b0 := z25 l0; have b1 := z25 l1; have b2 := z25 x25; have b3 := z25 x26; have b4 := z25 x27
 clear hp ha hr;rw [z8k, join, join, shr2, z1jc (l3 := x26.toNat) (l4 := x27.toNat) b0 b1] at e28;rw [z8k, and3, z1k7 (l3 := x26.toNat) (l4 := x27.toNat) b0 b1] at e29;subst e30 e32 e38 e40;generalize l0.toNat + 18446744073709551616 * l1.toNat + 340282366920938463463374607431768211456 * x25.toNat + 6277101735386680763835789423207666416102355444464034512896 * x26.toNat + 115792089237316195423570985008687907853269984665640564039457584007913129639936 * x27.toNat = V at *;have key := last e28 e29 e31 e34 e37 e39 hV;rcases key with ⟨k1, k2, k3⟩ | ⟨k1, k2, k3⟩ | ⟨k1, k2, k3⟩
 ·rw [k1, k2];exact ⟨by rw [k3], rfl⟩
 ·rw [k1, k2];exact ⟨by rw [k3], rfl⟩
 ·rw [k1, k2.1, k2.2];exact ⟨by rw [k3], rfl⟩
def P2 : Ctr Tryz.E := P1.add 144 (fun
  | [.w64 3 a, .w64 2 r] => some (ltQ (v3 a) 2722258935367507707706996859454145691648 && ltQ (v2 r) 21267647932558653966460912964485513216, .ret (.w64 3 (w3 (v3 a * v2 r % q))) [])
  | _ => none) (by
   intro args pre out h hp
   split at h
   ·obtain ⟨rfl, rfl⟩ := spE h;rw [Bool.and_eq_true, zfo, zfo] at hp;exact z1cc _ _ hp.1 hp.2
   ·simp at h)
theorem z1e5 (r p a : List UInt64) (h : List UInt8) (n : Int) (K : AV → Heap → Prop) : walk Tryz.E RS P2.C (fun _ _ => .unroll 17) 5 142 [.agg [.w64 2 r, .w64 2 p, .w64 3 a, .b8 16 h, .int .i64 n]] K = (
 let x0 : List UInt8 := (List.take 8 h)
 let x1 : List UInt8 := (List.drop 8 h)
 let x2 : Int := (wr .i64 (Int.tdiv n 8))
 let x3 : Int := (wr .i64 (8 * (Int.tmod n 8)))
 let x4 : List UInt64 := (List.set (List.set (List.set [0, 0, 0] 0 (Pol.halfS x0)) 1 (Pol.halfS x1)) 2 1)
 let x5 : List UInt64 := (List.set x4 2 0)
 let x6 : Nat := (Pol.v3 (Pol.w3 ((Pol.v3 a) + (Pol.v3 (List.set x5 (ofs 0 x2) ((List.getD x5 (ofs 0 x2) 0) ||| (z2n 1 (Int.toNat x3))))))))
 let x7 : Nat := 2722258935367507707706996859454145691648
 let x8 : Bool := (Pol.ltQ (Pol.v2 r) 21267647932558653966460912964485513216)
 let x9 : Nat := 1361129467683753853853498429727072845819
 let x10 : Nat := (Pol.v3 (Pol.w3 ((Pol.v3 a) + (Pol.v3 x4))))
 cnd (x0.length == 8)
 (cnd (x1.length == 8)
 (za (ltI n 16)
 (cnd (inB x2 3)
 (cnd (nnB x3)
 (cnd (inB x2 3)
 (cnd ((Pol.ltQ x6 x7) && x8)
 (K (.agg [.w64 2 r, .w64 2 p, .w64 3 (Pol.w3 ((x6 * (Pol.v2 r)) % x9)), .b8 16 [0, 0, 0, 0, 0, 0, 0, 0, 0, 0, 0, 0, 0, 0, 0, 0], .int .i64 0]) [])))))
 (cnd ((Pol.ltQ x10 x7) && x8)
 (K (.agg [.w64 2 r, .w64 2 p, .w64 3 (Pol.w3 ((x10 * (Pol.v2 r)) % x9)), .b8 16 [0, 0, 0, 0, 0, 0, 0, 0, 0, 0, 0, 0, 0, 0, 0, 0], .int .i64 0]) []))))) := by kernel_rfl
theorem z177 (k : List UInt8) (K : AV → Heap → Prop) : walk Tryz.E RS P2.C (fun _ _ => .unroll 17) 5 138 [.b8 32 k] K = (
 let x0 : List UInt8 := (List.take 8 k)
 let x1 : List UInt8 := (List.take 8 (List.drop 8 k))
 let x2 : List UInt8 := (List.take 8 (List.drop 16 k))
 let x3 : List UInt8 := (List.drop 24 k)
 cnd (x0.length == 8)
 (cnd (x1.length == 8)
 (cnd (x2.length == 8)
 (cnd (x3.length == 8)
 (K (.agg [.w64 2 (List.set (List.set [0, 0] 0 ((Pol.halfS x0) &&& 1152921487695413247)) 1 ((Pol.halfS x1) &&& 1152921487695413244)), .w64 2 (List.set (List.set [0, 0] 0 (Pol.halfS x2)) 1 (Pol.halfS x3)), .w64 3 [0, 0, 0], .b8 16 [0, 0, 0, 0, 0, 0, 0, 0, 0, 0, 0, 0, 0, 0, 0, 0], .int .i64 0]) []))))) := by kernel_rfl
theorem z152 (r p a : List UInt64) (K : AV → Heap → Prop) : walk Tryz.E RS P2.C (fun _ _ => .unroll 17) 5 141 [.agg [.w64 2 r, .w64 2 p, .w64 3 a, .b8 16 [0, 0, 0, 0, 0, 0, 0, 0, 0, 0, 0, 0, 0, 0, 0, 0], .int .i64 0]] K = (
 let x0 : Int := (((UInt64.toNat (List.getD a 2 0)) : Nat) : Int)
 za ((((UInt64.toNat ((List.getD r 0 0) &&& 17293822586014138368)) : Nat) : Int) != 0)
 (K (.int .i64 9) [])
 (za (cond false true ((((UInt64.toNat ((List.getD r 1 0) &&& 17293822586014138371)) : Nat) : Int) != 0))
 (K (.int .i64 9) [])
 (za (cond false true (ltI 3 x0))
 (K (.int .i64 9) [])
 (za (x0 == 3)
 (za (cond true ((((UInt64.toNat (List.getD a 1 0)) : Nat) : Int) == 18446744073709551615) false)
 (za (cond false true (cond true (Bool.not (ltI (((UInt64.toNat (List.getD a 0 0)) : Nat) : Int) 18446744073709551611)) false))
 (K (.int .i64 9) [])
 (K (.int .i64 0) []))
 (K (.int .i64 0) []))
 (K (.int .i64 0) []))))) := by kernel_rfl
theorem z158 (r p a : List UInt64) (h0 : UInt8) (K : AV → Heap → Prop) : walk Tryz.E RS P2.C (fun _ _ => .unroll 17) 5 141 [.agg [.w64 2 r, .w64 2 p, .w64 3 a, .b8 16 [h0, 0, 0, 0, 0, 0, 0, 0, 0, 0, 0, 0, 0, 0, 0, 0], .int .i64 1]] K = (
 let x0 : Int := (((UInt64.toNat (List.getD a 2 0)) : Nat) : Int)
 za ((((UInt64.toNat ((List.getD r 0 0) &&& 17293822586014138368)) : Nat) : Int) != 0)
 (K (.int .i64 9) [])
 (za (cond false true ((((UInt64.toNat ((List.getD r 1 0) &&& 17293822586014138371)) : Nat) : Int) != 0))
 (K (.int .i64 9) [])
 (za (cond false true (ltI 3 x0))
 (K (.int .i64 9) [])
 (za (x0 == 3)
 (za (cond true ((((UInt64.toNat (List.getD a 1 0)) : Nat) : Int) == 18446744073709551615) false)
 (za (cond false true (cond true (Bool.not (ltI (((UInt64.toNat (List.getD a 0 0)) : Nat) : Int) 18446744073709551611)) false))
 (K (.int .i64 9) [])
 (K (.int .i64 0) []))
 (K (.int .i64 0) []))
 (K (.int .i64 0) []))))) := by kernel_rfl
theorem z16l (r p a : List UInt64) (h0 h1 : UInt8) (K : AV → Heap → Prop) : walk Tryz.E RS P2.C (fun _ _ => .unroll 17) 5 141 [.agg [.w64 2 r, .w64 2 p, .w64 3 a, .b8 16 [h0, h1, 0, 0, 0, 0, 0, 0, 0, 0, 0, 0, 0, 0, 0, 0], .int .i64 2]] K = (
 let x0 : Int := (((UInt64.toNat (List.getD a 2 0)) : Nat) : Int)
 za ((((UInt64.toNat ((List.getD r 0 0) &&& 17293822586014138368)) : Nat) : Int) != 0)
 (K (.int .i64 9) [])
 (za (cond false true ((((UInt64.toNat ((List.getD r 1 0) &&& 17293822586014138371)) : Nat) : Int) != 0))
 (K (.int .i64 9) [])
 (za (cond false true (ltI 3 x0))
 (K (.int .i64 9) [])
 (za (x0 == 3)
 (za (cond true ((((UInt64.toNat (List.getD a 1 0)) : Nat) : Int) == 18446744073709551615) false)
 (za (cond false true (cond true (Bool.not (ltI (((UInt64.toNat (List.getD a 0 0)) : Nat) : Int) 18446744073709551611)) false))
 (K (.int .i64 9) [])
 (K (.int .i64 0) []))
 (K (.int .i64 0) []))
 (K (.int .i64 0) []))))) := by kernel_rfl
theorem z13q (r p a : List UInt64) (h0 h1 h2 : UInt8) (K : AV → Heap → Prop) : walk Tryz.E RS P2.C (fun _ _ => .unroll 17) 5 141 [.agg [.w64 2 r, .w64 2 p, .w64 3 a, .b8 16 [h0, h1, h2, 0, 0, 0, 0, 0, 0, 0, 0, 0, 0, 0, 0, 0], .int .i64 3]] K = (
 let x0 : Int := (((UInt64.toNat (List.getD a 2 0)) : Nat) : Int)
 za ((((UInt64.toNat ((List.getD r 0 0) &&& 17293822586014138368)) : Nat) : Int) != 0)
 (K (.int .i64 9) [])
 (za (cond false true ((((UInt64.toNat ((List.getD r 1 0) &&& 17293822586014138371)) : Nat) : Int) != 0))
 (K (.int .i64 9) [])
 (za (cond false true (ltI 3 x0))
 (K (.int .i64 9) [])
 (za (x0 == 3)
 (za (cond true ((((UInt64.toNat (List.getD a 1 0)) : Nat) : Int) == 18446744073709551615) false)
 (za (cond false true (cond true (Bool.not (ltI (((UInt64.toNat (List.getD a 0 0)) : Nat) : Int) 18446744073709551611)) false))
 (K (.int .i64 9) [])
 (K (.int .i64 0) []))
 (K (.int .i64 0) []))
 (K (.int .i64 0) []))))) := by kernel_rfl
theorem z166 (r p a : List UInt64) (h0 h1 h2 h3 : UInt8) (K : AV → Heap → Prop) : walk Tryz.E RS P2.C (fun _ _ => .unroll 17) 5 141 [.agg [.w64 2 r, .w64 2 p, .w64 3 a, .b8 16 [h0, h1, h2, h3, 0, 0, 0, 0, 0, 0, 0, 0, 0, 0, 0, 0], .int .i64 4]] K = (
 let x0 : Int := (((UInt64.toNat (List.getD a 2 0)) : Nat) : Int)
 za ((((UInt64.toNat ((List.getD r 0 0) &&& 17293822586014138368)) : Nat) : Int) != 0)
 (K (.int .i64 9) [])
 (za (cond false true ((((UInt64.toNat ((List.getD r 1 0) &&& 17293822586014138371)) : Nat) : Int) != 0))
 (K (.int .i64 9) [])
 (za (cond false true (ltI 3 x0))
 (K (.int .i64 9) [])
 (za (x0 == 3)
 (za (cond true ((((UInt64.toNat (List.getD a 1 0)) : Nat) : Int) == 18446744073709551615) false)
 (za (cond false true (cond true (Bool.not (ltI (((UInt64.toNat (List.getD a 0 0)) : Nat) : Int) 18446744073709551611)) false))
 (K (.int .i64 9) [])
 (K (.int .i64 0) []))
 (K (.int .i64 0) []))
 (K (.int .i64 0) []))))) := by kernel_rfl
theorem z15s (r p a : List UInt64) (h0 h1 h2 h3 h4 : UInt8) (K : AV → Heap → Prop) : walk Tryz.E RS P2.C (fun _ _ => .unroll 17) 5 141 [.agg [.w64 2 r, .w64 2 p, .w64 3 a, .b8 16 [h0, h1, h2, h3, h4, 0, 0, 0, 0, 0, 0, 0, 0, 0, 0, 0], .int .i64 5]] K = (
 let x0 : Int := (((UInt64.toNat (List.getD a 2 0)) : Nat) : Int)
 za ((((UInt64.toNat ((List.getD r 0 0) &&& 17293822586014138368)) : Nat) : Int) != 0)
 (K (.int .i64 9) [])
 (za (cond false true ((((UInt64.toNat ((List.getD r 1 0) &&& 17293822586014138371)) : Nat) : Int) != 0))
 (K (.int .i64 9) [])
 (za (cond false true (ltI 3 x0))
 (K (.int .i64 9) [])
 (za (x0 == 3)
 (za (cond true ((((UInt64.toNat (List.getD a 1 0)) : Nat) : Int) == 18446744073709551615) false)
 (za (cond false true (cond true (Bool.not (ltI (((UInt64.toNat (List.getD a 0 0)) : Nat) : Int) 18446744073709551611)) false))
 (K (.int .i64 9) [])
 (K (.int .i64 0) []))
 (K (.int .i64 0) []))
 (K (.int .i64 0) []))))) := by kernel_rfl
theorem z149 (r p a : List UInt64) (h0 h1 h2 h3 h4 h5 : UInt8) (K : AV → Heap → Prop) : walk Tryz.E RS P2.C (fun _ _ => .unroll 17) 5 141 [.agg [.w64 2 r, .w64 2 p, .w64 3 a, .b8 16 [h0, h1, h2, h3, h4, h5, 0, 0, 0, 0, 0, 0, 0, 0, 0, 0], .int .i64 6]] K = (
 let x0 : Int := (((UInt64.toNat (List.getD a 2 0)) : Nat) : Int)
 za ((((UInt64.toNat ((List.getD r 0 0) &&& 17293822586014138368)) : Nat) : Int) != 0)
 (K (.int .i64 9) [])
 (za (cond false true ((((UInt64.toNat ((List.getD r 1 0) &&& 17293822586014138371)) : Nat) : Int) != 0))
 (K (.int .i64 9) [])
 (za (cond false true (ltI 3 x0))
 (K (.int .i64 9) [])
 (za (x0 == 3)
 (za (cond true ((((UInt64.toNat (List.getD a 1 0)) : Nat) : Int) == 18446744073709551615) false)
 (za (cond false true (cond true (Bool.not (ltI (((UInt64.toNat (List.getD a 0 0)) : Nat) : Int) 18446744073709551611)) false))
 (K (.int .i64 9) [])
 (K (.int .i64 0) []))
 (K (.int .i64 0) []))
 (K (.int .i64 0) []))))) := by kernel_rfl
theorem z161 (r p a : List UInt64) (h0 h1 h2 h3 h4 h5 h6 : UInt8) (K : AV → Heap → Prop) : walk Tryz.E RS P2.C (fun _ _ => .unroll 17) 5 141 [.agg [.w64 2 r, .w64 2 p, .w64 3 a, .b8 16 [h0, h1, h2, h3, h4, h5, h6, 0, 0, 0, 0, 0, 0, 0, 0, 0], .int .i64 7]] K = (
 let x0 : Int := (((UInt64.toNat (List.getD a 2 0)) : Nat) : Int)
 za ((((UInt64.toNat ((List.getD r 0 0) &&& 17293822586014138368)) : Nat) : Int) != 0)
 (K (.int .i64 9) [])
 (za (cond false true ((((UInt64.toNat ((List.getD r 1 0) &&& 17293822586014138371)) : Nat) : Int) != 0))
 (K (.int .i64 9) [])
 (za (cond false true (ltI 3 x0))
 (K (.int .i64 9) [])
 (za (x0 == 3)
 (za (cond true ((((UInt64.toNat (List.getD a 1 0)) : Nat) : Int) == 18446744073709551615) false)
 (za (cond false true (cond true (Bool.not (ltI (((UInt64.toNat (List.getD a 0 0)) : Nat) : Int) 18446744073709551611)) false))
 (K (.int .i64 9) [])
 (K (.int .i64 0) []))
 (K (.int .i64 0) []))
 (K (.int .i64 0) []))))) := by kernel_rfl
theorem z14u (r p a : List UInt64) (h0 h1 h2 h3 h4 h5 h6 h7 : UInt8) (K : AV → Heap → Prop) : walk Tryz.E RS P2.C (fun _ _ => .unroll 17) 5 141 [.agg [.w64 2 r, .w64 2 p, .w64 3 a, .b8 16 [h0, h1, h2, h3, h4, h5, h6, h7, 0, 0, 0, 0, 0, 0, 0, 0], .int .i64 8]] K = (
 let x0 : Int := (((UInt64.toNat (List.getD a 2 0)) : Nat) : Int)
 za ((((UInt64.toNat ((List.getD r 0 0) &&& 17293822586014138368)) : Nat) : Int) != 0)
 (K (.int .i64 9) [])
 (za (cond false true ((((UInt64.toNat ((List.getD r 1 0) &&& 17293822586014138371)) : Nat) : Int) != 0))
 (K (.int .i64 9) [])
 (za (cond false true (ltI 3 x0))
 (K (.int .i64 9) [])
 (za (x0 == 3)
 (za (cond true ((((UInt64.toNat (List.getD a 1 0)) : Nat) : Int) == 18446744073709551615) false)
 (za (cond false true (cond true (Bool.not (ltI (((UInt64.toNat (List.getD a 0 0)) : Nat) : Int) 18446744073709551611)) false))
 (K (.int .i64 9) [])
 (K (.int .i64 0) []))
 (K (.int .i64 0) []))
 (K (.int .i64 0) []))))) := by kernel_rfl
theorem z14s (r p a : List UInt64) (h0 h1 h2 h3 h4 h5 h6 h7 h8 : UInt8) (K : AV → Heap → Prop) : walk Tryz.E RS P2.C (fun _ _ => .unroll 17) 5 141 [.agg [.w64 2 r, .w64 2 p, .w64 3 a, .b8 16 [h0, h1, h2, h3, h4, h5, h6, h7, h8, 0, 0, 0, 0, 0, 0, 0], .int .i64 9]] K = (
 let x0 : Int := (((UInt64.toNat (List.getD a 2 0)) : Nat) : Int)
 za ((((UInt64.toNat ((List.getD r 0 0) &&& 17293822586014138368)) : Nat) : Int) != 0)
 (K (.int .i64 9) [])
 (za (cond false true ((((UInt64.toNat ((List.getD r 1 0) &&& 17293822586014138371)) : Nat) : Int) != 0))
 (K (.int .i64 9) [])
 (za (cond false true (ltI 3 x0))
 (K (.int .i64 9) [])
 (za (x0 == 3)
 (za (cond true ((((UInt64.toNat (List.getD a 1 0)) : Nat) : Int) == 18446744073709551615) false)
 (za (cond false true (cond true (Bool.not (ltI (((UInt64.toNat (List.getD a 0 0)) : Nat) : Int) 18446744073709551611)) false))
 (K (.int .i64 9) [])
 (K (.int .i64 0) []))
 (K (.int .i64 0) []))
 (K (.int .i64 0) []))))) := by kernel_rfl
theorem z125 (r p a : List UInt64) (h0 h1 h2 h3 h4 h5 h6 h7 h8 h9 : UInt8) (K : AV → Heap → Prop) : walk Tryz.E RS P2.C (fun _ _ => .unroll 17) 5 141 [.agg [.w64 2 r, .w64 2 p, .w64 3 a, .b8 16 [h0, h1, h2, h3, h4, h5, h6, h7, h8, h9, 0, 0, 0, 0, 0, 0], .int .i64 10]] K = (
 let x0 : Int := (((UInt64.toNat (List.getD a 2 0)) : Nat) : Int)
 za ((((UInt64.toNat ((List.getD r 0 0) &&& 17293822586014138368)) : Nat) : Int) != 0)
 (K (.int .i64 9) [])
 (za (cond false true ((((UInt64.toNat ((List.getD r 1 0) &&& 17293822586014138371)) : Nat) : Int) != 0))
 (K (.int .i64 9) [])
 (za (cond false true (ltI 3 x0))
 (K (.int .i64 9) [])
 (za (x0 == 3)
 (za (cond true ((((UInt64.toNat (List.getD a 1 0)) : Nat) : Int) == 18446744073709551615) false)
 (za (cond false true (cond true (Bool.not (ltI (((UInt64.toNat (List.getD a 0 0)) : Nat) : Int) 18446744073709551611)) false))
 (K (.int .i64 9) [])
 (K (.int .i64 0) []))
 (K (.int .i64 0) []))
 (K (.int .i64 0) []))))) := by kernel_rfl
theorem z114 (r p a : List UInt64) (h0 h1 h2 h3 h4 h5 h6 h7 h8 h9 h10 : UInt8) (K : AV → Heap → Prop) : walk Tryz.E RS P2.C (fun _ _ => .unroll 17) 5 141 [.agg [.w64 2 r, .w64 2 p, .w64 3 a, .b8 16 [h0, h1, h2, h3, h4, h5, h6, h7, h8, h9, h10, 0, 0, 0, 0, 0], .int .i64 11]] K = (
 let x0 : Int := (((UInt64.toNat (List.getD a 2 0)) : Nat) : Int)
 za ((((UInt64.toNat ((List.getD r 0 0) &&& 17293822586014138368)) : Nat) : Int) != 0)
 (K (.int .i64 9) [])
 (za (cond false true ((((UInt64.toNat ((List.getD r 1 0) &&& 17293822586014138371)) : Nat) : Int) != 0))
 (K (.int .i64 9) [])
 (za (cond false true (ltI 3 x0))
 (K (.int .i64 9) [])
 (za (x0 == 3)
 (za (cond true ((((UInt64.toNat (List.getD a 1 0)) : Nat) : Int) == 18446744073709551615) false)
 (za (cond false true (cond true (Bool.not (ltI (((UInt64.toNat (List.getD a 0 0)) : Nat) : Int) 18446744073709551611)) false))
 (K (.int .i64 9) [])
 (K (.int .i64 0) []))
 (K (.int .i64 0) []))
 (K (.int .i64 0) []))))) := by kernel_rfl
theorem z11u (r p a : List UInt64) (h0 h1 h2 h3 h4 h5 h6 h7 h8 h9 h10 h11 : UInt8) (K : AV → Heap → Prop) : walk Tryz.E RS P2.C (fun _ _ => .unroll 17) 5 141 [.agg [.w64 2 r, .w64 2 p, .w64 3 a, .b8 16 [h0, h1, h2, h3, h4, h5, h6, h7, h8, h9, h10, h11, 0, 0, 0, 0], .int .i64 12]] K = (
 let x0 : Int := (((UInt64.toNat (List.getD a 2 0)) : Nat) : Int)
 za ((((UInt64.toNat ((List.getD r 0 0) &&& 17293822586014138368)) : Nat) : Int) != 0)
 (K (.int .i64 9) [])
 (za (cond false true ((((UInt64.toNat ((List.getD r 1 0) &&& 17293822586014138371)) : Nat) : Int) != 0))
 (K (.int .i64 9) [])
 (za (cond false true (ltI 3 x0))
 (K (.int .i64 9) [])
 (za (x0 == 3)
 (za (cond true ((((UInt64.toNat (List.getD a 1 0)) : Nat) : Int) == 18446744073709551615) false)
 (za (cond false true (cond true (Bool.not (ltI (((UInt64.toNat (List.getD a 0 0)) : Nat) : Int) 18446744073709551611)) false))
 (K (.int .i64 9) [])
 (K (.int .i64 0) []))
 (K (.int .i64 0) []))
 (K (.int .i64 0) []))))) := by kernel_rfl
theorem z12y (r p a : List UInt64) (h0 h1 h2 h3 h4 h5 h6 h7 h8 h9 h10 h11 h12 : UInt8) (K : AV → Heap → Prop) : walk Tryz.E RS P2.C (fun _ _ => .unroll 17) 5 141 [.agg [.w64 2 r, .w64 2 p, .w64 3 a, .b8 16 [h0, h1, h2, h3, h4, h5, h6, h7, h8, h9, h10, h11, h12, 0, 0, 0], .int .i64 13]] K = (
 let x0 : Int := (((UInt64.toNat (List.getD a 2 0)) : Nat) : Int)
 za ((((UInt64.toNat ((List.getD r 0 0) &&& 17293822586014138368)) : Nat) : Int) != 0)
 (K (.int .i64 9) [])
 (za (cond false true ((((UInt64.toNat ((List.getD r 1 0) &&& 17293822586014138371)) : Nat) : Int) != 0))
 (K (.int .i64 9) [])
 (za (cond false true (ltI 3 x0))
 (K (.int .i64 9) [])
 (za (x0 == 3)
 (za (cond true ((((UInt64.toNat (List.getD a 1 0)) : Nat) : Int) == 18446744073709551615) false)
 (za (cond false true (cond true (Bool.not (ltI (((UInt64.toNat (List.getD a 0 0)) : Nat) : Int) 18446744073709551611)) false))
 (K (.int .i64 9) [])
 (K (.int .i64 0) []))
 (K (.int .i64 0) []))
 (K (.int .i64 0) []))))) := by kernel_rfl
theorem z13a (r p a : List UInt64) (h0 h1 h2 h3 h4 h5 h6 h7 h8 h9 h10 h11 h12 h13 : UInt8) (K : AV → Heap → Prop) : walk Tryz.E RS P2.C (fun _ _ => .unroll 17) 5 141 [.agg [.w64 2 r, .w64 2 p, .w64 3 a, .b8 16 [h0, h1, h2, h3, h4, h5, h6, h7, h8, h9, h10, h11, h12, h13, 0, 0], .int .i64 14]] K = (
 let x0 : Int := (((UInt64.toNat (List.getD a 2 0)) : Nat) : Int)
 za ((((UInt64.toNat ((List.getD r 0 0) &&& 17293822586014138368)) : Nat) : Int) != 0)
 (K (.int .i64 9) [])
 (za (cond false true ((((UInt64.toNat ((List.getD r 1 0) &&& 17293822586014138371)) : Nat) : Int) != 0))
 (K (.int .i64 9) [])
 (za (cond false true (ltI 3 x0))
 (K (.int .i64 9) [])
 (za (x0 == 3)
 (za (cond true ((((UInt64.toNat (List.getD a 1 0)) : Nat) : Int) == 18446744073709551615) false)
 (za (cond false true (cond true (Bool.not (ltI (((UInt64.toNat (List.getD a 0 0)) : Nat) : Int) 18446744073709551611)) false))
 (K (.int .i64 9) [])
 (K (.int .i64 0) []))
 (K (.int .i64 0) []))
 (K (.int .i64 0) []))))) := by kernel_rfl
theorem z11d (r p a : List UInt64) (h0 h1 h2 h3 h4 h5 h6 h7 h8 h9 h10 h11 h12 h13 h14 : UInt8) (K : AV → Heap → Prop) : walk Tryz.E RS P2.C (fun _ _ => .unroll 17) 5 141 [.agg [.w64 2 r, .w64 2 p, .w64 3 a, .b8 16 [h0, h1, h2, h3, h4, h5, h6, h7, h8, h9, h10, h11, h12, h13, h14, 0], .int .i64 15]] K = (
 let x0 : Int := (((UInt64.toNat (List.getD a 2 0)) : Nat) : Int)
 za ((((UInt64.toNat ((List.getD r 0 0) &&& 17293822586014138368)) : Nat) : Int) != 0)
 (K (.int .i64 9) [])
 (za (cond false true ((((UInt64.toNat ((List.getD r 1 0) &&& 17293822586014138371)) : Nat) : Int) != 0))
 (K (.int .i64 9) [])
 (za (cond false true (ltI 3 x0))
 (K (.int .i64 9) [])
 (za (x0 == 3)
 (za (cond true ((((UInt64.toNat (List.getD a 1 0)) : Nat) : Int) == 18446744073709551615) false)
 (za (cond false true (cond true (Bool.not (ltI (((UInt64.toNat (List.getD a 0 0)) : Nat) : Int) 18446744073709551611)) false))
 (K (.int .i64 9) [])
 (K (.int .i64 0) []))
 (K (.int .i64 0) []))
 (K (.int .i64 0) []))))) := by kernel_rfl
theorem z11k (r p a : List UInt64) (h : List UInt8) (K : AV → Heap → Prop) : walk Tryz.E RS P2.C (fun _ _ => .unroll 17) 5 141 [.agg [.w64 2 r, .w64 2 p, .w64 3 a, .b8 16 h, .int .i64 16]] K = (
 let x0 : Int := (((UInt64.toNat (List.getD a 2 0)) : Nat) : Int)
 za ((((UInt64.toNat ((List.getD r 0 0) &&& 17293822586014138368)) : Nat) : Int) != 0)
 (K (.int .i64 9) [])
 (za (cond false true ((((UInt64.toNat ((List.getD r 1 0) &&& 17293822586014138371)) : Nat) : Int) != 0))
 (K (.int .i64 9) [])
 (za (cond false true (ltI 3 x0))
 (K (.int .i64 9) [])
 (za (x0 == 3)
 (za (cond true ((((UInt64.toNat (List.getD a 1 0)) : Nat) : Int) == 18446744073709551615) false)
 (za (cond false true (cond true (Bool.not (ltI (((UInt64.toNat (List.getD a 0 0)) : Nat) : Int) 18446744073709551611)) false))
 (K (.int .i64 9) [])
 (K (.int .i64 9) []))
 (K (.int .i64 9) []))
 (K (.int .i64 9) []))))) := by kernel_rfl
theorem z1hs (r p a : List UInt64) (h : List UInt8) (n : Int) (hr : v2 r < 21267647932558653966460912964485513216) (ha : v3 a < q) (h0 : 0 ≤ n) (h1 : n ≤ 16) :
  HCall Tryz.E 142 [.agg [.w64 2 r, .w64 2 p, .w64 3 a, .b8 16 h, .int .i64 n]] (.ret (.agg [.w64 2 r, .w64 2 p, .w64 3 (w3 (soakN (v2 r) (v3 a) h n.toNat)), .b8 16 zeros, .int .i64 0]) []) := by
 refine HCall.z1lm rfl rfl fun hl => ?_
 have hh : h.length = 16 := hl (.agg _) (List.mem_cons_self ..) (.b8 16 h) (by simp)
 clear hl;obtain ⟨m, rfl⟩ : ∃ m : Nat, n = m := ⟨n.toNat, by omega⟩
 refine HCall.z1lg (R := RS) (T := P2) (fun _ _ => .unroll 17) 5 rfl rfl ?_
 rw [z1e5];intro x0 x1 x2 x3 x4 x5 x6 x7 x8 x9 x10;have l0 : x0.length = 8 := by show (List.take 8 h).length = 8; rw [List.length_take]; omega
 have l1 : x1.length = 8 := by show (List.drop 8 h).length = 8; rw [List.length_drop]; omega
 have hp := zz0 h (n := m) (by omega)
 have hp16 := zz0 h (n := 16) (by omega)
 have e2 : x2 = ((m / 8 : Nat) : Int) := by
  show wr .i64 (Int.tdiv (m : Int) 8) = _;rw [show Int.tdiv (m : Int) 8 = ((m / 8 : Nat) : Int) from rfl, z2f (by omega) (by omega)]
 have e3 : x3 = ((8 * (m % 8) : Nat) : Int) := by
  show wr .i64 (8 * (Int.tmod (m : Int) 8)) = _;rw [show Int.tmod (m : Int) 8 = ((m % 8 : Nat) : Int) from rfl, z2f (by omega) (by omega)]
  omega
 have eq1 : x4 = znq h := rfl;have e8 : x8 = true := z8c hr;have hq : q = 1361129467683753853853498429727072845819 := rfl;rw [l0, l1]
 clear_value x2 x3
 subst e2 e3;rw [zjm, zjm];refine ⟨rfl, rfl, ?_⟩;rcases Nat.lt_or_ge m 16 with hm | hm
 ·rw [z5g (by omega)]
  have e6 : x6 = v3 a + Pol.part h m := by
   rw [zfw]; unfold ze0
   rw [if_pos hm];show v3 (w3 (v3 a + v3 _)) = _;rw [z5d]
   ·rfl
   ·have : v3 (List.set x5 (ofs 0 ((m / 8 : Nat) : Int)) (List.getD x5 (ofs 0 ((m / 8 : Nat) : Int)) 0 ||| z2n 1 (Int.toNat ((8 * (m % 8) : Nat) : Int)))) = Pol.part h m := by
     rw [zfw]; unfold ze0
     rw [if_pos hm]; rfl
    rw [this];omega
  clear_value x6
  subst e6;have e9 : ltQ (v3 a + Pol.part h m) x7 = true := z8c (show v3 a + Pol.part h m < 2722258935367507707706996859454145691648 by omega)
  rw [e9, e8, z44 (by omega) (by omega), z3e.2 (by omega)]
  refine ⟨?_, rfl⟩;rfl
 ·have hm : m = 16 := by omega
  subst hm;rw [z4l (by omega)]
  have e6 : x10 = v3 a + Pol.part h 16 := by
   rw [zfw]; unfold ze0
   rw [if_neg (by omega)]
   show v3 (w3 (v3 a + v3 _)) = _;rw [z5d]
   ·rfl
   ·have : v3 x4 = Pol.part h 16 := by
     rw [zfw]; unfold ze0
     rw [if_neg (by omega)]
     rfl
    rw [this];omega
  clear_value x10
  subst e6;have e9 : ltQ (v3 a + Pol.part h 16) x7 = true := z8c (show v3 a + Pol.part h 16 < 2722258935367507707706996859454145691648 by omega)
  rw [e9, e8];refine ⟨?_, rfl⟩;rfl
def rOf (k : List UInt8) : List UInt64 := List.set (List.set [0, 0] 0 (halfS (List.take 8 k) &&& 1152921487695413247)) 1 (halfS (List.take 8 (List.drop 8 k)) &&& 1152921487695413244)
def zsw (k : List UInt8) : List UInt64 := List.set (List.set [0, 0] 0 (halfS (List.take 8 (List.drop 16 k)))) 1 (halfS (List.drop 24 k))
theorem z1ek : w3 0 = [0, 0, 0] := by rw [zgj]; rfl
theorem z1dv (k : List UInt8) : HCall Tryz.E 138 [.b8 32 k] (.ret (.agg [.w64 2 (rOf k), .w64 2 (zsw k), .w64 3 (w3 0), .b8 16 zeros, .int .i64 0]) []) := by
 refine HCall.z1lj rfl rfl fun hl => ?_
 have hk : k.length = 32 := hl _ (List.mem_cons_self ..);refine HCall.z1lg (R := RS) (T := P2) (fun _ _ => .unroll 17) 5 rfl rfl ?_
 rw [z177, z1ek];dsimp only;simp only [List.length_take, List.length_drop, hk];exact ⟨rfl, rfl⟩
theorem z4w {r a : List UInt64} {h : List UInt8} {n : Int} (o : okP r a h n) (E O : Prop) (hO : O) :
 (let x0 : Int := (((UInt64.toNat (List.getD a 2 0)) : Nat) : Int)
 za ((((UInt64.toNat ((List.getD r 0 0) &&& 17293822586014138368)) : Nat) : Int) != 0)
 E
 (za (cond Bool.false Bool.true ((((UInt64.toNat ((List.getD r 1 0) &&& 17293822586014138371)) : Nat) : Int) != 0))
 E
 (za (cond Bool.false Bool.true (ltI 3 x0))
 E
 (za (x0 == 3)
 (za (cond Bool.true ((((UInt64.toNat (List.getD a 1 0)) : Nat) : Int) == 18446744073709551615) Bool.false)
 (za (cond Bool.false Bool.true (cond Bool.true (Bool.not (ltI (((UInt64.toNat (List.getD a 0 0)) : Nat) : Int) 18446744073709551611)) Bool.false))
 E
 O)
 O)
 O)))) := by
 intro x0;obtain ⟨o1, o2, o3, _⟩ := o;rw [z1bd] at o3;unfold v3F q at o3;have hA : ltI 3 x0 = false := z4l (show ((List.getD a 2 0).toNat : Int) ≤ 3 by omega)
 rw [o1, o2, hA];show za (x0 == 3) _ O;rw [z7r];refine ⟨fun h3 => ?_, fun _ => hO⟩
 rw [z7r];refine ⟨fun h4 => ?_, fun _ => hO⟩
 have h3 : (((List.getD a 2 0).toNat : Nat) : Int) = 3 := eq_of_beq h3;have h4 : (((List.getD a 1 0).toNat : Nat) : Int) = 18446744073709551615 := eq_of_beq h4;rw [z5g (show (((List.getD a 0 0).toNat : Nat) : Int) < 18446744073709551611 by omega)]
 exact hO
theorem z1cl (r p a : List UInt64) (h : List UInt8) (n : Int) (o : okP r a h n) : HCall Tryz.E 141 [.agg [.w64 2 r, .w64 2 p, .w64 3 a, .b8 16 h, .int .i64 n]] (.ret (.int .i64 0) []) := by
 refine HCall.z1lm rfl rfl fun hl => ?_
 have hh : h.length = 16 := hl (.agg _) (List.mem_cons_self ..) (.b8 16 h) (by simp)
 clear hl;have h0 := o.2.2.2.1;have h1 := o.2.2.2.2.1;have z := o.2.2.2.2.2;have he := z1jp hh;obtain ⟨m, rfl⟩ : ∃ m : Nat, n = m := ⟨n.toNat, by omega⟩
 have z : ∀ i, m ≤ i → h.getD i 0 = 0 := fun i hi => z i (by simpa using hi)
 have hm : m < 16 := by omega
 clear h0 h1 hh
 match m, hm with
 | 0, _ =>
  rw [z 0 (by decide), z 1 (by decide), z 2 (by decide), z 3 (by decide), z 4 (by decide), z 5 (by decide), z 6 (by decide), z 7 (by decide), z 8 (by decide), z 9 (by decide), z 10 (by decide), z 11 (by decide), z 12 (by decide), z 13 (by decide), z 14 (by decide), z 15 (by decide)] at he
  generalize o' : o = oo; clear o'
  rw [he];refine HCall.z1lg (R := RS) (T := P2) (fun _ _ => .unroll 17) 5 rfl rfl ?_
  have e := z152 r p a;exact (e _).symm ▸ z4w oo _ _ ⟨rfl, rfl⟩
 | 1, _ =>
  rw [z 1 (by decide), z 2 (by decide), z 3 (by decide), z 4 (by decide), z 5 (by decide), z 6 (by decide), z 7 (by decide), z 8 (by decide), z 9 (by decide), z 10 (by decide), z 11 (by decide), z 12 (by decide), z 13 (by decide), z 14 (by decide), z 15 (by decide)] at he
  generalize o' : o = oo; clear o'
  rw [he];refine HCall.z1lg (R := RS) (T := P2) (fun _ _ => .unroll 17) 5 rfl rfl ?_
  have e := z158 r p a (h.getD 0 0);exact (e _).symm ▸ z4w oo _ _ ⟨rfl, rfl⟩
 | 2, _ =>
  rw [z 2 (by decide), z 3 (by decide), z 4 (by decide), z 5 (by decide), z 6 (by decide), z 7 (by decide), z 8 (by decide), z 9 (by decide), z 10 (by decide), z 11 (by decide), z 12 (by decide), z 13 (by decide), z 14 (by decide), z 15 (by decide)] at he
  generalize o' : o = oo; clear o'
  rw [he];refine HCall.z1lg (R := RS) (T := P2) (fun _ _ => .unroll 17) 5 rfl rfl ?_
  have e := z16l r p a (h.getD 0 0) (h.getD 1 0);exact (e _).symm ▸ z4w oo _ _ ⟨rfl, rfl⟩
 | 3, _ =>
  rw [z 3 (by decide), z 4 (by decide), z 5 (by decide), z 6 (by decide), z 7 (by decide), z 8 (by decide), z 9 (by decide), z 10 (by decide), z 11 (by decide), z 12 (by decide), z 13 (by decide), z 14 (by decide), z 15 (by decide)] at he
  generalize o' : o = oo; clear o'
  rw [he];refine HCall.z1lg (R := RS) (T := P2) (fun _ _ => .unroll 17) 5 rfl rfl ?_
  have e := z13q r p a (h.getD 0 0) (h.getD 1 0) (h.getD 2 0);exact (e _).symm ▸ z4w oo _ _ ⟨rfl, rfl⟩
 | 4, _ =>
  rw [z 4 (by decide), z 5 (by decide), z 6 (by decide), z 7 (by decide), z 8 (by decide), z 9 (by decide), z 10 (by decide), z 11 (by decide), z 12 (by decide), z 13 (by decide), z 14 (by decide), z 15 (by decide)] at he
  generalize o' : o = oo; clear o'
  rw [he];refine HCall.z1lg (R := RS) (T := P2) (fun _ _ => .unroll 17) 5 rfl rfl ?_
  have e := z166 r p a (h.getD 0 0) (h.getD 1 0) (h.getD 2 0) (h.getD 3 0);exact (e _).symm ▸ z4w oo _ _ ⟨rfl, rfl⟩
 | 5, _ =>
  rw [z 5 (by decide), z 6 (by decide), z 7 (by decide), z 8 (by decide), z 9 (by decide), z 10 (by decide), z 11 (by decide), z 12 (by decide), z 13 (by decide), z 14 (by decide), z 15 (by decide)] at he
  generalize o' : o = oo; clear o'
  rw [he];refine HCall.z1lg (R := RS) (T := P2) (fun _ _ => .unroll 17) 5 rfl rfl ?_
  have e := z15s r p a (h.getD 0 0) (h.getD 1 0) (h.getD 2 0) (h.getD 3 0) (h.getD 4 0);exact (e _).symm ▸ z4w oo _ _ ⟨rfl, rfl⟩
 | 6, _ =>
  rw [z 6 (by decide), z 7 (by decide), z 8 (by decide), z 9 (by decide), z 10 (by decide), z 11 (by decide), z 12 (by decide), z 13 (by decide), z 14 (by decide), z 15 (by decide)] at he
  generalize o' : o = oo; clear o'
  rw [he];refine HCall.z1lg (R := RS) (T := P2) (fun _ _ => .unroll 17) 5 rfl rfl ?_
  have e := z149 r p a (h.getD 0 0) (h.getD 1 0) (h.getD 2 0) (h.getD 3 0) (h.getD 4 0) (h.getD 5 0);exact (e _).symm ▸ z4w oo _ _ ⟨rfl, rfl⟩
 | 7, _ =>
  rw [z 7 (by decide), z 8 (by decide), z 9 (by decide), z 10 (by decide), z 11 (by decide), z 12 (by decide), z 13 (by decide), z 14 (by decide), z 15 (by decide)] at he
  generalize o' : o = oo; clear o'
  rw [he];refine HCall.z1lg (R := RS) (T := P2) (fun _ _ => .unroll 17) 5 rfl rfl ?_
  have e := z161 r p a (h.getD 0 0) (h.getD 1 0) (h.getD 2 0) (h.getD 3 0) (h.getD 4 0) (h.getD 5 0) (h.getD 6 0);exact (e _).symm ▸ z4w oo _ _ ⟨rfl, rfl⟩
 | 8, _ =>
  rw [z 8 (by decide), z 9 (by decide), z 10 (by decide), z 11 (by decide), z 12 (by decide), z 13 (by decide), z 14 (by decide), z 15 (by decide)] at he
  generalize o' : o = oo; clear o'
  rw [he];refine HCall.z1lg (R := RS) (T := P2) (fun _ _ => .unroll 17) 5 rfl rfl ?_
  have e := z14u r p a (h.getD 0 0) (h.getD 1 0) (h.getD 2 0) (h.getD 3 0) (h.getD 4 0) (h.getD 5 0) (h.getD 6 0) (h.getD 7 0);exact (e _).symm ▸ z4w oo _ _ ⟨rfl, rfl⟩
 | 9, _ =>
  rw [z 9 (by decide), z 10 (by decide), z 11 (by decide), z 12 (by decide), z 13 (by decide), z 14 (by decide), z 15 (by decide)] at he
  generalize o' : o = oo; clear o'
  rw [he];refine HCall.z1lg (R := RS) (T := P2) (fun _ _ => .unroll 17) 5 rfl rfl ?_
  have e := z14s r p a (h.getD 0 0) (h.getD 1 0) (h.getD 2 0) (h.getD 3 0) (h.getD 4 0) (h.getD 5 0) (h.getD 6 0) (h.getD 7 0) (h.getD 8 0);exact (e _).symm ▸ z4w oo _ _ ⟨rfl, rfl⟩
 | 10, _ =>
  rw [z 10 (by decide), z 11 (by decide), z 12 (by decide), z 13 (by decide), z 14 (by decide), z 15 (by decide)] at he
  generalize o' : o = oo; clear o'
  rw [he];refine HCall.z1lg (R := RS) (T := P2) (fun _ _ => .unroll 17) 5 rfl rfl ?_
  have e := z125 r p a (h.getD 0 0) (h.getD 1 0) (h.getD 2 0) (h.getD 3 0) (h.getD 4 0) (h.getD 5 0) (h.getD 6 0) (h.getD 7 0) (h.getD 8 0) (h.getD 9 0);exact (e _).symm ▸ z4w oo _ _ ⟨rfl, rfl⟩
 | 11, _ =>
  rw [z 11 (by decide), z 12 (by decide), z 13 (by decide), z 14 (by decide), z 15 (by decide)] at he
  generalize o' : o = oo; clear o'
  rw [he];refine HCall.z1lg (R := RS) (T := P2) (fun _ _ => .unroll 17) 5 rfl rfl ?_
  have e := z114 r p a (h.getD 0 0) (h.getD 1 0) (h.getD 2 0) (h.getD 3 0) (h.getD 4 0) (h.getD 5 0) (h.getD 6 0) (h.getD 7 0) (h.getD 8 0) (h.getD 9 0) (h.getD 10 0);exact (e _).symm ▸ z4w oo _ _ ⟨rfl, rfl⟩
 | 12, _ =>
  rw [z 12 (by decide), z 13 (by decide), z 14 (by decide), z 15 (by decide)] at he
  generalize o' : o = oo; clear o'
  rw [he];refine HCall.z1lg (R := RS) (T := P2) (fun _ _ => .unroll 17) 5 rfl rfl ?_
  have e := z11u r p a (h.getD 0 0) (h.getD 1 0) (h.getD 2 0) (h.getD 3 0) (h.getD 4 0) (h.getD 5 0) (h.getD 6 0) (h.getD 7 0) (h.getD 8 0) (h.getD 9 0) (h.getD 10 0) (h.getD 11 0);exact (e _).symm ▸ z4w oo _ _ ⟨rfl, rfl⟩
 | 13, _ =>
  rw [z 13 (by decide), z 14 (by decide), z 15 (by decide)] at he
  generalize o' : o = oo; clear o'
  rw [he];refine HCall.z1lg (R := RS) (T := P2) (fun _ _ => .unroll 17) 5 rfl rfl ?_
  have e := z12y r p a (h.getD 0 0) (h.getD 1 0) (h.getD 2 0) (h.getD 3 0) (h.getD 4 0) (h.getD 5 0) (h.getD 6 0) (h.getD 7 0) (h.getD 8 0) (h.getD 9 0) (h.getD 10 0) (h.getD 11 0) (h.getD 12 0);exact (e _).symm ▸ z4w oo _ _ ⟨rfl, rfl⟩
 | 14, _ =>
  rw [z 14 (by decide), z 15 (by decide)] at he
  generalize o' : o = oo; clear o'
  rw [he];refine HCall.z1lg (R := RS) (T := P2) (fun _ _ => .unroll 17) 5 rfl rfl ?_
  have e := z13a r p a (h.getD 0 0) (h.getD 1 0) (h.getD 2 0) (h.getD 3 0) (h.getD 4 0) (h.getD 5 0) (h.getD 6 0) (h.getD 7 0) (h.getD 8 0) (h.getD 9 0) (h.getD 10 0) (h.getD 11 0) (h.getD 12 0) (h.getD 13 0);exact (e _).symm ▸ z4w oo _ _ ⟨rfl, rfl⟩
 | 15, _ =>
  rw [z 15 (by decide)] at he
  generalize o' : o = oo; clear o'
  rw [he];refine HCall.z1lg (R := RS) (T := P2) (fun _ _ => .unroll 17) 5 rfl rfl ?_
  have e := z11d r p a (h.getD 0 0) (h.getD 1 0) (h.getD 2 0) (h.getD 3 0) (h.getD 4 0) (h.getD 5 0) (h.getD 6 0) (h.getD 7 0) (h.getD 8 0) (h.getD 9 0) (h.getD 10 0) (h.getD 11 0) (h.getD 12 0) (h.getD 13 0) (h.getD 14 0);exact (e _).symm ▸ z4w oo _ _ ⟨rfl, rfl⟩
theorem z14m (r p a : List UInt64) (h : List UInt8) : HCall Tryz.E 141 [.agg [.w64 2 r, .w64 2 p, .w64 3 a, .b8 16 h, .int .i64 16]] (.ret (.int .i64 9) []) := by
 refine HCall.z1lg (R := RS) (T := P2) (fun _ _ => .unroll 17) 5 rfl rfl ?_
 rw [z11k];simp only [z7r, z96, and_self, implies_true]
def P3 : Ctr Tryz.E := ((P2.add 142 (fun
  | [.agg [.w64 2 r, .w64 2 p, .w64 3 a, .b8 16 h, .int .i64 n]] => some (ltQ (v2 r) 21267647932558653966460912964485513216 && (ltQ (v3 a) q && inB n 17), .ret (.agg [.w64 2 r, .w64 2 p, .w64 3 (w3 (soakN (v2 r) (v3 a) h n.toNat)), .b8 16 zeros, .int .i64 0]) [])
  | _ => none) (by
   intro args pre out h hp
   split at h
   ·obtain ⟨rfl, rfl⟩ := spE h;simp only [Bool.and_eq_true, zfo, z32] at hp;exact z1hs _ _ _ _ _ hp.1 hp.2.1 (by omega) (by omega)
   ·simp at h)).add 138 (fun
  | [.b8 32 k] => some (true, .ret (.agg [.w64 2 (rOf k), .w64 2 (zsw k), .w64 3 (w3 0), .b8 16 zeros, .int .i64 0]) [])
  | _ => none) (by
   intro args pre out h hp
   split at h
   ·obtain ⟨rfl, rfl⟩ := spE h;exact z1dv _
   ·simp at h)).add 141 (fun
  | [.agg [.w64 2 r, .w64 2 p, .w64 3 a, .b8 16 h, .int .i64 n]] => some (n == 16 || okS r a h n, .alt (n == 16) (.ret (.int .i64 9) []) (.ret (.int .i64 0) []))
  | _ => none) (by
   intro args pre out h hp
   split at h
   ·obtain ⟨rfl, rfl⟩ := spE h;simp only [Bool.or_eq_true, z66, beq_iff_eq] at hp;rename_i r p a h n
    by_cases e : n = 16
    ·subst e;exact HCall.z1lz rfl rfl (z14m _ _ _ _)
    ·exact HCall.z1m0 (by simpa using e) rfl (z1cl _ _ _ _ _ (hp.resolve_left e))
   ·simp at h)
def z2b : Nat → PS → List UInt8 → PS := (zf zll).val
theorem zk6 (r : Nat) (s : PS) (b : List UInt8) : z2b r s b = zll r s b := by rw [z2b, (zf zll).property]
def addL (r p : List UInt64) (s : PS) (b : List UInt8) : LPlan := .rel [2, 4, 15, 16, 17] [16] Nat Inv.upTo Inv.up (fun i => [(17, .int .i64 (i : Nat))])
 (fun i => [(0, .blk [.w64 2 r, .w64 2 p, .w64 3 (w3 (z2b (v2 r) s (b.take i)).a), .b8 16 (z2b (v2 r) s (b.take i)).h, .int .i64 (((z2b (v2 r) s (b.take i)).n : Nat) : Int)] [])])
theorem add_eq (r p : List UInt64) (s : PS) (full : Bool) (b : List UInt8) (K : AV → Heap → Prop) : walk Tryz.E RS P3.C (fun _ _ => addL r p s b) 5 137 [.agg [.w64 2 r, .w64 2 p, .w64 3 (w3 s.a), .b8 16 s.h, .int .i64 ((s.n : Nat) : Int)], .vec8 full b] K = (
 let x0 : Int := (((Pol.PS.n s) : Nat) : Int)
 let x1 : List UInt64 := (Pol.w3 (Pol.PS.a s))
 let x2 : Nat := b.length
 let x3 : Int := (x2 : Int)
 cnd ((x0 == 16) || (Pol.okS r x1 (Pol.PS.h s) x0))
 (za (x0 == 16)
 (K (.tup [.agg [.w64 2 [0, 0], .w64 2 [0, 0], .w64 3 [0, 0, 0], .b8 16 [0, 0, 0, 0, 0, 0, 0, 0, 0, 0, 0, 0, 0, 0, 0, 0], .int .i64 0], .int .i64 9]) [])
 ((∃ w0 : Nat, (Inv.upTo [.int .i64 x3] w0) ∧ ((AV.vec8 full b = .vec8 full b) ∧ ((AV.int .i64 x3 = .int .i64 x3) ∧ ((AV.int .i64 0 = .int .i64 (w0 : Int)) ∧ ((AV.w64 2 r = .w64 2 r) ∧ ((AV.w64 2 p = .w64 2 p) ∧ ((AV.w64 3 x1 = .w64 3 (Pol.w3 (Pol.PS.a (z2b (Pol.v2 r) s (List.take w0 b))))) ∧ ((AV.b8 16 (Pol.PS.h s) = .b8 16 (Pol.PS.h (z2b (Pol.v2 r) s (List.take w0 b)))) ∧ ((AV.int .i64 x0 = .int .i64 (((Pol.PS.n (z2b (Pol.v2 r) s (List.take w0 b))) : Nat) : Int)) ∧ ((AV.w64 2 [0, 0] = .w64 2 [0, 0]) ∧ ((AV.w64 2 [0, 0] = .w64 2 [0, 0]) ∧ ((AV.w64 3 [0, 0, 0] = .w64 3 [0, 0, 0]) ∧ ((AV.b8 16 [0, 0, 0, 0, 0, 0, 0, 0, 0, 0, 0, 0, 0, 0, 0, 0] = .b8 16 [0, 0, 0, 0, 0, 0, 0, 0, 0, 0, 0, 0, 0, 0, 0, 0]) ∧ ((AV.int .i64 0 = .int .i64 0) ∧ True)))))))))))))) ∧ (∀ w1 : Nat, (Inv.upTo [.int .i64 x3] w1 → za (ltI (w1 : Int) x3)
 (cnd ((inB (w1 : Int) x2) && true)
 (cnd (leB (0 + x2) x2)
 (cnd (inB (((Pol.PS.n (z2b (Pol.v2 r) s (List.take w1 b))) : Nat) : Int) 16)
 (za ((wr .i64 ((((Pol.PS.n (z2b (Pol.v2 r) s (List.take w1 b))) : Nat) : Int) + 1)) == 16)
 (cnd ((Pol.ltQ (Pol.v2 r) 21267647932558653966460912964485513216) && ((Pol.ltQ (Pol.v3 (Pol.w3 (Pol.PS.a (z2b (Pol.v2 r) s (List.take w1 b))))) 1361129467683753853853498429727072845819) && (inB (wr .i64 ((((Pol.PS.n (z2b (Pol.v2 r) s (List.take w1 b))) : Nat) : Int) + 1)) 17)))
 ((∃ w2 : Nat, (((Inv.up w2) < (Inv.up w1)) ∧ (Inv.upTo [.int .i64 x3] w2)) ∧ ((AV.vec8 full b = .vec8 full b) ∧ ((AV.int .i64 x3 = .int .i64 x3) ∧ ((AV.int .i64 (wr .i64 ((w1 : Int) + 1)) = .int .i64 (w2 : Int)) ∧ ((AV.w64 2 r = .w64 2 r) ∧ ((AV.w64 2 p = .w64 2 p) ∧ ((AV.w64 3 (Pol.w3 (Pol.soakN (Pol.v2 r) (Pol.v3 (Pol.w3 (Pol.PS.a (z2b (Pol.v2 r) s (List.take w1 b))))) (List.set (Pol.PS.h (z2b (Pol.v2 r) s (List.take w1 b))) (Int.toNat (((Pol.PS.n (z2b (Pol.v2 r) s (List.take w1 b))) : Nat) : Int)) (List.getD b (ofs 0 (w1 : Int)) 0)) (Int.toNat (wr .i64 ((((Pol.PS.n (z2b (Pol.v2 r) s (List.take w1 b))) : Nat) : Int) + 1))))) = .w64 3 (Pol.w3 (Pol.PS.a (z2b (Pol.v2 r) s (List.take w2 b))))) ∧ ((AV.b8 16 Pol.zeros = .b8 16 (Pol.PS.h (z2b (Pol.v2 r) s (List.take w2 b)))) ∧ ((AV.int .i64 0 = .int .i64 (((Pol.PS.n (z2b (Pol.v2 r) s (List.take w2 b))) : Nat) : Int)) ∧ ((AV.w64 2 [0, 0] = .w64 2 [0, 0]) ∧ ((AV.w64 2 [0, 0] = .w64 2 [0, 0]) ∧ ((AV.w64 3 [0, 0, 0] = .w64 3 [0, 0, 0]) ∧ ((AV.b8 16 [0, 0, 0, 0, 0, 0, 0, 0, 0, 0, 0, 0, 0, 0, 0, 0] = .b8 16 [0, 0, 0, 0, 0, 0, 0, 0, 0, 0, 0, 0, 0, 0, 0, 0]) ∧ ((AV.int .i64 0 = .int .i64 0) ∧ True))))))))))))))))
 ((∃ w3 : Nat, (((Inv.up w3) < (Inv.up w1)) ∧ (Inv.upTo [.int .i64 x3] w3)) ∧ ((AV.vec8 full b = .vec8 full b) ∧ ((AV.int .i64 x3 = .int .i64 x3) ∧ ((AV.int .i64 (wr .i64 ((w1 : Int) + 1)) = .int .i64 (w3 : Int)) ∧ ((AV.w64 2 r = .w64 2 r) ∧ ((AV.w64 2 p = .w64 2 p) ∧ ((AV.w64 3 (Pol.w3 (Pol.PS.a (z2b (Pol.v2 r) s (List.take w1 b)))) = .w64 3 (Pol.w3 (Pol.PS.a (z2b (Pol.v2 r) s (List.take w3 b))))) ∧ ((AV.b8 16 (List.set (Pol.PS.h (z2b (Pol.v2 r) s (List.take w1 b))) (Int.toNat (((Pol.PS.n (z2b (Pol.v2 r) s (List.take w1 b))) : Nat) : Int)) (List.getD b (ofs 0 (w1 : Int)) 0)) = .b8 16 (Pol.PS.h (z2b (Pol.v2 r) s (List.take w3 b)))) ∧ ((AV.int .i64 (wr .i64 ((((Pol.PS.n (z2b (Pol.v2 r) s (List.take w1 b))) : Nat) : Int) + 1)) = .int .i64 (((Pol.PS.n (z2b (Pol.v2 r) s (List.take w3 b))) : Nat) : Int)) ∧ ((AV.w64 2 [0, 0] = .w64 2 [0, 0]) ∧ ((AV.w64 2 [0, 0] = .w64 2 [0, 0]) ∧ ((AV.w64 3 [0, 0, 0] = .w64 3 [0, 0, 0]) ∧ ((AV.b8 16 [0, 0, 0, 0, 0, 0, 0, 0, 0, 0, 0, 0, 0, 0, 0, 0] = .b8 16 [0, 0, 0, 0, 0, 0, 0, 0, 0, 0, 0, 0, 0, 0, 0, 0]) ∧ ((AV.int .i64 0 = .int .i64 0) ∧ True)))))))))))))))))))
 (K (.tup [.agg [.w64 2 r, .w64 2 p, .w64 3 (Pol.w3 (Pol.PS.a (z2b (Pol.v2 r) s (List.take w1 b)))), .b8 16 (Pol.PS.h (z2b (Pol.v2 r) s (List.take w1 b))), .int .i64 (((Pol.PS.n (z2b (Pol.v2 r) s (List.take w1 b))) : Nat) : Int)], .int .i64 0]) [])))))) := by kernel_rfl
theorem z141 (r p : List UInt64) (s : PS) (K : AV → Heap → Prop) : walk Tryz.E RS P3.C (fun _ _ => .unroll 17) 5 139 [.agg [.w64 2 r, .w64 2 p, .w64 3 (w3 s.a), .b8 16 s.h, .int .i64 ((s.n : Nat) : Int)]] K = (
 let x0 : Int := (((Pol.PS.n s) : Nat) : Int)
 let x1 : List UInt64 := (Pol.w3 (Pol.PS.a s))
 let x2 : List UInt8 := [0, 0, 0, 0, 0, 0, 0, 0, 0, 0, 0, 0, 0, 0, 0, 0]
 let x3 : List UInt64 := (Pol.w3 (Pol.soakN (Pol.v2 r) (Pol.v3 x1) (Pol.PS.h s) (Int.toNat x0)))
 let x4 : UInt64 := (List.getD x3 0 0)
 let x5 : UInt64 := (List.getD p 0 0)
 let x6 : UInt64 := (zg x4 x5 0)
 let x7 : UInt64 := ((x4 + x5) + 0)
 let x8 : UInt64 := (List.getD p 1 0)
 let x9 : UInt64 := (((List.getD x3 1 0) + x8) + x6)
 let x10 : UInt64 := (List.getD x1 0 0)
 let x11 : UInt64 := (zg x10 x5 0)
 let x12 : UInt64 := ((x10 + x5) + 0)
 let x13 : UInt64 := (((List.getD x1 1 0) + x8) + x11)
 cnd ((x0 == 16) || (Pol.okS r x1 (Pol.PS.h s) x0))
 (za (x0 == 16)
 (K (.tup [.b8 16 x2, .int .i64 9]) [])
 (za (ltI 0 x0)
 (cnd ((Pol.ltQ (Pol.v2 r) 21267647932558653966460912964485513216) && ((Pol.ltQ (Pol.v3 x1) 1361129467683753853853498429727072845819) && (inB x0 17)))
 (cnd (z3s x6)
 (K (.tup [.b8 16 (List.set (List.set (List.set (List.set (List.set (List.set (List.set (List.set (List.set (List.set (List.set (List.set (List.set (List.set (List.set (List.set x2 0 (UInt64.toUInt8 (ze x7 0))) 8 (UInt64.toUInt8 (ze x9 0))) 1 (UInt64.toUInt8 (ze x7 8))) 9 (UInt64.toUInt8 (ze x9 8))) 2 (UInt64.toUInt8 (ze x7 16))) 10 (UInt64.toUInt8 (ze x9 16))) 3 (UInt64.toUInt8 (ze x7 24))) 11 (UInt64.toUInt8 (ze x9 24))) 4 (UInt64.toUInt8 (ze x7 32))) 12 (UInt64.toUInt8 (ze x9 32))) 5 (UInt64.toUInt8 (ze x7 40))) 13 (UInt64.toUInt8 (ze x9 40))) 6 (UInt64.toUInt8 (ze x7 48))) 14 (UInt64.toUInt8 (ze x9 48))) 7 (UInt64.toUInt8 (ze x7 56))) 15 (UInt64.toUInt8 (ze x9 56))), .int .i64 0]) [])))
 (cnd (z3s x11)
 (K (.tup [.b8 16 (List.set (List.set (List.set (List.set (List.set (List.set (List.set (List.set (List.set (List.set (List.set (List.set (List.set (List.set (List.set (List.set x2 0 (UInt64.toUInt8 (ze x12 0))) 8 (UInt64.toUInt8 (ze x13 0))) 1 (UInt64.toUInt8 (ze x12 8))) 9 (UInt64.toUInt8 (ze x13 8))) 2 (UInt64.toUInt8 (ze x12 16))) 10 (UInt64.toUInt8 (ze x13 16))) 3 (UInt64.toUInt8 (ze x12 24))) 11 (UInt64.toUInt8 (ze x13 24))) 4 (UInt64.toUInt8 (ze x12 32))) 12 (UInt64.toUInt8 (ze x13 32))) 5 (UInt64.toUInt8 (ze x12 40))) 13 (UInt64.toUInt8 (ze x13 40))) 6 (UInt64.toUInt8 (ze x12 48))) 14 (UInt64.toUInt8 (ze x13 48))) 7 (UInt64.toUInt8 (ze x12 56))) 15 (UInt64.toUInt8 (ze x13 56))), .int .i64 0]) []))))) := by kernel_rfl
theorem z155 {r : Nat} {s : PS} {b : List UInt8} {i : Nat} (h : i < b.length) : z2b r s (b.take (i + 1)) = zkj r (z2b r s (b.take i)) (b.getD i 0) := by
 rw [zk6, zk6];have : b.take (i + 1) = b.take i ++ [b.getD i 0] := by
  rw [List.take_succ_eq_append_getElem h, List.getD_eq_getElem?_getD, List.getElem?_eq_getElem h]; rfl
 rw [this, zxw];rfl
theorem zyz {r : Nat} {s : PS} (o : s.ok) (b : List UInt8) : (z2b r s b).ok := by rw [zk6]; exact z1dl o
theorem z1kq (r p : List UInt64) (s : PS) (full : Bool) (b : List UInt8) (o : s.ok) (hb : b.length < 4611686018427387904) (hr : v2 r < 21267647932558653966460912964485513216) (ho : okS r (w3 s.a) s.h ((s.n : Nat) : Int) = true) :
  HCall Tryz.E 137 [.agg [.w64 2 r, .w64 2 p, .w64 3 (w3 s.a), .b8 16 s.h, .int .i64 ((s.n : Nat) : Int)], .vec8 full b]
   (.ret (.tup [.agg [.w64 2 r, .w64 2 p, .w64 3 (w3 (z2b (v2 r) s b).a), .b8 16 (z2b (v2 r) s b).h, .int .i64 (((z2b (v2 r) s b).n : Nat) : Int)], .int .i64 0]) []) := by
 refine HCall.z1lg (R := RS) (T := P3) (fun _ _ => addL r p s b) 5 rfl rfl ?_
 rw [add_eq];have hn := o.n;have e0 : (((s.n : Nat) : Int) == 16) = false := by rw [beq_eq_false_iff_ne]; omega
 dsimp only;rw [e0, ho];simp only [Bool.false_or, z1r, ite2_false];refine ⟨⟨0, by rw [Inv.upTo_int]; omega, ?_⟩, ?_⟩
 ·have e : z2b (v2 r) s (b.take 0) = s := by rw [zk6]; rfl
  rw [e];simp only [true_and, and_true];rfl
 ·intro i hi;rw [Inv.upTo_int] at hi;have os := zyz (r := v2 r) o (b.take i);have hsa := os.a; have hsn := os.n
  unfold q at hsa;generalize hS : z2b (v2 r) s (b.take i) = S at *;rcases Nat.lt_or_ge i b.length with h | h
  ·have hstep := z155 (r := v2 r) (s := s) h;rw [hS] at hstep;rw [z5g (by omega), z44 (by omega) (by omega), zp (by omega), z44 (by omega) (by omega), z2f (z := (i : Int) + 1) (by omega) (by omega), z2f (z := ((S.n : Nat) : Int) + 1) (by omega) (by omega)]
   simp only [Bool.and_true, z1r, ite2_true];rw [show ofs 0 ((i : Nat) : Int) = i from rfl, Int.toNat_natCast, z5d (by omega)]
   rw [z7r];constructor
   ·intro h15;have h15 : ((S.n : Nat) : Int) + 1 = 16 := eq_of_beq h15;have e15 : S.n = 15 := by omega
    rw [h15, z8c hr, z8c hsa];refine ⟨i + 1, ⟨Inv.up_lt (by omega), by rw [Inv.upTo_int]; omega⟩, ?_⟩
    rw [hstep];unfold zkj;rw [if_pos e15];simp only [and_self, true_and, and_true];exact ⟨rfl, rfl, rfl⟩
   ·intro h15;have e15 : ¬ S.n = 15 := by
     intro e; rw [e] at h15; exact absurd h15 (by decide)
    refine ⟨i + 1, ⟨Inv.up_lt (by omega), by rw [Inv.upTo_int]; omega⟩, ?_⟩
    rw [hstep];unfold zkj;rw [if_neg e15];simp only [and_self, true_and, and_true];exact ⟨rfl, rfl⟩
  ·rw [z4l (by omega), ite2_false]
   rw [List.take_of_length_le h] at hS;rw [hS];exact ⟨rfl, rfl⟩
theorem z1j2 (r p a : List UInt64) (h : List UInt8) (n : Int) (full : Bool) (b : List UInt8) (ok : okP r a h n) (hb : b.length < 4611686018427387904) :
  HCall Tryz.E 137 [.agg [.w64 2 r, .w64 2 p, .w64 3 a, .b8 16 h, .int .i64 n], .vec8 full b]
   (.ret (.tup [.agg [.w64 2 r, .w64 2 p, .w64 3 (w3 (z2b (v2 r) ⟨v3 a, h, n.toNat⟩ b).a), .b8 16 (z2b (v2 r) ⟨v3 a, h, n.toNat⟩ b).h, .int .i64 (((z2b (v2 r) ⟨v3 a, h, n.toNat⟩ b).n : Nat) : Int)], .int .i64 0]) []) := by
 refine HCall.z1lm rfl rfl fun hl => ?_
 have hh : h.length = 16 := hl (.agg _) (List.mem_cons_self ..) (.b8 16 h) (by simp)
 have hr : r.length = 2 := hl (.agg _) (List.mem_cons_self ..) (.w64 2 r) (by simp)
 have ha : a.length = 3 := hl (.agg _) (List.mem_cons_self ..) (.w64 3 a) (by simp)
 have o : PS.ok ⟨v3 a, h, n.toNat⟩ := ⟨ok.2.2.1, hh, by have := ok.2.2.2.2.1; show n.toNat < 16; omega, ok.2.2.2.2.2⟩
 have h0 := ok.2.2.2.1;have en : ((n.toNat : Nat) : Int) = n := by omega
 have := z1kq r p ⟨v3 a, h, n.toNat⟩ full b o hb (ok.r2 hr) (by
  show okS r (w3 (v3 a)) h ((n.toNat : Nat) : Int) = true;rw [zmu ha, en];exact z66.2 ok)
 dsimp only at this;rw [zmu ha, en] at this;exact this
def zkm (r : Nat) (s : PS) : Nat := if 0 < s.n then soakN r s.a s.h s.n else s.a
def zey (acc : Nat) (p : List UInt64) : List UInt8 :=
 let x2 : List UInt8 := [0, 0, 0, 0, 0, 0, 0, 0, 0, 0, 0, 0, 0, 0, 0, 0]
 let x4 : UInt64 := (List.getD (w3 acc) 0 0)
 let x5 : UInt64 := (List.getD p 0 0)
 let x6 : UInt64 := (zg x4 x5 0)
 let x7 : UInt64 := ((x4 + x5) + 0)
 let x9 : UInt64 := (((List.getD (w3 acc) 1 0) + (List.getD p 1 0)) + x6)
 (List.set (List.set (List.set (List.set (List.set (List.set (List.set (List.set (List.set (List.set (List.set (List.set (List.set (List.set (List.set (List.set x2 0 (UInt64.toUInt8 (ze x7 0))) 8 (UInt64.toUInt8 (ze x9 0))) 1 (UInt64.toUInt8 (ze x7 8))) 9 (UInt64.toUInt8 (ze x9 8))) 2 (UInt64.toUInt8 (ze x7 16))) 10 (UInt64.toUInt8 (ze x9 16))) 3 (UInt64.toUInt8 (ze x7 24))) 11 (UInt64.toUInt8 (ze x9 24))) 4 (UInt64.toUInt8 (ze x7 32))) 12 (UInt64.toUInt8 (ze x9 32))) 5 (UInt64.toUInt8 (ze x7 40))) 13 (UInt64.toUInt8 (ze x9 40))) 6 (UInt64.toUInt8 (ze x7 48))) 14 (UInt64.toUInt8 (ze x9 48))) 7 (UInt64.toUInt8 (ze x7 56))) 15 (UInt64.toUInt8 (ze x9 56)))
def zib : Nat → List UInt64 → List UInt8 := (zf zey).val
theorem zyk (acc : Nat) (p : List UInt64) : zib acc p = zey acc p := by rw [zib, (zf zey).property]
theorem z1ke (r p : List UInt64) (s : PS) (o : s.ok) (hr : v2 r < 21267647932558653966460912964485513216) (ho : okS r (w3 s.a) s.h ((s.n : Nat) : Int) = true) :
  HCall Tryz.E 139 [.agg [.w64 2 r, .w64 2 p, .w64 3 (w3 s.a), .b8 16 s.h, .int .i64 ((s.n : Nat) : Int)]] (.ret (.tup [.b8 16 (zib (zkm (v2 r) s) p), .int .i64 0]) []) := by
 refine HCall.z1lg (R := RS) (T := P3) (fun _ _ => .unroll 17) 5 rfl rfl ?_
 rw [z141];have hn := o.n;have hsa := o.a;unfold q at hsa;have e0 : (((s.n : Nat) : Int) == 16) = false := by rw [beq_eq_false_iff_ne]; omega
 intro x0 x1 x2 x3 x4 x5 x6 x7 x8 x9 x10 x11 x12 x13;have e0 : (x0 == 16) = false := e0;have e1 : okS r x1 s.h x0 = true := ho;have e2 : z3s x6 = true := z6b ..;have e3 : z3s x11 = true := z6b ..;have e4 : ltQ (v3 x1) 1361129467683753853853498429727072845819 = true := z8c (by show v3 (w3 s.a) < _; rw [z5d (by omega)]; exact hsa)
 have e5 : inB x0 17 = true := z44 (show (0 : Int) ≤ ((s.n : Nat) : Int) by omega) (show ((s.n : Nat) : Int) < 17 by omega)
 rw [e0, e1, e2, e3, e4, e5, z8c hr, zyk];unfold zkm;rcases Nat.lt_or_ge 0 s.n with h | h
 ·have e6 : ltI 0 x0 = true := z5g (show (0 : Int) < ((s.n : Nat) : Int) by omega)
  rw [e6, if_pos h];have e7 : x3 = w3 (soakN (v2 r) s.a s.h s.n) := by
   show w3 (soakN (v2 r) (v3 (w3 s.a)) s.h (Int.toNat ((s.n : Nat) : Int))) = _;rw [z5d (by omega), Int.toNat_natCast]
  refine ⟨?_, rfl⟩;show AV.tup [AV.b8 16 _, AV.int IntKind.i64 0] = _;unfold zey;rw [← e7]
 ·have e6 : ltI 0 x0 = false := z4l (show ((s.n : Nat) : Int) ≤ 0 by omega)
  rw [e6, if_neg (by omega)]
  exact ⟨rfl, rfl⟩
theorem z1k1 (r p a : List UInt64) (h : List UInt8) (n : Int) (ok : okP r a h n) :
  HCall Tryz.E 139 [.agg [.w64 2 r, .w64 2 p, .w64 3 a, .b8 16 h, .int .i64 n]] (.ret (.tup [.b8 16 (zib (zkm (v2 r) ⟨v3 a, h, n.toNat⟩) p), .int .i64 0]) []) := by
 refine HCall.z1lm rfl rfl fun hl => ?_
 have hh : h.length = 16 := hl (.agg _) (List.mem_cons_self ..) (.b8 16 h) (by simp)
 have hr : r.length = 2 := hl (.agg _) (List.mem_cons_self ..) (.w64 2 r) (by simp)
 have ha : a.length = 3 := hl (.agg _) (List.mem_cons_self ..) (.w64 3 a) (by simp)
 have o : PS.ok ⟨v3 a, h, n.toNat⟩ := ⟨ok.2.2.1, hh, by have := ok.2.2.2.2.1; show n.toNat < 16; omega, ok.2.2.2.2.2⟩
 have h0 := ok.2.2.2.1;have en : ((n.toNat : Nat) : Int) = n := by omega
 have := z1ke r p ⟨v3 a, h, n.toNat⟩ o (ok.r2 hr) (by
  show okS r (w3 (v3 a)) h ((n.toNat : Nat) : Int) = true;rw [zmu ha, en];exact z66.2 ok)
 dsimp only at this;rw [zmu ha, en] at this;exact this
def P4 : Ctr Tryz.E := (P3.add 137 (fun
  | [.agg [.w64 2 r, .w64 2 p, .w64 3 a, .b8 16 h, .int .i64 n], .vec8 full b] => some (okS r a h n && ltB b.length 4611686018427387904,
    .ret (.tup [.agg [.w64 2 r, .w64 2 p, .w64 3 (w3 (z2b (v2 r) ⟨v3 a, h, n.toNat⟩ b).a), .b8 16 (z2b (v2 r) ⟨v3 a, h, n.toNat⟩ b).h, .int .i64 (((z2b (v2 r) ⟨v3 a, h, n.toNat⟩ b).n : Nat) : Int)], .int .i64 0]) [])
  | _ => none) (by
   intro args pre out h hp
   split at h
   ·obtain ⟨rfl, rfl⟩ := spE h;simp only [Bool.and_eq_true, z66, z1z] at hp;exact z1j2 _ _ _ _ _ _ _ hp.1 hp.2
   ·simp at h)).add 139 (fun
  | [.agg [.w64 2 r, .w64 2 p, .w64 3 a, .b8 16 h, .int .i64 n]] => some (okS r a h n, .ret (.tup [.b8 16 (zib (zkm (v2 r) ⟨v3 a, h, n.toNat⟩) p), .int .i64 0]) [])
  | _ => none) (by
   intro args pre out h hp
   split at h
   ·obtain ⟨rfl, rfl⟩ := spE h;simp only [z66] at hp;exact z1k1 _ _ _ _ _ hp
   ·simp at h)
theorem z1fy (k b : List UInt8) (full : Bool) (K : AV → Heap → Prop) : walk Tryz.E RS P4.C (fun _ _ => .unroll 17) 5 133 [.b8 32 k, .vec8 full b] K = (
 let x0 : Nat := (Pol.v2 (rOf k))
 let x1 : List UInt64 := (Pol.w3 (Pol.PS.a (z2b x0 (Pol.PS.mk (Pol.v3 (Pol.w3 0)) Pol.zeros (Int.toNat 0)) b)))
 let x2 : List UInt8 := (Pol.PS.h (z2b x0 (Pol.PS.mk (Pol.v3 (Pol.w3 0)) Pol.zeros (Int.toNat 0)) b))
 let x3 : Int := (((Pol.PS.n (z2b x0 (Pol.PS.mk (Pol.v3 (Pol.w3 0)) Pol.zeros (Int.toNat 0)) b)) : Nat) : Int)
 cnd ((Pol.okS (rOf k) (Pol.w3 0) Pol.zeros 0) && (ltB b.length 4611686018427387904))
 (cnd (Pol.okS (rOf k) x1 x2 x3)
 (K (.b8 16 (zib (zkm x0 (Pol.PS.mk (Pol.v3 x1) x2 (Int.toNat x3))) (zsw k))) []))) := by kernel_rfl
theorem ztb (x a b : UInt64) (h : a &&& b = 0) : ((x &&& a) &&& b).toNat = 0 := by
 rw [UInt64.and_assoc, h, UInt64.and_zero]; rfl
theorem z1k3 (k : List UInt8) : ((rOf k).getD 0 0 &&& 17293822586014138368).toNat = 0 := ztb _ _ _ (by decide)
theorem z1jd (k : List UInt8) : ((rOf k).getD 1 0 &&& 17293822586014138371).toNat = 0 := ztb _ _ _ (by decide)
theorem ok0 : PS.ok ⟨0, zeros, 0⟩ := ⟨by decide, rfl, by decide, fun i _ => zoa i⟩
theorem z1aw {k : List UInt8} {s : PS} (o : s.ok) : okS (rOf k) (w3 s.a) s.h ((s.n : Nat) : Int) = true := z1fh o (z1k3 k) (z1jd k)
theorem z16r {s : PS} (o : s.ok) : PS.mk (v3 (w3 s.a)) s.h (Int.toNat ((s.n : Nat) : Int)) = s := by
 have h := o.a;unfold q at h;rw [z5d (by omega), Int.toNat_natCast]
def tagF (k b : List UInt8) : List UInt8 := zib (zkm (v2 (rOf k)) (z2b (v2 (rOf k)) ⟨0, zeros, 0⟩ b)) (zsw k)
def z5p : List UInt8 → List UInt8 → List UInt8 := (zf tagF).val
theorem zze (k b : List UInt8) : z5p k b = tagF k b := by rw [z5p, (zf tagF).property]
theorem z1jy (k b : List UInt8) (full : Bool) (hb : b.length < 4611686018427387904) : HCall Tryz.E 133 [.b8 32 k, .vec8 full b] (.ret (.b8 16 (z5p k b)) []) := by
 refine HCall.z1lg (R := RS) (T := P4) (fun _ _ => .unroll 17) 5 rfl rfl ?_
 rw [z1fy];have e0 : PS.mk (v3 (w3 0)) zeros (Int.toNat 0) = ⟨0, zeros, 0⟩ := z16r ok0;have e1 : okS (rOf k) (w3 0) zeros 0 = true := z1aw ok0;rw [e0, e1];have o := zyz (r := v2 (rOf k)) ok0 b;dsimp only;rw [z1aw o, zih hb, z16r o, zze];exact ⟨rfl, rfl⟩
def P5 : Ctr Tryz.E := (P4.add 133 (fun
  | [.b8 32 k, .vec8 _ b] => some (ltB b.length 4611686018427387904, .ret (.b8 16 (z5p k b)) [])
  | _ => none) (by
   intro args pre out h hp
   split at h
   ·obtain ⟨rfl, rfl⟩ := spE h;exact z1jy _ _ _ (z1z.1 hp)
   ·simp at h)).add 16 (fun
  | [.int .i64 n, .int .i64 m] => some (decide (0 < m) && decide (m ≤ 9223372036854775807), .ret (.int .i64 (n % m)) [])
  | _ => none) (by
   intro args pre out h hp
   split at h
   ·obtain ⟨rfl, rfl⟩ := spE h;simp only [Bool.and_eq_true, decide_eq_true_eq] at hp;exact zlm _ _ hp.1 hp.2
   ·simp at h)
end Go.Proofs.YtehaohfglolljaaGreatDoor
namespace Go.Proofs.YtehaohfglolljaaGreatDoor
open Go Go.V Go.Cha
set_option maxHeartbeats 0
set_option maxRecDepth 100000
structure StrI where
 k : Nat
 i : Nat
section
variable (key nonce b : List UInt8) (c : UInt32)
def zh8 (t12 t13 : AV) (at_ : Int) : List AV :=
 [.b8 32 key, .u32 c, .b8 12 nonce, .any, .ptr 0 0, .any, .ptr 1 0, .any, .vec8 true [], .int .i64 0, .sl 2 0 1 b.length, .int .i64 at_, t12, t13] ++ List.replicate 50 .any
def z1ky (k : Nat) : List AV := zh8 key nonce b c .any .any ((64 * k : Nat) : Int)
def z1jw (k : Nat) : Heap := [.blk [.b8 32 key] [], .blk [.b8 12 nonce] [], .grow8 (streamN key c nonce (64 * k) b) []]
def z1k0 (s : StrI) : List AV := zh8 key nonce b c (.ptr 3 0) (.int .i64 (s.i : Nat)) ((64 * s.k : Nat) : Int)
def z1je (s : StrI) : Heap := [.blk [.b8 32 key] [], .blk [.b8 12 nonce] [], .grow8 (streamN key c nonce s.i b) [], .blk [.b8 64 (blockS key (c + UInt32.ofNat s.k) nonce)] []]
def zsk (k : Nat) : Prop := 64 * k ≤ b.length + 63 ∧ b.length ≤ 1600
def zsh (g : AV) (s : StrI) : Prop := g = .int .i64 ((64 * s.k : Nat) : Int) ∧ 64 * s.k < b.length ∧ 64 * s.k ≤ s.i ∧ s.i ≤ 64 * s.k + 64 ∧ s.i ≤ b.length ∧ b.length ≤ 1600
def strL (f l : Nat) : LPlan :=
 bif f == 126 then (bif l == 7 then .inv Nat (zsk b) (fun k => b.length + 64 - 64 * k) (z1ky key nonce b c) (z1jw key nonce b c)
  else .invg StrI 11 (zsh b) (fun s => b.length - s.i) (z1k0 key nonce b c) (z1je key nonce b c)) else .unroll 17
end
theorem z163 (key nonce b : List UInt8) (c : UInt32) (full : Bool) (K : AV → Heap → Prop) : walk Tryz.E RS T3.C (strL key nonce b c) 5 126 [.b8 32 key, .u32 c, .b8 12 nonce, .vec8 full b] K = (
 let x0 : Nat := b.length
 let x1 : Int := (x0 : Int)
 za (ltI 1600 x1)
 (K (.tup [.vec8 true [], .int .i64 1]) [])
 (za (ltI (wr .i64 (z6r 4294967296 (((UInt32.toNat c) : Nat) : Int))) (wr .i64 (Int.tdiv (wr .i64 (x1 + 63)) 64)))
 (K (.tup [.vec8 true [], .int .i64 11]) [])
 (cnd (leB (x0 * 1) 140737488355328)
 ((∃ w0 : Nat, (zsk b w0) ∧ ((AV.b8 32 key = .b8 32 key) ∧ ((AV.u32 c = .u32 c) ∧ ((AV.b8 12 nonce = .b8 12 nonce) ∧ ((AV.vec8 true [] = .vec8 true []) ∧ ((AV.int .i64 0 = .int .i64 0) ∧ ((AV.sl 2 0 1 x0 = .sl 2 0 1 x0) ∧ ((AV.int .i64 0 = .int .i64 (((64 * w0) : Nat) : Int)) ∧ ((AV.b8 32 key = .b8 32 key) ∧ ((AV.b8 12 nonce = .b8 12 nonce) ∧ ((b = Cha.streamN key c nonce (64 * w0) b) ∧ True))))))))))) ∧ (∀ w1 : Nat, (zsk b w1 → za (ltI (((64 * w1) : Nat) : Int) x1)
 ((∃ w2 : StrI, (zsh b (.int .i64 (((64 * w1) : Nat) : Int)) w2) ∧ ((AV.b8 32 key = .b8 32 key) ∧ ((AV.u32 c = .u32 c) ∧ ((AV.b8 12 nonce = .b8 12 nonce) ∧ ((AV.vec8 true [] = .vec8 true []) ∧ ((AV.int .i64 0 = .int .i64 0) ∧ ((AV.sl 2 0 1 x0 = .sl 2 0 1 x0) ∧ ((AV.int .i64 (((64 * w1) : Nat) : Int) = .int .i64 (((64 * (StrI.k w2)) : Nat) : Int)) ∧ ((AV.int .i64 (((64 * w1) : Nat) : Int) = .int .i64 (((StrI.i w2) : Nat) : Int)) ∧ ((AV.b8 32 key = .b8 32 key) ∧ ((AV.b8 12 nonce = .b8 12 nonce) ∧ ((Cha.streamN key c nonce (64 * w1) b = Cha.streamN key c nonce (StrI.i w2) b) ∧ ((AV.b8 64 (Cha.blockS key (c + (UInt32.ofNat (Int.toNat ((wr .i64 (Int.tdiv (((64 * w1) : Nat) : Int) 64)) % 4294967296)))) nonce) = .b8 64 (Cha.blockS key (c + (UInt32.ofNat (StrI.k w2))) nonce)) ∧ True))))))))))))) ∧ (∀ w3 : StrI, (zsh b (.int .i64 (((64 * w1) : Nat) : Int)) w3 → za (ltI (((StrI.i w3) : Nat) : Int) (cond false (Max.max (wr .i64 ((((64 * (StrI.k w3)) : Nat) : Int) + 64)) x1) (Min.min (wr .i64 ((((64 * (StrI.k w3)) : Nat) : Int) + 64)) x1)))
 (cnd ((inB (((StrI.i w3) : Nat) : Int) x0) && true)
 (cnd (leB (0 + x0) (Cha.streamN key c nonce (StrI.i w3) b).length)
 (cnd (inB (wr .i64 (z6r (((StrI.i w3) : Nat) : Int) (((64 * (StrI.k w3)) : Nat) : Int))) 64)
 (cnd ((inB (((StrI.i w3) : Nat) : Int) x0) && true)
 (cnd ((true && ((leB (0 + x0) (szL (Ent.cells (Ent.grow8 (Cha.streamN key c nonce (StrI.i w3) b) [])))) && true)) && true)
 ((∃ w4 : StrI, ((((fun s => x0 - (StrI.i s)) w4) < ((fun s => x0 - (StrI.i s)) w3)) ∧ (zsh b (.int .i64 (((64 * w1) : Nat) : Int)) w4)) ∧ ((AV.b8 32 key = .b8 32 key) ∧ ((AV.u32 c = .u32 c) ∧ ((AV.b8 12 nonce = .b8 12 nonce) ∧ ((AV.vec8 true [] = .vec8 true []) ∧ ((AV.int .i64 0 = .int .i64 0) ∧ ((AV.sl 2 0 1 x0 = .sl 2 0 1 x0) ∧ ((AV.int .i64 (((64 * (StrI.k w3)) : Nat) : Int) = .int .i64 (((64 * (StrI.k w4)) : Nat) : Int)) ∧ ((AV.int .i64 (wr .i64 ((((StrI.i w3) : Nat) : Int) + 1)) = .int .i64 (((StrI.i w4) : Nat) : Int)) ∧ ((AV.b8 32 key = .b8 32 key) ∧ ((AV.b8 12 nonce = .b8 12 nonce) ∧ ((List.set (Cha.streamN key c nonce (StrI.i w3) b) (ofs 0 (((StrI.i w3) : Nat) : Int)) ((List.getD (Cha.streamN key c nonce (StrI.i w3) b) (ofs 0 (((StrI.i w3) : Nat) : Int)) 0) ^^^ (List.getD (Cha.blockS key (c + (UInt32.ofNat (StrI.k w3))) nonce) (ofs 0 (wr .i64 (z6r (((StrI.i w3) : Nat) : Int) (((64 * (StrI.k w3)) : Nat) : Int)))) 0)) = Cha.streamN key c nonce (StrI.i w4) b) ∧ ((AV.b8 64 (Cha.blockS key (c + (UInt32.ofNat (StrI.k w3))) nonce) = .b8 64 (Cha.blockS key (c + (UInt32.ofNat (StrI.k w4))) nonce)) ∧ True)))))))))))))))))))
 ((∃ w5 : Nat, ((((fun k => (x0 + 64) - (64 * k)) w5) < ((fun k => (x0 + 64) - (64 * k)) w1)) ∧ (zsk b w5)) ∧ ((AV.b8 32 key = .b8 32 key) ∧ ((AV.u32 c = .u32 c) ∧ ((AV.b8 12 nonce = .b8 12 nonce) ∧ ((AV.vec8 true [] = .vec8 true []) ∧ ((AV.int .i64 0 = .int .i64 0) ∧ ((AV.sl 2 0 1 x0 = .sl 2 0 1 x0) ∧ ((AV.int .i64 (wr .i64 ((((64 * (StrI.k w3)) : Nat) : Int) + 64)) = .int .i64 (((64 * w5) : Nat) : Int)) ∧ ((AV.b8 32 key = .b8 32 key) ∧ ((AV.b8 12 nonce = .b8 12 nonce) ∧ ((Cha.streamN key c nonce (StrI.i w3) b = Cha.streamN key c nonce (64 * w5) b) ∧ True)))))))))))))))
 (K (.tup [.sl 0 0 1 x0, .int .i64 0]) [Ent.grow8 (Cha.streamN key c nonce (64 * w1) b) []]))))))) := by kernel_rfl
def zo4 (c : UInt32) (n : Nat) : Bool := ltB (4294967296 - c.toNat) ((n + 63) / 64)
def z3i : UInt32 → Nat → Bool := (zf zo4).val
theorem zwl (c : UInt32) (n : Nat) : z3i c n = zo4 c n := by rw [z3i, (zf zo4).property]
theorem z1hn {c : UInt32} {n : Nat} (h : n ≤ 1600) : ltI (wr .i64 (z6r 4294967296 (c.toNat : Int))) (wr .i64 (Int.tdiv (wr .i64 ((n : Int) + 63)) 64)) = z3i c n := by
 have := c.toNat_lt;rw [z4p, z2f (z := (n : Int) + 63) (by omega) (by omega), z2f (z := 4294967296 - (c.toNat : Int)) (by omega) (by omega), Int.tdiv_eq_ediv_of_nonneg (by omega), z2f (by omega) (by omega)]
 rw [zwl]; unfold zo4
 by_cases e : 4294967296 - c.toNat < (n + 63) / 64
 ·rw [zih e, z5g (by omega)]
 ·rw [z3m (by omega), z4l (by omega)]
def zos (key : List UInt8) (c : UInt32) (nonce b : List UInt8) : Out :=
 .alt (ltB 1600 b.length) (.ret (.tup [.vec8 true [], .int .i64 1]) []) (.alt (z3i c b.length) (.ret (.tup [.vec8 true [], .int .i64 11]) []) (.ret (.tup [.sl 0 0 1 b.length, .int .i64 0]) [.grow8 (streamS key c nonce b) []]))
theorem z18z (key nonce b : List UInt8) (c : UInt32) (full : Bool) : HCall Tryz.E 126 [.b8 32 key, .u32 c, .b8 12 nonce, .vec8 full b] (zos key c nonce b) := by
 refine HCall.z1lg (R := RS) (T := T3) (strL key nonce b c) 5 rfl rfl ?_;rw [z163];dsimp only;unfold zos;rw [show ltI 1600 (b.length : Int) = ltB 1600 b.length from rfl]
 rcases Bool.eq_false_or_eq_true (ltB 1600 b.length) with h | h
 ·rw [h]; exact ⟨rfl, rfl⟩
 rw [h];have h1 := z3h h;rw [z1hn h1];rcases Bool.eq_false_or_eq_true (z3i c b.length) with h2 | h2
 ·rw [h2]; exact ⟨rfl, rfl⟩
 rw [h2];rw [Nat.mul_one, zp (by omega)]
 refine ⟨⟨0, ⟨by omega, h1⟩, rfl, rfl, rfl, rfl, rfl, rfl, rfl, rfl, rfl, ?_, trivial⟩, fun k hk => ?_⟩
 ·rw [Nat.mul_zero]; exact (zxn _ _).symm
 obtain ⟨hk1, _⟩ := hk;have e0 : Int.tdiv ((64 * k : Nat) : Int) 64 = (k : Int) := by
  rw [Int.tdiv_eq_ediv_of_nonneg (by omega)]; omega
 cases h3 : ltI ((64 * k : Nat) : Int) (b.length : Int)
 ·have := zqs h3;refine ⟨rfl, ?_⟩;unfold streamS streamN;rw [zeo (n := 64 * k) (by omega)]
 have h4 := zo5 h3;refine ⟨⟨⟨k, 64 * k⟩, ⟨rfl, by show 64 * k < b.length; omega, Nat.le_refl _, by show 64 * k ≤ 64 * k + 64; omega, by show 64 * k ≤ b.length; omega, h1⟩, rfl, rfl, rfl, rfl, rfl, rfl, rfl, rfl, rfl, rfl, rfl, ?_, trivial⟩, fun s hs => ?_⟩
 ·show AV.b8 64 _ = AV.b8 64 _;rw [e0, z2f (by omega) (by omega)]
  have : (Int.toNat ((k : Int) % 4294967296)) = k := by omega
  rw [this]
 obtain ⟨g1, g2, g3, g4, g5, _⟩ := hs;obtain ⟨sk, i⟩ := s;simp only at g1 g2 g3 g4 g5;obtain rfl : sk = k := by
  have : ((64 * k : Nat) : Int) = ((64 * sk : Nat) : Int) := by injection g1
  omega
 show za (ltI (i : Int) (min (wr .i64 (((64 * sk : Nat) : Int) + 64)) (b.length : Int))) _ _;rw [z2f (z := ((64 * sk : Nat) : Int) + 64) (by omega) (by omega)]
 cases h5 : ltI (i : Int) (min (((64 * sk : Nat) : Int) + 64) (b.length : Int))
 ·have h6 := zqs h5;refine ⟨sk + 1, ⟨by show b.length + 64 - 64 * (sk + 1) < b.length + 64 - 64 * sk; omega, by omega, h1⟩, rfl, rfl, rfl, rfl, rfl, rfl, ?_, rfl, rfl, ?_, trivial⟩
  ·congr 1
  ·rcases Nat.lt_or_ge i b.length with h7 | h7
   ·rw [show i = 64 * (sk + 1) by omega]
   ·unfold streamN;rw [zeo h7, zeo (n := 64 * (sk + 1)) (by omega)]
 have h6 := zo5 h5;have h7 : i < b.length := by omega
 have h8 : i < 64 * sk + 64 := by omega
 have e1 : z6r (i : Int) ((64 * sk : Nat) : Int) = ((i - 64 * sk : Nat) : Int) := by rw [z4p]; omega
 show cnd (inB (i : Int) b.length && true) _;rw [z44 (by omega) (by omega), zfx, Nat.zero_add, zp (Nat.le_refl _)]
 show cnd (inB (wr .i64 (z6r (i : Int) ((64 * sk : Nat) : Int))) 64) _;rw [e1, z2f (by omega) (by omega), z44 (by omega) (by omega)]
 have e2 : szL (Ent.cells (Ent.grow8 (streamN key c nonce i b) [])) = b.length := by
  show (streamN key c nonce i b).length + 0 = _;rw [zfx, Nat.add_zero]
 show cnd (true && ((leB b.length (szL (Ent.cells (Ent.grow8 (streamN key c nonce i b) [])))) && true) && true) _;rw [e2, zp (Nat.le_refl _)];refine ⟨⟨sk, i + 1⟩, ⟨by show b.length - (i + 1) < b.length - i; omega, rfl, g2, by show 64 * sk ≤ i + 1; omega, by show i + 1 ≤ 64 * sk + 64; omega, by show i + 1 ≤ b.length; omega, h1⟩, rfl, rfl, rfl, rfl, rfl, rfl, rfl, ?_, rfl, rfl, ?_, rfl, trivial⟩
 ·show AV.int .i64 (wr .i64 ((i : Int) + 1)) = AV.int .i64 ((i + 1 : Nat) : Int);rw [z2f (by omega) (by omega)]; rfl
 ·rw [ofs0, ofs0];show List.set (turned _ i b) i (List.getD (turned _ i b) i 0 ^^^ _) = turned _ (i + 1) b;rw [← zx1 h7]
  congr 2
  unfold keyAt;rw [show i / 64 = sk by omega, show i % 64 = i - 64 * sk by omega]
theorem z16t (key nonce b : List UInt8) (c : UInt32) (full : Bool) (h1 : ltB 1600 b.length = false) (h2 : z3i c b.length = false) :
  HCall Tryz.E 126 [.b8 32 key, .u32 c, .b8 12 nonce, .vec8 full b] (.ret (.tup [.sl 0 0 1 b.length, .int .i64 0]) [.grow8 (streamS key c nonce b) []]) := by
 have h := z18z key nonce b c full;unfold zos at h;rw [h1, h2] at h;obtain ⟨a, _, c⟩ := h;exact ⟨a, rfl, c⟩
def T4p : Ctr Tryz.E := T3.add 126 (fun
  | [.b8 32 key, .u32 c, .b8 12 nonce, .vec8 _ b] => some (!(ltB 1600 b.length) && !(z3i c b.length), .ret (.tup [.sl 0 0 1 b.length, .int .i64 0]) [.grow8 (streamS key c nonce b) []])
  | _ => none) (by
   intro args pre out h hp
   split at h
   ·obtain ⟨rfl, rfl⟩ := spE h;simp only [Bool.and_eq_true, Bool.not_eq_true'] at hp;exact z16t _ _ _ _ _ hp.1 hp.2
   ·simp at h)
end Go.Proofs.YtehaohfglolljaaGreatDoor
namespace Go.Proofs.YtehaohfglolljaaGreatDoor
open Go Go.V Go.Fld Go.Pol Go.Cha
set_option maxHeartbeats 0
set_option maxRecDepth 100000
theorem z17d (n : Int) (K : AV → Heap → Prop) : walk Tryz.E RS P5.C (fun _ _ => .unroll 17) 5 134 [.int .i64 n] K = (
 K (.sl 0 0 1 8) [Ent.grow8 (List.set (List.set (List.set (List.set (List.set (List.set (List.set (List.set (List.replicate 8 0) 0 (UInt8.ofNat (Int.toNat ((Int.fdiv n 1) % 256)))) 1 (UInt8.ofNat (Int.toNat ((Int.fdiv n 256) % 256)))) 2 (UInt8.ofNat (Int.toNat ((Int.fdiv n 65536) % 256)))) 3 (UInt8.ofNat (Int.toNat ((Int.fdiv n 16777216) % 256)))) 4 (UInt8.ofNat (Int.toNat ((Int.fdiv n 4294967296) % 256)))) 5 (UInt8.ofNat (Int.toNat ((Int.fdiv n 1099511627776) % 256)))) 6 (UInt8.ofNat (Int.toNat ((Int.fdiv n 281474976710656) % 256)))) 7 (UInt8.ofNat (Int.toNat ((Int.fdiv n 72057594037927936) % 256)))) []]) := by kernel_rfl
theorem z168 (b : List UInt8) (full : Bool) (K : AV → Heap → Prop) : walk Tryz.E RS P5.C (fun _ _ => .unroll 17) 5 132 [.vec8 full b] K = (
 let x0 : Nat := b.length
 let x1 : Int := (x0 : Int)
 let x2 : Int := (bits BinOp.and .i64 (wr .i64 (z6r 0 x1)) 15)
 let x3 : List UInt8 := (zx Option.none (Option.some x1) b)
 let x4 : Nat := x3.length
 let x5 : Nat := (Int.toNat x2)
 let x6 : Nat := 140737488355328
 let x7 : List UInt8 := (List.replicate x5 0)
 let x8 : Nat := x7.length
 cnd ((true && (x1 == x1)) && (z1d Option.none (Option.some x1) x0))
 (cnd (true && (nnB x2))
 (cnd (leB ((x4 + x5) * 1) x6)
 (za (List.isEmpty x3)
 (cnd (leB (x8 * 1) x6)
 (K (.sl 0 0 1 x8) [Ent.grow8 x7 []]))
 (za (List.isEmpty x7)
 (K (.vec8 true x3) [])
 (cnd (leB ((x4 + x8) * 1) x6)
 (K (.sl 0 0 1 (x4 + x8)) [Ent.grow8 (x3 ++ x7) []]))))))) := by kernel_rfl
def zti (n : Int) : List UInt8 := List.set (List.set (List.set (List.set (List.set (List.set (List.set (List.set (List.replicate 8 0) 0 (UInt8.ofNat (Int.toNat ((Int.fdiv n 1) % 256)))) 1 (UInt8.ofNat (Int.toNat ((Int.fdiv n 256) % 256)))) 2 (UInt8.ofNat (Int.toNat ((Int.fdiv n 65536) % 256)))) 3 (UInt8.ofNat (Int.toNat ((Int.fdiv n 16777216) % 256)))) 4 (UInt8.ofNat (Int.toNat ((Int.fdiv n 4294967296) % 256)))) 5 (UInt8.ofNat (Int.toNat ((Int.fdiv n 1099511627776) % 256)))) 6 (UInt8.ofNat (Int.toNat ((Int.fdiv n 281474976710656) % 256)))) 7 (UInt8.ofNat (Int.toNat ((Int.fdiv n 72057594037927936) % 256)))
def z71 : Int → List UInt8 := (zf zti).val
theorem zql (n : Int) : z71 n = zti n := by rw [z71, (zf zti).property]
theorem zhs (n : Int) : (z71 n).length = 8 := by rw [zql]; rfl
theorem z1d7 (n : Int) : HCall Tryz.E 134 [.int .i64 n] (.ret (.sl 0 0 1 8) [.grow8 (z71 n) []]) := by
 refine HCall.z1lg (R := RS) (T := P5) (fun _ _ => .unroll 17) 5 rfl rfl ?_
 rw [z17d, zql];exact ⟨rfl, rfl⟩
def z9r (n : Nat) : Nat := (16 - n % 16) % 16
def zq1 (b : List UInt8) : List UInt8 := b ++ List.replicate (z9r b.length) 0
def z6t : List UInt8 → List UInt8 := (zf zq1).val
theorem zq7 (b : List UInt8) : z6t b = zq1 b := by rw [z6t, (zf zq1).property]
theorem zlf (b : List UInt8) : (z6t b).length = b.length + z9r b.length := by rw [zq7]; simp [zq1]
def zeb (b : List UInt8) : Bool := !b.isEmpty && z9r b.length == 0
def z7z : List UInt8 → Bool := (zf zeb).val
theorem zlp (b : List UInt8) : z7z b = zeb b := by rw [z7z, (zf zeb).property]
theorem z1kz (n : Nat) (h : n ≤ 1000000000) : bits .and .i64 (wr .i64 (z6r 0 (n : Int))) 15 = (z9r n : Int) := by
 rw [z4p, z2f (by omega) (by omega)]
 have h1 : (BitVec.ofInt 64 (0 - (n : Int))).toNat = ((0 - (n : Int)) % 18446744073709551616).toNat := by
  rw [BitVec.toNat_ofInt]; rfl
 have h2 : (BitVec.ofInt 64 15).toNat = 15 := by decide
 have h3 : ∀ x : Nat, x &&& 15 = x % 16 := fun x => Nat.and_two_pow_sub_one_eq_mod x 4
 show IntKind.i64.wrap ((BitVec.ofInt 64 (0 - (n : Int)) &&& BitVec.ofInt 64 15).toNat : Int) = _;rw [BitVec.toNat_and, h1, h2, h3];unfold z9r;rw [IntKind.wrap_i64];omega
theorem z1ak (b : List UInt8) : zx none (some ((b.length : Nat) : Int)) b = b := by
 show b.take (Int.toNat _) = _;rw [Int.toNat_natCast, List.take_length]
theorem z11c (b : List UInt8) : z1d none (some ((b.length : Nat) : Int)) b.length = true := by
 show (nnB _ && leB (Int.toNat _) _) = true;rw [z3e.2 (by omega), Int.toNat_natCast, zp (Nat.le_refl _)]; rfl
def zpv (b : List UInt8) : Out := .alt (z7z b) (.ret (.vec8 true b) []) (.ret (.sl 0 0 1 (z6t b).length) [.grow8 (z6t b) []])
theorem z18a (b : List UInt8) (full : Bool) (h : b.length ≤ 1000000) : HCall Tryz.E 132 [.vec8 full b] (zpv b) := by
 refine HCall.z1lg (R := RS) (T := P5) (fun _ _ => .unroll 17) 5 rfl rfl ?_
 rw [z168];dsimp only;have hp : z9r b.length < 16 := by unfold z9r; omega
 rw [z1kz _ (by omega), z1ak, z11c, beq_self_eq_true, Int.toNat_natCast, z3e.2 (by omega : (0 : Int) ≤ (z9r b.length : Int)), List.length_replicate, Nat.mul_one, Nat.mul_one, zp (by omega), zp (by omega)]
 unfold zpv;rw [zlp, zq7];unfold zeb zq1;rw [List.length_append, List.length_replicate];show za _ _ _;cases b with
 | nil => exact ⟨rfl, rfl⟩
 | cons x l =>
  show za _ _ _
  by_cases e : z9r (x :: l).length = 0
  ·rw [e]; exact ⟨rfl, rfl⟩
  ·have e1 : (z9r (x :: l).length == 0) = false := beq_eq_false_iff_ne.2 e;have e2 : (List.replicate (z9r (x :: l).length) (0 : UInt8)).isEmpty = false := by
    cases hq : z9r (x :: l).length with
    | zero => exact absurd hq e
    | succ n => rfl
   rw [e1, e2];exact ⟨rfl, rfl⟩
def S0 : Ctr Tryz.E := ⟨fun f args => match T4p.C f args with
  | some r => some r
  | none => P5.C f args, by
 intro f args pre out h hp
 split at h
 ·rename_i r hr;simp only [Option.some.injEq] at h;subst h;exact T4p.ok _ _ _ _ hr hp
 ·exact P5.ok _ _ _ _ h hp⟩
def S1 : Ctr Tryz.E := (S0.add 132 (fun
  | [.vec8 _ b] => some (leB b.length 1000000, zpv b)
  | _ => none) (by
   intro args pre out h hp
   split at h
   ·obtain ⟨rfl, rfl⟩ := spE h;exact z18a _ _ (zh.1 hp)
   ·simp at h)).add 134 (fun
  | [.int .i64 n] => some (true, .ret (.sl 0 0 1 8) [.grow8 (z71 n) []])
  | _ => none) (by
   intro args pre out h hp
   split at h
   ·obtain ⟨rfl, rfl⟩ := spE h;exact z1d7 _
   ·simp at h)
theorem z103 (k n a b : List UInt8) (fa fb : Bool) (K : AV → Heap → Prop) : walk Tryz.E RS S1.C (fun _ _ => .unroll 17) 5 127 [.b8 32 k, .b8 12 n, .vec8 fa a, .vec8 fb b] K = (
 let x0 : Nat := a.length
 let x1 : Nat := b.length
 let x2 : Bool := leB x1 1000000
 let x3 : Bool := List.isEmpty a
 let x4 : Nat := 140737488355328
 let x5 : List UInt8 := (z71 (x0 : Int))
 let x6 : Bool := true && (leB 8 x5.length)
 let x7 : List UInt8 := (List.take 8 (List.drop 0 x5))
 let x8 : Nat := x7.length
 let x9 : List UInt8 := (z71 (x1 : Int))
 let x10 : Bool := true && (leB 8 x9.length)
 let x11 : List UInt8 := (List.take 8 (List.drop 0 x9))
 let x12 : Nat := x11.length
 let x13 : Nat := ((x1 + x8) + x12)
 let x14 : List UInt8 := ((b ++ x7) ++ x11)
 let x15 : List UInt8 := (List.take x13 (List.drop 0 x14))
 let x16 : Nat := 4611686018427387904
 let x17 : List UInt8 := (Cha.blockS k 0 n)
 let x18 : List UInt8 := ((List.take 32 x17) ++ (List.drop (Min.min x17.length 32) [0, 0, 0, 0, 0, 0, 0, 0, 0, 0, 0, 0, 0, 0, 0, 0, 0, 0, 0, 0, 0, 0, 0, 0, 0, 0, 0, 0, 0, 0, 0, 0]))
 let x19 : List UInt8 := (List.take (x8 + x12) (List.drop 0 (x7 ++ x11)))
 let x20 : List UInt8 := (List.take x12 (List.drop 0 x11))
 let x21 : List UInt8 := (List.take (x0 + x12) (List.drop 0 (a ++ x11)))
 let x22 : Nat := ((x0 + x8) + x12)
 let x23 : List UInt8 := ((a ++ x7) ++ x11)
 let x24 : List UInt8 := (List.take x22 (List.drop 0 x23))
 let x25 : Nat := ((x0 + x1) + x8)
 let x26 : List UInt8 := ((a ++ b) ++ x7)
 let x27 : List UInt8 := (List.take (x25 + x12) (List.drop 0 (x26 ++ x11)))
 let x28 : Nat := (z6t b).length
 let x29 : Bool := true && (leB (0 + x28) x28)
 let x30 : List UInt8 := (List.take x28 (List.drop 0 (z6t b)))
 let x31 : Nat := x30.length
 let x32 : Nat := ((x31 + x8) + x12)
 let x33 : List UInt8 := ((x30 ++ x7) ++ x11)
 let x34 : List UInt8 := (List.take x32 (List.drop 0 x33))
 let x35 : Nat := ((x0 + x31) + x8)
 let x36 : List UInt8 := ((a ++ x30) ++ x7)
 let x37 : List UInt8 := (List.take (x35 + x12) (List.drop 0 (x36 ++ x11)))
 let x38 : Nat := (z6t a).length
 let x39 : List UInt8 := ((z6t a) ++ b)
 let x40 : Nat := ((x38 + x1) + x8)
 let x41 : List UInt8 := ((x39 ++ x7) ++ x11)
 let x42 : List UInt8 := (List.take (x40 + x12) (List.drop 0 x41))
 let x43 : List UInt8 := ((z6t a) ++ x30)
 let x44 : Nat := ((x38 + x31) + x8)
 let x45 : List UInt8 := ((x43 ++ x7) ++ x11)
 let x46 : List UInt8 := (List.take (x44 + x12) (List.drop 0 x45))
 let u0 := (true && ((true && (leB (0 + (x8 + x12)) (x7 ++ x11).length)) && true))
 let u1 := (true && ((true && (leB (0 + (x0 + x12)) (a ++ x11).length)) && true))
 let u2 := (true && ((true && (leB (0 + x22) x23.length)) && true))
 let u3 := (true && ((true && (leB (0 + x12) x12)) && true))
 cnd (leB x0 1000000)
 (za (z7z a)
 (cnd (x2)
 (za (z7z b)
 (za (x3)
 (cnd (leB (x1 * 1) x4)
 (cnd (x6)
 (cnd (x1 == x1)
 (cnd (leB ((x1 + x8) * 1) x4)
 (cnd (x10)
 (cnd ((x1 + x8) == (b ++ x7).length)
 (cnd (leB (x13 * 1) x4)
 (cnd (true && ((true && (leB (0 + x13) x14.length)) && true))
 (cnd (ltB x15.length x16)
 (K (.b8 16 (z5p x18 x15)) []))))))))))
 (za (List.isEmpty b)
 (cnd (x6)
 (za (x3)
 (cnd (leB (x8 * 1) x4)
 (cnd (x10)
 (cnd (x8 == x8)
 (cnd (leB ((x8 + x12) * 1) x4)
 (cnd u0
 (cnd (ltB x19.length x16)
 (K (.b8 16 (z5p x18 x19)) [])))))))
 (za (List.isEmpty x7)
 (cnd (x10)
 (za (x3)
 (cnd (leB (x12 * 1) x4)
 (cnd u3
 (cnd (ltB x20.length x16)
 (K (.b8 16 (z5p x18 x20)) []))))
 (za (List.isEmpty x11)
 (cnd (ltB x0 x16)
 (K (.b8 16 (z5p x18 a)) []))
 (cnd (leB ((x0 + x12) * 1) x4)
 (cnd u1
 (cnd (ltB x21.length x16)
 (K (.b8 16 (z5p x18 x21)) [])))))))
 (cnd (leB ((x0 + x8) * 1) x4)
 (cnd (x10)
 (cnd ((x0 + x8) == (a ++ x7).length)
 (cnd (leB (x22 * 1) x4)
 (cnd u2
 (cnd (ltB x24.length x16)
 (K (.b8 16 (z5p x18 x24)) []))))))))))
 (cnd (leB ((x0 + x1) * 1) x4)
 (cnd (x6)
 (cnd ((x0 + x1) == (a ++ b).length)
 (cnd (leB (x25 * 1) x4)
 (cnd (x10)
 (cnd (x25 == x26.length)
 (cnd (leB ((x25 + x12) * 1) x4)
 (cnd (true && ((true && (leB (0 + (x25 + x12)) (x26 ++ x11).length)) && true))
 (cnd (ltB x27.length x16)
 (K (.b8 16 (z5p x18 x27)) []))))))))))))
 (cnd (x29)
 (za (x3)
 (cnd (leB (x31 * 1) x4)
 (cnd (x6)
 (cnd (x31 == x31)
 (cnd (leB ((x31 + x8) * 1) x4)
 (cnd (x10)
 (cnd ((x31 + x8) == (x30 ++ x7).length)
 (cnd (leB (x32 * 1) x4)
 (cnd (true && ((true && (leB (0 + x32) x33.length)) && true))
 (cnd (ltB x34.length x16)
 (K (.b8 16 (z5p x18 x34)) []))))))))))
 (za (List.isEmpty x30)
 (cnd (x6)
 (za (x3)
 (cnd (leB (x8 * 1) x4)
 (cnd (x10)
 (cnd (x8 == x8)
 (cnd (leB ((x8 + x12) * 1) x4)
 (cnd u0
 (cnd (ltB x19.length x16)
 (K (.b8 16 (z5p x18 x19)) [])))))))
 (za (List.isEmpty x7)
 (cnd (x10)
 (za (x3)
 (cnd (leB (x12 * 1) x4)
 (cnd u3
 (cnd (ltB x20.length x16)
 (K (.b8 16 (z5p x18 x20)) []))))
 (za (List.isEmpty x11)
 (cnd (ltB x0 x16)
 (K (.b8 16 (z5p x18 a)) []))
 (cnd (leB ((x0 + x12) * 1) x4)
 (cnd u1
 (cnd (ltB x21.length x16)
 (K (.b8 16 (z5p x18 x21)) [])))))))
 (cnd (leB ((x0 + x8) * 1) x4)
 (cnd (x10)
 (cnd ((x0 + x8) == (a ++ x7).length)
 (cnd (leB (x22 * 1) x4)
 (cnd u2
 (cnd (ltB x24.length x16)
 (K (.b8 16 (z5p x18 x24)) []))))))))))
 (cnd (leB ((x0 + x31) * 1) x4)
 (cnd (x6)
 (cnd ((x0 + x31) == (a ++ x30).length)
 (cnd (leB (x35 * 1) x4)
 (cnd (x10)
 (cnd (x35 == x36.length)
 (cnd (leB ((x35 + x12) * 1) x4)
 (cnd (true && ((true && (leB (0 + (x35 + x12)) (x36 ++ x11).length)) && true))
 (cnd (ltB x37.length x16)
 (K (.b8 16 (z5p x18 x37)) [])))))))))))))))
 (cnd (x2)
 (za (z7z b)
 (cnd (x38 == x38)
 (cnd (leB ((x38 + x1) * 1) x4)
 (cnd (x6)
 (cnd ((x38 + x1) == x39.length)
 (cnd (leB (x40 * 1) x4)
 (cnd (x10)
 (cnd (x40 == (x39 ++ x7).length)
 (cnd (leB ((x40 + x12) * 1) x4)
 (cnd (true && ((true && (leB (0 + (x40 + x12)) x41.length)) && true))
 (cnd (ltB x42.length x16)
 (K (.b8 16 (z5p x18 x42)) [])))))))))))
 (cnd (x29)
 (cnd (x38 == x38)
 (cnd (leB ((x38 + x31) * 1) x4)
 (cnd (x6)
 (cnd ((x38 + x31) == x43.length)
 (cnd (leB (x44 * 1) x4)
 (cnd (x10)
 (cnd (x44 == (x43 ++ x7).length)
 (cnd (leB ((x44 + x12) * 1) x4)
 (cnd (true && ((true && (leB (0 + (x44 + x12)) x45.length)) && true))
 (cnd (ltB x46.length x16)
 (K (.b8 16 (z5p x18 x46)) [])))))))))))))))) := by kernel_rfl
def allF (a b : List UInt8) : List UInt8 := ((z6t a ++ z6t b) ++ z71 (a.length : Int)) ++ z71 (b.length : Int)
def zjo (k n a b : List UInt8) : List UInt8 := z5p ((blockS k 0 n).take 32) (allF a b)
def zay : List UInt8 → List UInt8 → List UInt8 → List UInt8 → List UInt8 := (zf zjo).val
theorem zvw (k n a b : List UInt8) : zay k n a b = zjo k n a b := by rw [zay, (zf zjo).property]
theorem zxz (n : Nat) : z9r n < 16 := by unfold z9r; omega
theorem zio {b : List UInt8} (h : z7z b = true) : b.isEmpty = false ∧ z6t b = b := by
 rw [zlp] at h; unfold zeb at h
 simp only [Bool.and_eq_true, Bool.not_eq_true', beq_iff_eq] at h;refine ⟨h.1, ?_⟩;rw [zq7]; unfold zq1
 rw [h.2]; simp
theorem ze5 (l : List UInt8) : List.take l.length (List.drop 0 l) = l := by rw [List.drop_zero, List.take_length]
theorem zbl {l : List UInt8} {n : Nat} (h : n = l.length) : List.take n (List.drop 0 l) = l := by subst h; exact ze5 l
theorem z143 (k n : List UInt8) (c : UInt32) : (blockS k c n).length = 64 := zs4 ..
theorem zf6 {x y : Prop} : za true x y = x := rfl
theorem zf3 {x y : Prop} : za false x y = y := rfl
theorem z14e (k n a b : List UInt8) (fa fb : Bool) (ha : a.length ≤ 1000000) (hb : b.length ≤ 1000000) : HCall Tryz.E 127 [.b8 32 k, .b8 12 n, .vec8 fa a, .vec8 fb b] (.ret (.b8 16 (zay k n a b)) []) := by
 refine HCall.z1lg (R := RS) (T := S1) (fun _ _ => .unroll 17) 5 rfl rfl ?_
 rw [z103, zvw];dsimp only;unfold zjo allF;have l5 := zhs (a.length : Int);have l9 := zhs (b.length : Int);generalize z71 (a.length : Int) = u at *;generalize z71 (b.length : Int) = v at *;have e7 : List.take 8 (List.drop 0 u) = u := zbl l5.symm;have e11 : List.take 8 (List.drop 0 v) = v := zbl l9.symm;have hp := zlf b;have hpa := zlf a;have h1 := zxz a.length;have h2 := zxz b.length;have hk : List.drop (min (blockS k 0 n).length 32) ([0, 0, 0, 0, 0, 0, 0, 0, 0, 0, 0, 0, 0, 0, 0, 0, 0, 0, 0, 0, 0, 0, 0, 0, 0, 0, 0, 0, 0, 0, 0, 0] : List UInt8) = [] := by
  rw [z143]; rfl
 rw [e7, e11, ze5, hk, List.append_nil, l5, l9, zp ha, zp hb];have hu : u.isEmpty = false := by cases u with
  | nil => simp at l5
  | cons _ _ => rfl
 cases hfa : z7z a with
 | true =>
  obtain ⟨ea, pa⟩ := zio hfa;rw [pa, ea];cases hfb : z7z b with
  | true =>
   obtain ⟨eb, pb⟩ := zio hfb;rw [pb, eb];simp only [zf6, zf3, zd, Bool.and_eq_true, zh, z1z, beq_iff_eq, List.length_append, l5, l9];rw [zbl (l := ((a ++ b) ++ u) ++ v) (by simp only [List.length_append, l5, l9])]
   simp only [List.length_append, l5, l9]
   repeat' apply And.intro
   all_goals first | rfl | trivial | omega
  | false =>
   cases hpe : (z6t b).isEmpty with
   | true =>
    rw [List.isEmpty_iff] at hpe;rw [hpe] at hp ⊢;simp only [List.length_nil] at hp;simp only [hu, zf6, zf3, zd, Bool.and_eq_true, zh, z1z, beq_iff_eq, List.length_append, l5, l9, List.append_nil, List.length_nil, List.take_nil, List.drop_nil, List.isEmpty_nil];rw [zbl (l := (a ++ u) ++ v) (by simp only [List.length_append, l5, l9])]
    simp only [List.length_append, l5, l9]
    repeat' apply And.intro
    all_goals first | rfl | trivial | omega
   | false =>
    rw [ze5, hpe];simp only [zf6, zf3, zd, Bool.and_eq_true, zh, z1z, beq_iff_eq, List.length_append, l5, l9];rw [zbl (l := ((a ++ z6t b) ++ u) ++ v) (by simp only [List.length_append, l5, l9])]
    simp only [List.length_append, l5, l9]
    repeat' apply And.intro
    all_goals first | rfl | trivial | omega
 | false =>
  cases hfb : z7z b with
  | true =>
   obtain ⟨eb, pb⟩ := zio hfb;rw [pb];simp only [zf6, zf3, zd, Bool.and_eq_true, zh, z1z, beq_iff_eq, List.length_append, l5, l9];rw [zbl (l := ((z6t a ++ b) ++ u) ++ v) (by simp only [List.length_append, l5, l9])]
   simp only [List.length_append, l5, l9]
   repeat' apply And.intro
   all_goals first | rfl | trivial | omega
  | false =>
   rw [ze5];simp only [zf6, zf3, zd, Bool.and_eq_true, zh, z1z, beq_iff_eq, List.length_append, l5, l9];rw [zbl (l := ((z6t a ++ z6t b) ++ u) ++ v) (by simp only [List.length_append, l5, l9])]
   simp only [List.length_append, l5, l9]
   repeat' apply And.intro
   all_goals first | rfl | trivial | omega
def S2 : Ctr Tryz.E := S1.add 127 (fun
  | [.b8 32 k, .b8 12 n, .vec8 _ a, .vec8 _ b] => some (leB a.length 1000000 && leB b.length 1000000, .ret (.b8 16 (zay k n a b)) [])
  | _ => none) (by
   intro args pre out h hp
   split at h
   ·obtain ⟨rfl, rfl⟩ := spE h;simp only [Bool.and_eq_true, zh] at hp;exact z14e _ _ _ _ _ _ hp.1 hp.2
   ·simp at h)
theorem zxa (k n a b : List UInt8) (fa fb : Bool) (K : AV → Heap → Prop) : walk Tryz.E RS S2.C (fun _ _ => .unroll 17) 5 109 [.b8 32 k, .b8 12 n, .vec8 fa a, .vec8 fb b] K = (
 let x0 : Nat := a.length
 let x1 : Nat := b.length
 let x2 : List UInt8 := (Cha.streamS k 1 n b)
 let x3 : Nat := x2.length
 let x4 : List UInt8 := (List.take x1 (List.drop 0 x2))
 let x5 : List UInt8 := (zay k n a x4)
 let x6 : Nat := (x1 + x5.length)
 za (ltI 200 (x0 : Int))
 (K (.tup [.vec8 true [], .int .i64 1]) [])
 (za (cond false true (ltI 800 (x1 : Int)))
 (K (.tup [.vec8 true [], .int .i64 1]) [])
 (cnd ((Bool.not (ltB 1600 x1)) && (Bool.not (z3i 1 x1)))
 (cnd (true && (true && (true && ((true && (leB (0 + x1) x3)) && true))))
 (cnd ((leB x0 1000000) && (leB x4.length 1000000))
 (cnd (x1 == x3)
 (cnd (leB (x6 * 1) 140737488355328)
 (K (.tup [.sl 0 0 1 x6, .int .i64 0]) [Ent.grow8 (x2 ++ x5) []])))))))) := by kernel_rfl
theorem zxx (k n a b : List UInt8) (fa fb : Bool) (K : AV → Heap → Prop) : walk Tryz.E RS S2.C (fun _ _ => .unroll 17) 5 110 [.b8 32 k, .b8 12 n, .vec8 fa a, .vec8 fb b] K = (
 let x0 : Nat := a.length
 let x1 : Nat := b.length
 let x2 : Int := (wr .i64 (z6r (x1 : Int) 16))
 let x3 : Bool := true && (z1d Option.none (Option.some x2) x1)
 let x4 : List UInt8 := (zx Option.none (Option.some x2) b)
 let x5 : Nat := x4.length
 let x6 : List UInt8 := (zx (Option.some x2) Option.none b)
 let x7 : Nat := x6.length
 let x8 : Int := (x7 : Int)
 let x9 : Bool := leB (0 + x7) x7
 let x10 : List UInt8 := (zay k n a x4)
 let x11 : UInt8 := (0 ||| ((List.getD x6 0 0) ^^^ (List.getD x10 0 0)))
 let x12 : UInt8 := (x11 ||| ((List.getD x6 1 0) ^^^ (List.getD x10 1 0)))
 let x13 : UInt8 := (x12 ||| ((List.getD x6 2 0) ^^^ (List.getD x10 2 0)))
 let x14 : UInt8 := (x13 ||| ((List.getD x6 3 0) ^^^ (List.getD x10 3 0)))
 let x15 : UInt8 := (x14 ||| ((List.getD x6 4 0) ^^^ (List.getD x10 4 0)))
 let x16 : UInt8 := (x15 ||| ((List.getD x6 5 0) ^^^ (List.getD x10 5 0)))
 let x17 : UInt8 := (x16 ||| ((List.getD x6 6 0) ^^^ (List.getD x10 6 0)))
 let x18 : UInt8 := (x17 ||| ((List.getD x6 7 0) ^^^ (List.getD x10 7 0)))
 let x19 : UInt8 := (x18 ||| ((List.getD x6 8 0) ^^^ (List.getD x10 8 0)))
 let x20 : UInt8 := (x19 ||| ((List.getD x6 9 0) ^^^ (List.getD x10 9 0)))
 let x21 : UInt8 := (x20 ||| ((List.getD x6 10 0) ^^^ (List.getD x10 10 0)))
 let x22 : UInt8 := (x21 ||| ((List.getD x6 11 0) ^^^ (List.getD x10 11 0)))
 let x23 : UInt8 := (x22 ||| ((List.getD x6 12 0) ^^^ (List.getD x10 12 0)))
 let x24 : UInt8 := (x23 ||| ((List.getD x6 13 0) ^^^ (List.getD x10 13 0)))
 let x25 : UInt8 := (x24 ||| ((List.getD x6 14 0) ^^^ (List.getD x10 14 0)))
 let u0 : List AV := [.vec8 true [], .int .i64 10]
 let u1 : List AV := [.sl 0 0 1 x5, .int .i64 0]
 za (ltI 200 (x0 : Int))
 (K (.tup [.vec8 true [], .int .i64 1]) [])
 (za (cond false true (ltI 800 x2))
 (K (.tup [.vec8 true [], .int .i64 1]) [])
 (za (ltI x2 0)
 (K (.tup [.vec8 true [], .int .i64 4]) [])
 (cnd (x3)
 (cnd ((leB x0 1000000) && (leB x5 1000000))
 (cnd (true && (z1d (Option.some x2) Option.none x1))
 (za (ltI 0 x8)
 (cnd ((inB 0 x7) && true)
 (cnd (x9)
 (za (ltI 1 x8)
 (cnd ((inB 1 x7) && true)
 (cnd (x9)
 (za (ltI 2 x8)
 (cnd ((inB 2 x7) && true)
 (cnd (x9)
 (za (ltI 3 x8)
 (cnd ((inB 3 x7) && true)
 (cnd (x9)
 (za (ltI 4 x8)
 (cnd ((inB 4 x7) && true)
 (cnd (x9)
 (za (ltI 5 x8)
 (cnd ((inB 5 x7) && true)
 (cnd (x9)
 (za (ltI 6 x8)
 (cnd ((inB 6 x7) && true)
 (cnd (x9)
 (za (ltI 7 x8)
 (cnd ((inB 7 x7) && true)
 (cnd (x9)
 (za (ltI 8 x8)
 (cnd ((inB 8 x7) && true)
 (cnd (x9)
 (za (ltI 9 x8)
 (cnd ((inB 9 x7) && true)
 (cnd (x9)
 (za (ltI 10 x8)
 (cnd ((inB 10 x7) && true)
 (cnd (x9)
 (za (ltI 11 x8)
 (cnd ((inB 11 x7) && true)
 (cnd (x9)
 (za (ltI 12 x8)
 (cnd ((inB 12 x7) && true)
 (cnd (x9)
 (za (ltI 13 x8)
 (cnd ((inB 13 x7) && true)
 (cnd (x9)
 (za (ltI 14 x8)
 (cnd ((inB 14 x7) && true)
 (cnd (x9)
 (za (ltI 15 x8)
 (cnd ((inB 15 x7) && true)
 (cnd (x9)
 (za (ltI 16 x8)
 (cnd ((inB 16 x7) && true)
 (cnd (x9)
 (zo7)))
 (za ((((UInt8.toNat (x25 ||| ((List.getD x6 15 0) ^^^ (List.getD x10 15 0)))) : Nat) : Int) != 0)
 (K (.tup u0) [])
 (cnd (x3)
 (cnd ((Bool.not (ltB 1600 x5)) && (Bool.not (z3i 1 x5)))
 (K (.tup u1) [Ent.grow8 (Cha.streamS k 1 n x4) []])))))))
 (za ((((UInt8.toNat x25) : Nat) : Int) != 0)
 (K (.tup u0) [])
 (cnd (x3)
 (cnd ((Bool.not (ltB 1600 x5)) && (Bool.not (z3i 1 x5)))
 (K (.tup u1) [Ent.grow8 (Cha.streamS k 1 n x4) []])))))))
 (za ((((UInt8.toNat x24) : Nat) : Int) != 0)
 (K (.tup u0) [])
 (cnd (x3)
 (cnd ((Bool.not (ltB 1600 x5)) && (Bool.not (z3i 1 x5)))
 (K (.tup u1) [Ent.grow8 (Cha.streamS k 1 n x4) []])))))))
 (za ((((UInt8.toNat x23) : Nat) : Int) != 0)
 (K (.tup u0) [])
 (cnd (x3)
 (cnd ((Bool.not (ltB 1600 x5)) && (Bool.not (z3i 1 x5)))
 (K (.tup u1) [Ent.grow8 (Cha.streamS k 1 n x4) []])))))))
 (za ((((UInt8.toNat x22) : Nat) : Int) != 0)
 (K (.tup u0) [])
 (cnd (x3)
 (cnd ((Bool.not (ltB 1600 x5)) && (Bool.not (z3i 1 x5)))
 (K (.tup u1) [Ent.grow8 (Cha.streamS k 1 n x4) []])))))))
 (za ((((UInt8.toNat x21) : Nat) : Int) != 0)
 (K (.tup u0) [])
 (cnd (x3)
 (cnd ((Bool.not (ltB 1600 x5)) && (Bool.not (z3i 1 x5)))
 (K (.tup u1) [Ent.grow8 (Cha.streamS k 1 n x4) []])))))))
 (za ((((UInt8.toNat x20) : Nat) : Int) != 0)
 (K (.tup u0) [])
 (cnd (x3)
 (cnd ((Bool.not (ltB 1600 x5)) && (Bool.not (z3i 1 x5)))
 (K (.tup u1) [Ent.grow8 (Cha.streamS k 1 n x4) []])))))))
 (za ((((UInt8.toNat x19) : Nat) : Int) != 0)
 (K (.tup u0) [])
 (cnd (x3)
 (cnd ((Bool.not (ltB 1600 x5)) && (Bool.not (z3i 1 x5)))
 (K (.tup u1) [Ent.grow8 (Cha.streamS k 1 n x4) []])))))))
 (za ((((UInt8.toNat x18) : Nat) : Int) != 0)
 (K (.tup u0) [])
 (cnd (x3)
 (cnd ((Bool.not (ltB 1600 x5)) && (Bool.not (z3i 1 x5)))
 (K (.tup u1) [Ent.grow8 (Cha.streamS k 1 n x4) []])))))))
 (za ((((UInt8.toNat x17) : Nat) : Int) != 0)
 (K (.tup u0) [])
 (cnd (x3)
 (cnd ((Bool.not (ltB 1600 x5)) && (Bool.not (z3i 1 x5)))
 (K (.tup u1) [Ent.grow8 (Cha.streamS k 1 n x4) []])))))))
 (za ((((UInt8.toNat x16) : Nat) : Int) != 0)
 (K (.tup u0) [])
 (cnd (x3)
 (cnd ((Bool.not (ltB 1600 x5)) && (Bool.not (z3i 1 x5)))
 (K (.tup u1) [Ent.grow8 (Cha.streamS k 1 n x4) []])))))))
 (za ((((UInt8.toNat x15) : Nat) : Int) != 0)
 (K (.tup u0) [])
 (cnd (x3)
 (cnd ((Bool.not (ltB 1600 x5)) && (Bool.not (z3i 1 x5)))
 (K (.tup u1) [Ent.grow8 (Cha.streamS k 1 n x4) []])))))))
 (za ((((UInt8.toNat x14) : Nat) : Int) != 0)
 (K (.tup u0) [])
 (cnd (x3)
 (cnd ((Bool.not (ltB 1600 x5)) && (Bool.not (z3i 1 x5)))
 (K (.tup u1) [Ent.grow8 (Cha.streamS k 1 n x4) []])))))))
 (za ((((UInt8.toNat x13) : Nat) : Int) != 0)
 (K (.tup u0) [])
 (cnd (x3)
 (cnd ((Bool.not (ltB 1600 x5)) && (Bool.not (z3i 1 x5)))
 (K (.tup u1) [Ent.grow8 (Cha.streamS k 1 n x4) []])))))))
 (za ((((UInt8.toNat x12) : Nat) : Int) != 0)
 (K (.tup u0) [])
 (cnd (x3)
 (cnd ((Bool.not (ltB 1600 x5)) && (Bool.not (z3i 1 x5)))
 (K (.tup u1) [Ent.grow8 (Cha.streamS k 1 n x4) []])))))))
 (za ((((UInt8.toNat x11) : Nat) : Int) != 0)
 (K (.tup u0) [])
 (cnd (x3)
 (cnd ((Bool.not (ltB 1600 x5)) && (Bool.not (z3i 1 x5)))
 (K (.tup u1) [Ent.grow8 (Cha.streamS k 1 n x4) []])))))))
 (cnd (x3)
 (cnd ((Bool.not (ltB 1600 x5)) && (Bool.not (z3i 1 x5)))
 (K (.tup u1) [Ent.grow8 (Cha.streamS k 1 n x4) []])))))))))) := by kernel_rfl
theorem zvz {n : Nat} (hn : n ≤ 1600) : z3i 1 n = false := by
 rw [zwl]; unfold zo4
 rw [show (1 : UInt32).toNat = 1 from rfl]
 exact z3m (by omega)
theorem zwz (a : Nat) (p : List UInt64) : (zib a p).length = 16 := by
 rw [zyk]; rfl
theorem zdc (k n a b : List UInt8) : (zay k n a b).length = 16 := by
 rw [zvw]; unfold zjo
 rw [zze]; unfold tagF
 exact zwz _ _
def zhk (k n a b : List UInt8) : List UInt8 := streamS k 1 n b ++ zay k n a (streamS k 1 n b)
def z6y : List UInt8 → List UInt8 → List UInt8 → List UInt8 → List UInt8 := (zf zhk).val
theorem zgm (k n a b : List UInt8) : z6y k n a b = zhk k n a b := by rw [z6y, (zf zhk).property]
theorem z7o (k n a b : List UInt8) : (z6y k n a b).length = b.length + 16 := by
 rw [zgm]; unfold zhk
 rw [List.length_append, z52, zdc]
def znb (e : Int) : Out := .ret (.tup [.vec8 true [], .int .i64 e]) []
def z132 (k n a b : List UInt8) : Out := .alt (ltB 200 a.length || ltB 800 b.length) (znb 1) (.ret (.tup [.sl 0 0 1 (b.length + 16), .int .i64 0]) [.grow8 (z6y k n a b) []])
theorem z11o (k n a b : List UInt8) (fa fb : Bool) : HCall Tryz.E 109 [.b8 32 k, .b8 12 n, .vec8 fa a, .vec8 fb b] (z132 k n a b) := by
 refine HCall.z1lg (R := RS) (T := S2) (fun _ _ => .unroll 17) 5 rfl rfl ?_
 rw [zxa];dsimp only;unfold z132;rw [show ltI 200 ((a.length : Nat) : Int) = ltB 200 a.length from rfl, show ltI 800 ((b.length : Nat) : Int) = ltB 800 b.length from rfl]
 cases h1 : ltB 200 a.length with
 | true => exact ⟨rfl, rfl⟩
 | false =>
  cases h2 : ltB 800 b.length with
  | true => exact ⟨rfl, rfl⟩
  | false =>
   have h1 := z3h h1;have h2 := z3h h2;have hs := z52 k 1 n b;rw [zbl (l := streamS k 1 n b) hs.symm, zgm, zdc];unfold zhk;rw [z3m (by omega), zvz (by omega), hs]
   simp only [zf6, zf3, zd, Bool.and_eq_true, zh, z1z, beq_iff_eq, cond_false]
   repeat' apply And.intro
   all_goals first | rfl | trivial | omega
def zvv (k n a b : List UInt8) : Bool := !(b.drop (b.length - 16) == zay k n a (b.take (b.length - 16)))
def zbm : List UInt8 → List UInt8 → List UInt8 → List UInt8 → Bool := (zf zvv).val
theorem zyo (k n a b : List UInt8) : zbm k n a b = zvv k n a b := by rw [zbm, (zf zvv).property]
def zf5 (k n b : List UInt8) : List UInt8 := streamS k 1 n (b.take (b.length - 16))
def z8f : List UInt8 → List UInt8 → List UInt8 → List UInt8 := (zf zf5).val
theorem zit (k n b : List UInt8) : z8f k n b = zf5 k n b := by rw [z8f, (zf zf5).property]
theorem zhp (k n b : List UInt8) : (z8f k n b).length = b.length - 16 := by
 rw [zit]; unfold zf5
 rw [z52, List.length_take]; omega
theorem or_zero {a b : UInt8} : a ||| b = 0 ↔ a = 0 ∧ b = 0 := by
 constructor
 ·intro h;have h2 : a.toNat ||| b.toNat = 0 := by rw [← UInt8.toNat_or, h]; rfl
  rw [Nat.or_eq_zero_iff] at h2;exact ⟨UInt8.toNat_inj.1 h2.1, UInt8.toNat_inj.1 h2.2⟩
 ·rintro ⟨rfl, rfl⟩; rfl
theorem xor_zero {a b : UInt8} : a ^^^ b = 0 ↔ a = b := by
 constructor
 ·intro h;have : a ^^^ b ^^^ b = 0 ^^^ b := by rw [h]
  rwa [UInt8.xor_assoc, UInt8.xor_self, UInt8.xor_zero, UInt8.zero_xor] at this
 ·rintro rfl; exact UInt8.xor_self
theorem z1bu (x : UInt8) : (((x.toNat : Nat) : Int) != 0) = !(x == 0) := by
 cases h : x == 0
 ·have : x ≠ 0 := beq_eq_false_iff_ne.1 h;have : x.toNat ≠ 0 := fun h => this (UInt8.toNat_inj.1 h)
  simp; omega
 ·rw [beq_iff_eq] at h; subst h; rfl
theorem z1dw : ∀ {c t : List UInt8}, c.length = 16 → t.length = 16 →
  ((((((((((((((((((0 : UInt8) ||| (c.getD 0 0 ^^^ t.getD 0 0)) ||| (c.getD 1 0 ^^^ t.getD 1 0)) ||| (c.getD 2 0 ^^^ t.getD 2 0)) ||| (c.getD 3 0 ^^^ t.getD 3 0)) ||| (c.getD 4 0 ^^^ t.getD 4 0)) ||| (c.getD 5 0 ^^^ t.getD 5 0)) ||| (c.getD 6 0 ^^^ t.getD 6 0)) ||| (c.getD 7 0 ^^^ t.getD 7 0)) ||| (c.getD 8 0 ^^^ t.getD 8 0)) ||| (c.getD 9 0 ^^^ t.getD 9 0)) ||| (c.getD 10 0 ^^^ t.getD 10 0)) ||| (c.getD 11 0 ^^^ t.getD 11 0)) ||| (c.getD 12 0 ^^^ t.getD 12 0)) ||| (c.getD 13 0 ^^^ t.getD 13 0)) ||| (c.getD 14 0 ^^^ t.getD 14 0)) ||| (c.getD 15 0 ^^^ t.getD 15 0)) == 0) = (c == t)
 | [c0, c1, c2, c3, c4, c5, c6, c7, c8, c9, c10, c11, c12, c13, c14, c15], [t0, t1, t2, t3, t4, t5, t6, t7, t8, t9, t10, t11, t12, t13, t14, t15], _, _ => by
  rw [Bool.eq_iff_iff, beq_iff_eq, beq_iff_eq];simp only [List.getD_cons_zero, List.getD_cons_succ, or_zero, xor_zero, List.cons.injEq, and_true, true_and, and_assoc]
def z10q (k n a b : List UInt8) : Out := .alt (ltB 200 a.length || ltB 816 b.length) (znb 1) (.alt (ltB b.length 16) (znb 4) (.alt (zbm k n a b) (znb 10) (.ret (.tup [.sl 0 0 1 (b.length - 16), .int .i64 0]) [.grow8 (z8f k n b) []])))
theorem z12m (k n a b : List UInt8) (fa fb : Bool) (hb : b.length ≤ 1000000000) : HCall Tryz.E 110 [.b8 32 k, .b8 12 n, .vec8 fa a, .vec8 fb b] (z10q k n a b) := by
 refine HCall.z1lg (R := RS) (T := S2) (fun _ _ => .unroll 17) 5 rfl rfl ?_
 rw [zxx];dsimp only;unfold z10q;have e2 : wr .i64 (z6r (b.length : Int) 16) = (b.length : Int) - 16 := by rw [z4p, z2f (by omega) (by omega)]
 rw [e2, show ltI 200 ((a.length : Nat) : Int) = ltB 200 a.length from rfl]
 cases h1 : ltB 200 a.length with
 | true => exact ⟨rfl, rfl⟩
 | false =>
  have h1 := z3h h1;cases h2 : ltB 816 b.length with
  | true =>
   have := z1z.1 h2;rw [z5g (x := 800) (by omega)]
   exact ⟨rfl, rfl⟩
  | false =>
   have h2 := z3h h2;rw [z4l (x := 800) (by omega)]
   cases h3 : ltB b.length 16 with
   | true =>
    have := z1z.1 h3;rw [z5g (x := (b.length : Int) - 16) (by omega)]
    exact ⟨rfl, rfl⟩
   | false =>
    have h3 := z3h h3;obtain ⟨m, hm⟩ : ∃ m : Nat, b.length = m + 16 := ⟨b.length - 16, by omega⟩
    have e3 : (b.length : Int) - 16 = (m : Int) := by omega
    rw [e3, z4l (x := (m : Int)) (by omega)]
    have e4 : zx none (some ((m : Nat) : Int)) b = b.take m := by
     show b.take (Int.toNat _) = _;rw [Int.toNat_natCast]
    have e5 : zx (some ((m : Nat) : Int)) none b = b.drop m := by
     show b.drop (Int.toNat _) = _;rw [Int.toNat_natCast]
    have e6 : z1d none (some ((m : Nat) : Int)) b.length = true := by
     show (nnB _ && leB (Int.toNat _) _) = true;rw [z3e.2 (by omega), Int.toNat_natCast, zp (by omega)]; rfl
    have e7 : z1d (some ((m : Nat) : Int)) none b.length = true := by
     show (nnB _ && leB (Int.toNat _) _) = true;rw [z3e.2 (by omega), Int.toNat_natCast, zp (by omega)]; rfl
    have hl : (b.drop m).length = 16 := by rw [List.length_drop]; omega
    have ht : (b.take m).length = m := by rw [List.length_take]; omega
    rw [e4, e5, e6, e7, hl, ht, zp (a := a.length) (by omega), zp (a := m) (by omega), zyo, zit]
    unfold zvv zf5;rw [show b.length - 16 = m by omega]
    have ho := z1dw hl (zdc k n a (b.take m));show za (((UInt8.toNat _ : Nat) : Int) != 0) _ _;rw [z1bu, ho];cases hq : (List.drop m b == zay k n a (List.take m b)) with
    | false => exact ⟨rfl, rfl⟩
    | true =>
     rw [z3m (by omega), zvz (by omega)]
     exact ⟨rfl, rfl⟩
theorem zx2 (k n a b : List UInt8) (fa fb : Bool) (h1 : ltB 200 a.length = false) (h2 : ltB 800 b.length = false) : HCall Tryz.E 109 [.b8 32 k, .b8 12 n, .vec8 fa a, .vec8 fb b] (.ret (.tup [.sl 0 0 1 (b.length + 16), .int .i64 0]) [.grow8 (z6y k n a b) []]) := by
 have h := z11o k n a b fa fb;unfold z132 at h;rw [h1, h2] at h;obtain ⟨x, _, z⟩ := h;exact ⟨x, rfl, z⟩
def S3 : Ctr Tryz.E := (S2.add 109 (fun
  | [.b8 32 k, .b8 12 n, .vec8 _ a, .vec8 _ b] => some (!(ltB 200 a.length) && !(ltB 800 b.length), .ret (.tup [.sl 0 0 1 (b.length + 16), .int .i64 0]) [.grow8 (z6y k n a b) []])
  | _ => none) (by
   intro args pre out h hp
   split at h
   ·obtain ⟨rfl, rfl⟩ := spE h;simp only [Bool.and_eq_true, Bool.not_eq_true'] at hp;exact zx2 _ _ _ _ _ _ hp.1 hp.2
   ·simp at h)).add 110 (fun
  | [.b8 32 k, .b8 12 n, .vec8 _ a, .vec8 _ b] => some (leB b.length 1000000000, z10q k n a b)
  | _ => none) (by
   intro args pre out h hp
   split at h
   ·obtain ⟨rfl, rfl⟩ := spE h;exact z12m _ _ _ _ _ _ (zh.1 hp)
   ·simp at h)
theorem z162 (n : UInt64) (K : AV → Heap → Prop) : walk Tryz.E RS S3.C (fun _ _ => .unroll 17) 5 125 [.u64 n] K = (
 K (.b8 12 (List.set (List.set (List.set (List.set (List.set (List.set (List.set (List.set [0, 0, 0, 0, 0, 0, 0, 0, 0, 0, 0, 0] 4 (UInt64.toUInt8 (ze n 0))) 5 (UInt64.toUInt8 (ze n 8))) 6 (UInt64.toUInt8 (ze n 16))) 7 (UInt64.toUInt8 (ze n 24))) 8 (UInt64.toUInt8 (ze n 32))) 9 (UInt64.toUInt8 (ze n 40))) 10 (UInt64.toUInt8 (ze n 48))) 11 (UInt64.toUInt8 (ze n 56)))) []) := by kernel_rfl
theorem z144 (k : List UInt8) (K : AV → Heap → Prop) : walk Tryz.E RS S3.C (fun _ _ => .unroll 17) 5 42 [.b8 32 k] K = (
 K (.agg [.bool true, .b8 32 k, .u64 0]) []) := by kernel_rfl
theorem zqe (b : Bool) (k : List UInt8) (n : UInt64) (K : AV → Heap → Prop) : walk Tryz.E RS S3.C (fun _ _ => .unroll 17) 5 124 [.agg [.bool b, .b8 32 k, .u64 n]] K = (
 za (Bool.not b)
 (za (cond true (Bool.not ((b == false) && ((k == [0, 0, 0, 0, 0, 0, 0, 0, 0, 0, 0, 0, 0, 0, 0, 0, 0, 0, 0, 0, 0, 0, 0, 0, 0, 0, 0, 0, 0, 0, 0, 0]) && ((n == 0) && true)))) false)
 (K (.int .i64 9) [])
 (K (.int .i64 0) []))
 (K (.int .i64 0) [])) := by kernel_rfl
def zoy (n : UInt64) : List UInt8 := List.set (List.set (List.set (List.set (List.set (List.set (List.set (List.set [0, 0, 0, 0, 0, 0, 0, 0, 0, 0, 0, 0] 4 (UInt64.toUInt8 (ze n 0))) 5 (UInt64.toUInt8 (ze n 8))) 6 (UInt64.toUInt8 (ze n 16))) 7 (UInt64.toUInt8 (ze n 24))) 8 (UInt64.toUInt8 (ze n 32))) 9 (UInt64.toUInt8 (ze n 40))) 10 (UInt64.toUInt8 (ze n 48))) 11 (UInt64.toUInt8 (ze n 56))
def z2g : UInt64 → List UInt8 := (zf zoy).val
theorem z109 (n : UInt64) : z2g n = zoy n := by rw [z2g, (zf zoy).property]
theorem z1a2 (n : UInt64) : HCall Tryz.E 125 [.u64 n] (.ret (.b8 12 (z2g n)) []) := by
 refine HCall.z1lg (R := RS) (T := S3) (fun _ _ => .unroll 17) 5 rfl rfl ?_
 rw [z162, z109];exact ⟨rfl, rfl⟩
def zi3 : List UInt8 := [0, 0, 0, 0, 0, 0, 0, 0, 0, 0, 0, 0, 0, 0, 0, 0, 0, 0, 0, 0, 0, 0, 0, 0, 0, 0, 0, 0, 0, 0, 0, 0]
theorem z13t (k : List UInt8) (n : UInt64) : HCall Tryz.E 124 [.agg [.bool true, .b8 32 k, .u64 n]] (.ret (.int .i64 0) []) := by
 refine HCall.z1lg (R := RS) (T := S3) (fun _ _ => .unroll 17) 5 rfl rfl ?_
 rw [zqe];exact ⟨rfl, rfl⟩
def z1au (k : List UInt8) (n : UInt64) : Bool := k == zi3 && n == 0
def z8m : List UInt8 → UInt64 → Bool := (zf z1au).val
theorem zy5 (k : List UInt8) (n : UInt64) : z8m k n = (k == zi3 && n == 0) := by rw [z8m, (zf z1au).property]; rfl
theorem z14g (k : List UInt8) (n : UInt64) : HCall Tryz.E 124 [.agg [.bool false, .b8 32 k, .u64 n]] (.alt (z8m k n) (.ret (.int .i64 0) []) (.ret (.int .i64 9) [])) := by
 refine HCall.z1lg (R := RS) (T := S3) (fun _ _ => .unroll 17) 5 rfl rfl ?_
 rw [zqe, zy5];have e : ((false == false) && ((k == [0, 0, 0, 0, 0, 0, 0, 0, 0, 0, 0, 0, 0, 0, 0, 0, 0, 0, 0, 0, 0, 0, 0, 0, 0, 0, 0, 0, 0, 0, 0, 0]) && ((n == 0) && true))) = (k == zi3 && n == 0) := by
  rw [Bool.and_true]; rfl
 rw [e];cases k == zi3 && n == 0 with
 | true => exact ⟨rfl, rfl⟩
 | false => exact ⟨rfl, rfl⟩
theorem z18m (k : List UInt8) : HCall Tryz.E 42 [.b8 32 k] (.ret (.agg [.bool true, .b8 32 k, .u64 0]) []) := by
 refine HCall.z1lg (R := RS) (T := S3) (fun _ _ => .unroll 17) 5 rfl rfl ?_
 rw [z144];exact ⟨rfl, rfl⟩
def C1 : Ctr Tryz.E := ((S3.add 125 (fun
  | [.u64 n] => some (true, .ret (.b8 12 (z2g n)) [])
  | _ => none) (by
   intro args pre out h hp
   split at h
   ·obtain ⟨rfl, rfl⟩ := spE h;exact z1a2 _
   ·simp at h)).add 42 (fun
  | [.b8 32 k] => some (true, .ret (.agg [.bool true, .b8 32 k, .u64 0]) [])
  | _ => none) (by
   intro args pre out h hp
   split at h
   ·obtain ⟨rfl, rfl⟩ := spE h;exact z18m _
   ·simp at h)).add 124 (fun
  | [.agg [.bool true, .b8 32 _, .u64 _]] => some (true, .ret (.int .i64 0) [])
  | [.agg [.bool false, .b8 32 k, .u64 n]] => some (true, .alt (z8m k n) (.ret (.int .i64 0) []) (.ret (.int .i64 9) []))
  | _ => none) (by
   intro args pre out h hp
   split at h
   ·obtain ⟨rfl, rfl⟩ := spE h;exact z13t _ _
   ·obtain ⟨rfl, rfl⟩ := spE h;exact z14g _ _
   ·simp at h)
theorem z145 (k ad b : List UInt8) (n : UInt64) (fa fb : Bool) (K : AV → Heap → Prop) : walk Tryz.E RS C1.C (fun _ _ => .unroll 17) 5 83 [.agg [.bool true, .b8 32 k, .u64 n], .vec8 fa ad, .vec8 fb b] K = (
 let x0 : Nat := b.length
 za ((((UInt64.toNat n) : Nat) : Int) == 18446744073709551615)
 (K (.tup [.agg [.bool false, .b8 32 [0, 0, 0, 0, 0, 0, 0, 0, 0, 0, 0, 0, 0, 0, 0, 0, 0, 0, 0, 0, 0, 0, 0, 0, 0, 0, 0, 0, 0, 0, 0, 0], .u64 0], .vec8 true [], .int .i64 11]) [])
 (cnd ((Bool.not (ltB 200 ad.length)) && (Bool.not (ltB 800 x0)))
 (K (.tup [.agg [.bool true, .b8 32 k, .u64 (n + 1)], .sl 0 0 1 (x0 + 16), .int .i64 0]) [Ent.grow8 (z6y k (z2g n) ad b) []]))) := by kernel_rfl
theorem z16h (k ad b : List UInt8) (n : UInt64) (fa fb : Bool) (K : AV → Heap → Prop) : walk Tryz.E RS C1.C (fun _ _ => .unroll 17) 5 83 [.agg [.bool false, .b8 32 k, .u64 n], .vec8 fa ad, .vec8 fb b] K = (
 let x0 : Nat := b.length
 let u0 : List AV := [.bool false, .b8 32 [0, 0, 0, 0, 0, 0, 0, 0, 0, 0, 0, 0, 0, 0, 0, 0, 0, 0, 0, 0, 0, 0, 0, 0, 0, 0, 0, 0, 0, 0, 0, 0], .u64 0]
 za (z8m k n)
 (za (ltI 800 (x0 : Int))
 (K (.tup [.agg u0, .vec8 true [], .int .i64 1]) [])
 (cnd (leB (x0 * 1) 140737488355328)
 (K (.tup [.agg [.bool false, .b8 32 k, .u64 n], .sl 0 0 1 x0, .int .i64 0]) [Ent.grow8 b []])))
 (K (.tup [.agg u0, .vec8 true [], .int .i64 9]) [])) := by kernel_rfl
theorem z15o (k ad b : List UInt8) (n : UInt64) (fa fb : Bool) (K : AV → Heap → Prop) : walk Tryz.E RS C1.C (fun _ _ => .unroll 17) 5 84 [.agg [.bool true, .b8 32 k, .u64 n], .vec8 fa ad, .vec8 fb b] K = (
 let x0 : Nat := b.length
 let u0 : List AV := [.bool false, .b8 32 [0, 0, 0, 0, 0, 0, 0, 0, 0, 0, 0, 0, 0, 0, 0, 0, 0, 0, 0, 0, 0, 0, 0, 0, 0, 0, 0, 0, 0, 0, 0, 0], .u64 0]
 za ((((UInt64.toNat n) : Nat) : Int) == 18446744073709551615)
 (K (.tup [.agg u0, .vec8 true [], .int .i64 11]) [])
 (cnd (leB x0 1000000000)
 (za ((ltB 200 ad.length) || (ltB 816 x0))
 (K (.tup [.agg u0, .vec8 true [], .int .i64 1]) [])
 (za (ltB x0 16)
 (K (.tup [.agg u0, .vec8 true [], .int .i64 4]) [])
 (za (zbm k (z2g n) ad b)
 (K (.tup [.agg u0, .vec8 true [], .int .i64 10]) [])
 (K (.tup [.agg [.bool true, .b8 32 k, .u64 (n + 1)], .sl 0 0 1 (x0 - 16), .int .i64 0]) [Ent.grow8 (z8f k (z2g n) b) []])))))) := by kernel_rfl
theorem z14v (k ad b : List UInt8) (n : UInt64) (fa fb : Bool) (K : AV → Heap → Prop) : walk Tryz.E RS C1.C (fun _ _ => .unroll 17) 5 84 [.agg [.bool false, .b8 32 k, .u64 n], .vec8 fa ad, .vec8 fb b] K = (
 let x0 : Nat := b.length
 let u0 : List AV := [.bool false, .b8 32 [0, 0, 0, 0, 0, 0, 0, 0, 0, 0, 0, 0, 0, 0, 0, 0, 0, 0, 0, 0, 0, 0, 0, 0, 0, 0, 0, 0, 0, 0, 0, 0], .u64 0]
 za (z8m k n)
 (za (ltI 800 (x0 : Int))
 (K (.tup [.agg u0, .vec8 true [], .int .i64 1]) [])
 (cnd (leB (x0 * 1) 140737488355328)
 (K (.tup [.agg [.bool false, .b8 32 k, .u64 n], .sl 0 0 1 x0, .int .i64 0]) [Ent.grow8 b []])))
 (K (.tup [.agg u0, .vec8 true [], .int .i64 9]) [])) := by kernel_rfl
def z9d (n : UInt64) : Bool := (((UInt64.toNat n) : Nat) : Int) == 18446744073709551615
def z1jq : AV := .agg [.bool false, .b8 32 zi3, .u64 0]
def zmd (e : Int) : Out := .ret (.tup [z1jq, .vec8 true [], .int .i64 e]) []
def zux (k ad b : List UInt8) (n : UInt64) : Out := .alt (z9d n) (zmd 11) (.ret (.tup [.agg [.bool true, .b8 32 k, .u64 (n + 1)], .sl 0 0 1 (b.length + 16), .int .i64 0]) [.grow8 (z6y k (z2g n) ad b) []])
def ztx (k b : List UInt8) (n : UInt64) : Out := .alt (z8m k n) (.ret (.tup [.agg [.bool false, .b8 32 k, .u64 n], .sl 0 0 1 b.length, .int .i64 0]) [.grow8 b []]) (zmd 9)
def zv0 (k ad b : List UInt8) (n : UInt64) : Out := .alt (z9d n) (zmd 11) (.alt (ltB 200 ad.length || ltB 816 b.length) (zmd 1) (.alt (ltB b.length 16) (zmd 4) (.alt (zbm k (z2g n) ad b) (zmd 10)
 (.ret (.tup [.agg [.bool true, .b8 32 k, .u64 (n + 1)], .sl 0 0 1 (b.length - 16), .int .i64 0]) [.grow8 (z8f k (z2g n) b) []]))))
theorem z189 (k ad b : List UInt8) (n : UInt64) (fa fb : Bool) (h1 : ltB 200 ad.length = false) (h2 : ltB 800 b.length = false) : HCall Tryz.E 83 [.agg [.bool true, .b8 32 k, .u64 n], .vec8 fa ad, .vec8 fb b] (zux k ad b n) := by
 refine HCall.z1lg (R := RS) (T := C1) (fun _ _ => .unroll 17) 5 rfl rfl ?_
 rw [z145];dsimp only;rw [h1, h2];unfold zux;show za (z9d n) _ _;cases z9d n with
 | true => exact ⟨rfl, rfl⟩
 | false => exact ⟨rfl, rfl⟩
theorem z19d (k ad b : List UInt8) (n : UInt64) (fa fb : Bool) (h2 : ltB 800 b.length = false) : HCall Tryz.E 83 [.agg [.bool false, .b8 32 k, .u64 n], .vec8 fa ad, .vec8 fb b] (ztx k b n) := by
 refine HCall.z1lg (R := RS) (T := C1) (fun _ _ => .unroll 17) 5 rfl rfl ?_
 rw [z16h];dsimp only;unfold ztx;have := z3h h2;rw [show ltI 800 ((b.length : Nat) : Int) = ltB 800 b.length from rfl, h2, zp (by omega)]
 cases z8m k n with
 | true => exact ⟨rfl, rfl⟩
 | false => exact ⟨rfl, rfl⟩
theorem z19m (k ad b : List UInt8) (n : UInt64) (fa fb : Bool) (h : b.length ≤ 1000000000) : HCall Tryz.E 84 [.agg [.bool true, .b8 32 k, .u64 n], .vec8 fa ad, .vec8 fb b] (zv0 k ad b n) := by
 refine HCall.z1lg (R := RS) (T := C1) (fun _ _ => .unroll 17) 5 rfl rfl ?_
 rw [z15o];dsimp only;rw [zp h];unfold zv0;show za (z9d n) _ _;cases z9d n with
 | true => exact ⟨rfl, rfl⟩
 | false =>
  show za _ _ _;cases (ltB 200 ad.length || ltB 816 b.length) with
  | true => exact ⟨rfl, rfl⟩
  | false =>
   show za _ _ _;cases ltB b.length 16 with
   | true => exact ⟨rfl, rfl⟩
   | false =>
    show za _ _ _;cases zbm k (z2g n) ad b with
    | true => exact ⟨rfl, rfl⟩
    | false => exact ⟨rfl, rfl⟩
def zvh (k b : List UInt8) (n : UInt64) : Out := .alt (z8m k n) (.ret (.tup [.agg [.bool false, .b8 32 k, .u64 n], .sl 0 0 1 b.length, .int .i64 0]) [.grow8 b []]) (zmd 9)
theorem z1ad (k ad b : List UInt8) (n : UInt64) (fa fb : Bool) (h2 : ltB 800 b.length = false) : HCall Tryz.E 84 [.agg [.bool false, .b8 32 k, .u64 n], .vec8 fa ad, .vec8 fb b] (zvh k b n) := by
 refine HCall.z1lg (R := RS) (T := C1) (fun _ _ => .unroll 17) 5 rfl rfl ?_
 rw [z14v];dsimp only;unfold zvh;have := z3h h2;rw [show ltI 800 ((b.length : Nat) : Int) = ltB 800 b.length from rfl, h2, zp (by omega)]
 cases z8m k n with
 | true => exact ⟨rfl, rfl⟩
 | false => exact ⟨rfl, rfl⟩
def C2o : Ctr Tryz.E := (C1.add 83 (fun
  | [.agg [.bool h, .b8 32 k, .u64 n], .vec8 _ ad, .vec8 _ b] => some (!(ltB 200 ad.length) && !(ltB 800 b.length), .alt h (zux k ad b n) (ztx k b n))
  | _ => none) (by
   intro args pre out h hp
   split at h
   ·rename_i b k n fa ad fb text;obtain ⟨rfl, rfl⟩ := spE h;simp only [Bool.and_eq_true, Bool.not_eq_true'] at hp;cases b with
    | true => exact HCall.z1lz rfl rfl (z189 _ _ _ _ _ _ hp.1 hp.2)
    | false => exact HCall.z1m0 rfl rfl (z19d _ _ _ _ _ _ hp.2)
   ·simp at h)).add 84 (fun
  | [.agg [.bool h, .b8 32 k, .u64 n], .vec8 _ ad, .vec8 _ b] => some (leB b.length 1000000000 && (h || !(ltB 800 b.length)), .alt h (zv0 k ad b n) (zvh k b n))
  | _ => none) (by
   intro args pre out h hp
   split at h
   ·rename_i b k n fa ad fb text;obtain ⟨rfl, rfl⟩ := spE h;simp only [Bool.and_eq_true] at hp;cases b with
    | true => exact HCall.z1lz rfl rfl (z19m _ _ _ _ _ _ (zh.1 hp.1))
    | false => exact HCall.z1m0 rfl rfl (z1ad _ _ _ _ _ _ (by simpa using hp.2))
   ·simp at h)
end Go.Proofs.YtehaohfglolljaaGreatDoor
namespace Go.Proofs.YtehaohfglolljaaGreatDoor
open Go Go.V Go.Cha Go.Bla
def orC (T T' : Ctr Tryz.E) : Ctr Tryz.E := ⟨fun f args => match T.C f args with
  | some r => some r
  | none => T'.C f args, fun f args pre out h hp => by
  cases h1 : T.C f args with
  | some r => rw [h1] at h; simp only [Option.some.injEq] at h; subst h; exact T.ok f args pre out h1 hp
  | none => rw [h1] at h; exact T'.ok f args pre out h hp⟩
def Y1 : Ctr Tryz.E := orC K4 C2o
end Go.Proofs.YtehaohfglolljaaGreatDoor
namespace Go.Proofs.YtehaohfglolljaaGreatDoor
open Go Go.V Go.Fld Go.Pol Go.Cha Go.Bla
set_option maxHeartbeats 0
set_option maxRecDepth 100000
theorem z1d2 (chain hash ck b : List UInt8) (has fb : Bool) (n : UInt64) (K : AV → Heap → Prop) : walk Tryz.E RQ Y1.C (fun f l => .unroll 5) 5 21 [.agg [.bool has, .b8 32 ck, .u64 n, .b8 32 chain, .b8 32 hash], .vec8 fb b] K = (
 cnd ((leB chain.length 64) && (leB b.length 100000))
 (K (.agg [.agg [.bool true, .b8 32 (z29 chain b), .u64 0], .b8 32 (z28 chain b), .b8 32 hash]) [])) := by kernel_rfl
theorem z184 (chain hash ck b : List UInt8) (has fb : Bool) (n : UInt64) (K : AV → Heap → Prop) : walk Tryz.E RQ Y1.C (fun f l => .unroll 5) 5 18 [.agg [.bool has, .b8 32 ck, .u64 n, .b8 32 chain, .b8 32 hash], .vec8 fb b] K = (
 let x0 : Nat := hash.length
 let x1 : Nat := 140737488355328
 let x2 : Nat := (x0 + b.length)
 let x3 : List UInt8 := (List.take x2 (List.drop 0 (hash ++ b)))
 cnd (leB (x0 * 1) x1)
 (cnd (x0 == x0)
 (cnd (leB (x2 * 1) x1)
 (cnd ((true && (leB (0 + x2) (hash ++ b).length)) && true)
 (cnd (leB x3.length 1073741824)
 (K (.agg [.bool has, .b8 32 ck, .u64 n, .b8 32 chain, .b8 32 (Bla.sumS x3)]) [])))))) := by kernel_rfl
theorem z16j (s : List UInt8) (K : AV → Heap → Prop) : walk Tryz.E RQ Y1.C (fun f l => .unroll 5) 5 19 [.str s] K = (
 let x0 : Nat := s.length
 let x1 : List UInt8 := (List.take x0 (List.drop 0 s))
 let x2 : List UInt8 := [0, 0, 0, 0, 0, 0, 0, 0, 0, 0, 0, 0, 0, 0, 0, 0, 0, 0, 0, 0, 0, 0, 0, 0, 0, 0, 0, 0, 0, 0, 0, 0]
 za (ltI 32 (x0 : Int))
 (cnd ((true && (leB (0 + x0) x0)) && true)
 (cnd (leB x1.length 1073741824)
 (K (.agg [.agg [.bool false, .b8 32 x2, .u64 0], .b8 32 (Bla.sumS x1), .b8 32 (Bla.sumS x1)]) [])))
 (K (.agg [.agg [.bool false, .b8 32 x2, .u64 0], .b8 32 ((List.take 32 s) ++ (List.drop (Min.min x0 32) x2)), .b8 32 ((List.take 32 s) ++ (List.drop (Min.min x0 32) x2))]) [])) := by kernel_rfl
theorem z15d (chain hash ck : List UInt8) (has : Bool) (n : UInt64) (K : AV → Heap → Prop) : walk Tryz.E RQ Y1.C (fun f l => .unroll 5) 5 30 [.agg [.bool has, .b8 32 ck, .u64 n, .b8 32 chain, .b8 32 hash]] K = (
 cnd ((leB chain.length 64) && true)
 (K (.agg [.agg [.bool true, .b8 32 (z28 chain []), .u64 0], .agg [.bool true, .b8 32 (z29 chain []), .u64 0]]) [])) := by kernel_rfl
def z7b (has : Bool) (ck : List UInt8) (n : UInt64) (chain hash : List UInt8) : AV := .agg [.bool has, .b8 32 ck, .u64 n, .b8 32 chain, .b8 32 hash]
theorem zys (chain hash ck b : List UInt8) (has fb : Bool) (n : UInt64) (h : hash.length + b.length ≤ 1000000) :
  HCall Tryz.E 18 [.agg [.bool has, .b8 32 ck, .u64 n, .b8 32 chain, .b8 32 hash], .vec8 fb b] (.ret (z7b has ck n chain (sumS (hash ++ b))) []) := by
 refine HCall.z1lg (R := RQ) (T := Y1) (fun _ _ => .unroll 5) 5 rfl rfl ?_
 rw [z184];dsimp only;rw [zhy _ _ _ (by simp), zp (by omega), zp (by omega), zp (by simp), zp (by simp; omega), beq_self_eq_true]
 exact ⟨rfl, rfl⟩
theorem z1fv (chain hash ck b : List UInt8) (has fb : Bool) (n : UInt64) (h1 : chain.length ≤ 64) (h2 : b.length ≤ 100000) :
  HCall Tryz.E 21 [.agg [.bool has, .b8 32 ck, .u64 n, .b8 32 chain, .b8 32 hash], .vec8 fb b] (.ret (z7b true (z29 chain b) 0 (z28 chain b) hash) []) := by
 refine HCall.weak (a := AV.agg [AV.agg [AV.bool true, AV.b8 32 (z29 chain b), AV.u64 0], AV.b8 32 (z28 chain b), AV.b8 32 hash]) ?_ (z42 _) rfl;refine HCall.z1lg (R := RQ) (T := Y1) (fun _ _ => .unroll 5) 5 rfl rfl ?_
 rw [z1d2, zp h1, zp h2];exact ⟨rfl, rfl⟩
def Y2 : Ctr Tryz.E := (Y1.add 18 (fun
  | [.agg [.bool has, .b8 32 ck, .u64 n, .b8 32 chain, .b8 32 hash], .vec8 _ b] => some (leB (hash.length + b.length) 1000000, .ret (z7b has ck n chain (sumS (hash ++ b))) [])
  | [.agg [.agg [.bool has, .b8 32 ck, .u64 n], .b8 32 chain, .b8 32 hash], .vec8 _ b] => some (leB (hash.length + b.length) 1000000, .ret (z7b has ck n chain (sumS (hash ++ b))) [])
  | _ => none) (by
   intro args pre out h hp
   split at h
   ·obtain ⟨rfl, rfl⟩ := spE h;exact zys _ _ _ _ _ _ _ (zh.1 hp)
   ·obtain ⟨rfl, rfl⟩ := spE h;rename_i has ck n chain hash full b;refine HCall.args (zys chain hash ck b has full n (zh.1 hp)) rfl fun ρ I w vs r => ?_
    obtain ⟨x, xs, rfl, k1, k2⟩ := zr.1 r;exact zr.2 ⟨x, xs, rfl, z42 _ _ _ _ _ k1, k2⟩
   ·simp at h)).add 21 (fun
  | [.agg [.bool has, .b8 32 ck, .u64 n, .b8 32 chain, .b8 32 hash], .vec8 _ b] => some (leB chain.length 64 && leB b.length 100000, .ret (z7b true (z29 chain b) 0 (z28 chain b) hash) [])
  | _ => none) (by
   intro args pre out h hp
   split at h
   ·obtain ⟨rfl, rfl⟩ := spE h;simp only [Bool.and_eq_true] at hp;exact z1fv _ _ _ _ _ _ _ (zh.1 hp.1) (zh.1 hp.2)
   ·simp at h)
theorem z19j (chain hash ck b : List UInt8) (has fb : Bool) (n : UInt64) (K : AV → Heap → Prop) : walk Tryz.E RQ Y2.C (fun f l => .unroll 5) 5 82 [.agg [.bool has, .b8 32 ck, .u64 n, .b8 32 chain, .b8 32 hash], .vec8 fb b] K = (
 let x0 : List UInt8 := (z29 chain b)
 cnd ((leB chain.length 64) && (leB b.length 100000))
 (cnd (leB (hash.length + x0.length) 1000000)
 (K (.agg [.agg [.bool true, .b8 32 (za5 chain b), .u64 0], .b8 32 (z28 chain b), .b8 32 (Bla.sumS (hash ++ x0))]) []))) := by kernel_rfl
theorem zkw (c b : List UInt8) : (z28 c b).length = 32 := z6m _ _
theorem zl8 (c b : List UInt8) : (z29 c b).length = 32 := z6m _ _
theorem zxh (c b : List UInt8) : (za5 c b).length = 32 := z6m _ _
theorem z1bw (chain hash ck b : List UInt8) (has fb : Bool) (n : UInt64) (h1 : chain.length ≤ 64) (h2 : b.length ≤ 100000) (h3 : hash.length ≤ 64) :
  HCall Tryz.E 82 [.agg [.bool has, .b8 32 ck, .u64 n, .b8 32 chain, .b8 32 hash], .vec8 fb b] (.ret (z7b true (za5 chain b) 0 (z28 chain b) (sumS (hash ++ z29 chain b))) []) := by
 refine HCall.weak (a := AV.agg [AV.agg [AV.bool true, AV.b8 32 (za5 chain b), AV.u64 0], AV.b8 32 (z28 chain b), AV.b8 32 (sumS (hash ++ z29 chain b))]) ?_ (z42 _) rfl;refine HCall.z1lg (R := RQ) (T := Y2) (fun _ _ => .unroll 5) 5 rfl rfl ?_
 rw [z19j];dsimp only;rw [zl8, zp h1, zp h2, zp (by omega)]
 exact ⟨rfl, rfl⟩
def Y3 : Ctr Tryz.E := Y2.add 82 (fun
  | [.agg [.bool has, .b8 32 ck, .u64 n, .b8 32 chain, .b8 32 hash], .vec8 _ b] => some (leB chain.length 64 && (leB b.length 100000 && leB hash.length 64), .ret (z7b true (za5 chain b) 0 (z28 chain b) (sumS (hash ++ z29 chain b))) [])
  | _ => none) (by
   intro args pre out h hp
   split at h
   ·obtain ⟨rfl, rfl⟩ := spE h;simp only [Bool.and_eq_true] at hp;exact z1bw _ _ _ _ _ _ _ (zh.1 hp.1) (zh.1 hp.2.1) (zh.1 hp.2.2)
   ·simp at h)
theorem z19c (chain hash ck b : List UInt8) (has fb : Bool) (n : UInt64) (K : AV → Heap → Prop) : walk Tryz.E RQ Y3.C (fun f l => .unroll 5) 5 54 [.agg [.bool has, .b8 32 ck, .u64 n, .b8 32 chain, .b8 32 hash], .vec8 fb b] K = (
 let x0 : Nat := hash.length
 let x1 : Nat := b.length
 let x2 : List UInt8 := (z6y ck (z2g n) hash b)
 let x3 : List UInt8 := (List.take (x1 + 16) (List.drop 0 x2))
 let x4 : List UInt8 := (List.take x1 (List.drop 0 b))
 let u0 : List AV := [.agg [.bool false, .b8 32 [0, 0, 0, 0, 0, 0, 0, 0, 0, 0, 0, 0, 0, 0, 0, 0, 0, 0, 0, 0, 0, 0, 0, 0, 0, 0, 0, 0, 0, 0, 0, 0], .u64 0], .b8 32 [0, 0, 0, 0, 0, 0, 0, 0, 0, 0, 0, 0, 0, 0, 0, 0, 0, 0, 0, 0, 0, 0, 0, 0, 0, 0, 0, 0, 0, 0, 0, 0], .b8 32 [0, 0, 0, 0, 0, 0, 0, 0, 0, 0, 0, 0, 0, 0, 0, 0, 0, 0, 0, 0, 0, 0, 0, 0, 0, 0, 0, 0, 0, 0, 0, 0]]
 cnd ((Bool.not (ltB 200 x0)) && (Bool.not (ltB 800 x1)))
 (za (has)
 (za (z9d n)
 (K (.tup [.agg u0, .vec8 true [], .int .i64 11]) [])
 (cnd (true && ((true && (leB (0 + (x1 + 16)) x2.length)) && true))
 (cnd (leB (x0 + x3.length) 1000000)
 (K (.tup [.agg [.bool true, .b8 32 ck, .u64 (n + 1), .b8 32 chain, .b8 32 (Bla.sumS (hash ++ x3))], .sl 0 0 1 (x1 + 16), .int .i64 0]) [Ent.grow8 x2 []]))))
 (za (z8m ck n)
 (cnd (true && ((true && (leB (0 + x1) x1)) && true))
 (cnd (leB (x0 + x4.length) 1000000)
 (K (.tup [.agg [.bool false, .b8 32 ck, .u64 n, .b8 32 chain, .b8 32 (Bla.sumS (hash ++ x4))], .sl 0 0 1 x1, .int .i64 0]) [Ent.grow8 b []])))
 (K (.tup [.agg u0, .vec8 true [], .int .i64 9]) [])))) := by kernel_rfl
theorem zus (chain hash ck b : List UInt8) (has fb : Bool) (n : UInt64) (K : AV → Heap → Prop) : walk Tryz.E RQ Y3.C (fun f l => .unroll 5) 5 57 [.agg [.bool has, .b8 32 ck, .u64 n, .b8 32 chain, .b8 32 hash], .vec8 fb b] K = (
 let x0 : Nat := b.length
 let x1 : Nat := hash.length
 let x2 : Bool := leB (x1 + x0) 1000000
 let u0 : List AV := [.agg [.bool false, .b8 32 [0, 0, 0, 0, 0, 0, 0, 0, 0, 0, 0, 0, 0, 0, 0, 0, 0, 0, 0, 0, 0, 0, 0, 0, 0, 0, 0, 0, 0, 0, 0, 0], .u64 0], .b8 32 [0, 0, 0, 0, 0, 0, 0, 0, 0, 0, 0, 0, 0, 0, 0, 0, 0, 0, 0, 0, 0, 0, 0, 0, 0, 0, 0, 0, 0, 0, 0, 0], .b8 32 [0, 0, 0, 0, 0, 0, 0, 0, 0, 0, 0, 0, 0, 0, 0, 0, 0, 0, 0, 0, 0, 0, 0, 0, 0, 0, 0, 0, 0, 0, 0, 0]]
 cnd ((leB x0 1000000000) && (has || (Bool.not (ltB 800 x0))))
 (za (has)
 (za (z9d n)
 (K (.tup [.agg u0, .vec8 true [], .int .i64 11]) [])
 (za ((ltB 200 x1) || (ltB 816 x0))
 (K (.tup [.agg u0, .vec8 true [], .int .i64 1]) [])
 (za (ltB x0 16)
 (K (.tup [.agg u0, .vec8 true [], .int .i64 4]) [])
 (za (zbm ck (z2g n) hash b)
 (K (.tup [.agg u0, .vec8 true [], .int .i64 10]) [])
 (cnd (x2)
 (K (.tup [.agg [.bool true, .b8 32 ck, .u64 (n + 1), .b8 32 chain, .b8 32 (Bla.sumS (hash ++ b))], .sl 0 0 1 (x0 - 16), .int .i64 0]) [Ent.grow8 (z8f ck (z2g n) b) []]))))))
 (za (z8m ck n)
 (cnd (x2)
 (K (.tup [.agg [.bool false, .b8 32 ck, .u64 n, .b8 32 chain, .b8 32 (Bla.sumS (hash ++ b))], .sl 0 0 1 x0, .int .i64 0]) [Ent.grow8 b []]))
 (K (.tup [.agg u0, .vec8 true [], .int .i64 9]) [])))) := by kernel_rfl
end Go.Proofs.YtehaohfglolljaaGreatDoor
namespace Go.Proofs.YtehaohfglolljaaGreatDoor
open Go Go.V Go.Fld Go.Pol Go.Cha
theorem z196 (k n a t : List UInt8) : zbm k n a (z6y k n a t) = false := by
 rw [zyo]; unfold zvv
 rw [z7o, Nat.add_sub_cancel, zgm]; unfold zhk
 rw [List.drop_left' (z52 ..), List.take_left' (z52 ..), beq_self_eq_true]; rfl
theorem z12d (k n a t : List UInt8) : z8f k n (z6y k n a t) = t := by
 rw [zit]; unfold zf5
 rw [z7o, Nat.add_sub_cancel, zgm]; unfold zhk
 rw [List.take_left' (z52 ..), zs3]
end Go.Proofs.YtehaohfglolljaaGreatDoor