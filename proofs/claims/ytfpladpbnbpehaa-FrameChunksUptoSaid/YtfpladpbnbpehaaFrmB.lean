import Derived.Test.YtfpladpbnbpehaaGFrmA
import Derived.Test.YtfpladpbnbpehaaUC
set_option linter.unusedSimpArgs false
set_option linter.unusedVariables false
namespace Go.Proofs.Ytfpladpbnbpehaa
open Go Go.V Go.Frm
set_option maxRecDepth 100000

theorem frs_ok (l : List Fr) (i : Nat) : okL (frs l i) = true := rfl
theorem rawsF_ok (l : List Raw3) (i : Nat) : okL (rawsF l i) = true := rfl
theorem len_fsOf (l : List Raw3) : (fsOf l).length = min l.length 8 := by rw [fsOf, List.length_map, List.length_take]; omega
theorem get_fsOf (l : List Raw3) (i : Nat) (h : i < min l.length 8) : (fsOf l).getD i fr0 = frOf (l.getD i raw0) := by
  rw [fsOf, List.getD_eq_getElem?_getD, List.getD_eq_getElem?_getD, List.getElem?_map, List.getElem?_take, if_pos (by omega), List.getElem?_eq_getElem (by omega)]; rfl

theorem framesOf_c (l : List Raw3) : HCall Try.E 8 [.vecr false 4 l.length (rawsF l)] (.ret (.vecr false 3 (min l.length 8) (frs (fsOf l))) []) := by
  refine HCall.of_walkC (R := R0) (T := F0) (fun _ _ => framesL l) 5 rfl rfl ?_
  rw [framesOf_eq]
  dsimp only
  have raws : ∀ x, x < min l.length (Int.toNat 8) → leR (rawsF l x) (rawsF l x) := fun x _ => leR.refl rfl
  refine ⟨⟨0, by rw [Inv.upTo_int]; omega, ?_⟩, fun i hi => ?_⟩
  · repeat' apply And.intro
    all_goals first | rfl | trivial | exact raws
  rw [Inv.upTo_int] at hi
  rcases Nat.lt_or_ge i (min l.length 8) with hlt | hge
  · rw [ltI_of (by omega), inB_of (by omega) (by omega), beq_self_eq_true, leB_of (by omega)]
    have hm := Int.emod_nonneg (l.getD i raw0).kind (show (5 : Int) ≠ 0 by omega)
    have hm2 := Int.emod_lt_of_pos (l.getD i raw0).kind (show (0 : Int) < 5 by omega)
    have hw : wr .i64 (1 + (l.getD (Int.toNat ((i : Nat) : Int)) raw0).kind % 5) = 1 + (l.getD i raw0).kind % 5 := by rw [Int.toNat_natCast]; exact wr_of (by omega) (by omega)
    have hw2 : wr .i64 ((i : Int) + 1) = ((i + 1 : Nat) : Int) := by rw [wr_of (by omega) (by omega)]; rfl
    have hg := get_fsOf l i hlt
    rw [hw, hw2, Int.toNat_natCast]
    cases h5 : 1 + (l.getD i raw0).kind % 5 == 5 with
    | true =>
      refine ⟨i + 1, ⟨Inv.up_lt (by omega), by rw [Inv.upTo_int]; omega⟩, rfl, rows_app (fun x _ => leR.refl rfl) ?_, rfl, raws, rfl, rfl, rfl, trivial⟩
      show leR _ (Fr.cells _)
      rw [hg]
      simp only [Fr.cells, frOf, h5, cond_true]
      exact leR_same rfl (leR_same rfl (leR_vec8 (by simp) leR_end))
    | false =>
      refine ⟨i + 1, ⟨Inv.up_lt (by omega), by rw [Inv.upTo_int]; omega⟩, rfl, rows_app (fun x _ => leR.refl rfl) ?_, rfl, raws, rfl, rfl, rfl, trivial⟩
      show leR _ (Fr.cells _)
      rw [hg]
      simp only [Fr.cells, frOf, h5, cond_false]
      exact leR_same rfl (leR_same rfl (leR_vec8 (by simp) leR_end))
  · rw [ltI_no (by omega)]
    obtain rfl : i = min l.length 8 := by omega
    exact okOut.cold (v' := .vecr false 3 (min l.length 8) (frs (fsOf l))) rfl (leV.refl _) rfl ⟨rfl, rfl⟩

theorem fcheck_c (k i : Int) (full : Bool) (b : List UInt8) : HCall Try.E 10 [.agg [.int .i64 k, .int .i64 i, .vec8 full b]] (.ret (.int .i64 (faultS k i b)) []) := by
  refine HCall.of_walk (R := R0) (T := F0) (fun _ _ => .unroll 5) 5 rfl rfl ?_
  rw [fcheck_eq, faultS_eq]
  simp only [ite2_eq, cond_true, cond_false, ltI_eq, decide_eq_true_eq, decide_eq_false_iff_not, beq_iff_eq, beq_eq_false_iff_ne, Bool.cond_true_right, Bool.cond_false_right, Bool.or_false, Bool.and_false, Out.has]
  unfold fault
  refine ⟨fun h => ⟨?_, trivial⟩, fun h => ⟨fun h2 => ⟨?_, trivial⟩, fun h2 => ⟨fun h3 => ⟨?_, trivial⟩, fun h3 => ⟨fun h4 => ⟨?_, trivial⟩, fun h4 => ⟨fun h5 => ⟨?_, trivial⟩, fun h5 => ⟨fun h6 => ⟨fun h7 => ⟨?_, trivial⟩, fun h7 => ⟨?_, trivial⟩⟩, fun h6 => ⟨?_, trivial⟩⟩⟩⟩⟩⟩⟩
  all_goals first
    | rw [if_pos (by omega)]
    | rw [if_neg (by omega), if_pos (by omega)]
    | rw [if_neg (by omega), if_neg (by omega), if_pos (by omega)]
    | rw [if_neg (by omega), if_neg (by omega), if_neg (by omega), if_pos (by omega)]
    | rw [if_neg (by omega), if_neg (by omega), if_neg (by omega), if_neg (by omega)]

theorem fencode_c (k i : Int) (full : Bool) (b : List UInt8) : HCall Try.E 9 [.agg [.int .i64 k, .int .i64 i, .vec8 full b]] (.ret (.tup [.vec8 false (encS k i b), .int .i64 (faultS k i b)]) []) := by
  refine HCall.of_walkC (R := R0) (T := F0) (fun _ _ => .unroll 5) 5 rfl rfl ?_
  rw [fencode_eq, faultS_eq, encS_eq]
  have bad : ∀ e : Int, fault k i b = e → e ≠ 0 → okOut (.ret (.tup [.vec8 false (encF k i b), .int .i64 (fault k i b)]) []) (.tup [.vec8 true [], .int .i64 e]) [] := by
    intro e he hne
    have : encF k i b = [] := by unfold encF; rw [he, beq_false_of_ne hne]; rfl
    rw [this, he]
    exact okOut.le (v' := .tup [.vec8 false [], .int .i64 e]) rfl rfl (leV_tup (leRV_cons (fun _ _ _ _ r => by
      obtain ⟨x, rfl⟩ := nilS_val (a := .vec8 true []) rfl r
      exact rel_vec8.2 ⟨x, 0, rfl, Nat.le_refl _, fun _ => rfl, .inl rfl⟩) (leRV_cons (leV.refl _) leRV_nil))) rfl ⟨rfl, rfl⟩
  have good : fault k i b = 0 → okOut (.ret (.tup [.vec8 false (encF k i b), .int .i64 (fault k i b)]) []) (.tup [.sl 0 0 1 (4 + b.length), .int .i64 0]) [.grow8 ((List.set (List.set (List.set (List.set (List.replicate 4 0) 0 (UInt8.ofNat (Int.toNat (k % 256)))) 1 (UInt8.ofNat (Int.toNat (i % 256)))) 2 (UInt8.ofNat (Int.toNat ((Int.fdiv (b.length : Int) 256) % 256)))) 3 (UInt8.ofNat (Int.toNat ((b.length : Int) % 256)))) ++ b) []] := by
    intro he
    have hk : 1 ≤ k ∧ k ≤ 5 ∧ 0 ≤ i ∧ i ≤ 255 ∧ b.length ≤ 900 := by
      unfold fault at he
      split at he
      · simp at he
      · split at he
        · simp at he
        · split at he
          · simp at he
          · omega
    have e1 : encF k i b = (List.set (List.set (List.set (List.set (List.replicate 4 0) 0 (UInt8.ofNat (Int.toNat (k % 256)))) 1 (UInt8.ofNat (Int.toNat (i % 256)))) 2 (UInt8.ofNat (Int.toNat ((Int.fdiv (b.length : Int) 256) % 256)))) 3 (UInt8.ofNat (Int.toNat ((b.length : Int) % 256)))) ++ b := by
      unfold encF
      rw [he]
      have q1 : (k % 256).toNat = k.toNat := by omega
      have q2 : (i % 256).toNat = i.toNat := by omega
      have q3 : (Int.fdiv (b.length : Int) 256 % 256).toNat = b.length / 256 := by
        rw [Int.fdiv_eq_ediv_of_nonneg _ (by omega)]; omega
      have q4 : UInt8.ofNat ((b.length : Int) % 256).toNat = UInt8.ofNat b.length := by
        apply UInt8.toNat_inj.1
        simp only [UInt8.toNat_ofNat']
        omega
      rw [q1, q2, q3, q4]
      rfl
    rw [he, ← e1]
    have hl : 4 + b.length = (encF k i b).length := by rw [e1]; simp; omega
    refine okOut.cold (v' := .tup [.vec8 false (encF k i b), .int .i64 0]) (u := [(0, .grow8 (encF k i b) [(0, 4 + b.length)])]) ?_ (leV.refl _) rfl ⟨rfl, rfl⟩
    simp only [coldT, coldL, coldA_sl hl]
    rfl
  simp only [ite2_eq, cnd_eq, cond_true, cond_false, ltI_eq, decide_eq_true_eq, decide_eq_false_iff_not, beq_iff_eq, beq_eq_false_iff_ne, Bool.cond_true_right, Bool.cond_false_right, Bool.or_false, Bool.and_false, leB_iff]
  refine ⟨fun h => bad _ ?_ (by decide), fun h => ⟨fun h2 => bad _ ?_ (by decide), fun h2 => ⟨fun h3 => bad _ ?_ (by decide), fun h3 => ⟨fun h4 => bad _ ?_ (by decide), fun h4 => ⟨fun h5 => bad _ ?_ (by decide), fun h5 => ⟨fun h6 => ⟨fun h7 => bad _ ?_ (by decide), fun h7 => ⟨by omega, good ?_⟩⟩, fun h6 => ⟨by omega, good ?_⟩⟩⟩⟩⟩⟩⟩
  all_goals unfold fault
  all_goals first
    | rw [if_pos (by omega)]
    | rw [if_neg (by omega), if_pos (by omega)]
    | rw [if_neg (by omega), if_neg (by omega), if_pos (by omega)]
    | rw [if_neg (by omega), if_neg (by omega), if_neg (by omega), if_pos (by omega)]
    | rw [if_neg (by omega), if_neg (by omega), if_neg (by omega), if_neg (by omega)]
end Go.Proofs.Ytfpladpbnbpehaa
