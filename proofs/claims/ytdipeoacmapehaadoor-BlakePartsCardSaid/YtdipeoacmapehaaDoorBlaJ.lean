import Derived.Test.YtdipeoacmapehaaDoorGBlaH
set_option linter.unusedSimpArgs false
set_option linter.unusedVariables false
namespace Go.Proofs.YtdipeoacmapehaaDoor
open Go Go.V Go.Cha Go.Bla
set_option maxRecDepth 100000

theorem blakeKnown_c (n : Int) (_h : -9223372036854775808 ≤ n ∧ n ≤ 9223372036854775807) : HCall Tryd.E 4 [.int .i64 n] (.ret (.bool true) []) := by
  have e0 := sum_abc
  have e1 := sum_nil
  rcases (by omega : n % 2 = 0 ∨ n % 2 = 1) with h | h
  · refine HCall.of_walk (R := RS) (T := BK 0 (.inl rfl)) (fun _ _ => .unroll 5) 5 rfl rfl ?_
    rw [bknown0_eq, decide_eq_true h]
    refine ⟨?_, rfl⟩
    show AV.bool (((sumS [97, 98, 99]).take 4) == [80, 140, 94, 140]) = AV.bool true
    rw [e0]; rfl
  · refine HCall.of_walk (R := RS) (T := BK 1 (.inr rfl)) (fun _ _ => .unroll 5) 5 rfl rfl ?_
    rw [bknown1_eq, decide_eq_true h]
    refine ⟨?_, rfl⟩
    show AV.bool (((sumS []).take 4) == [105, 33, 122, 48]) = AV.bool true
    rw [e1]; rfl

theorem nnB_nat (n : Nat) : nnB (n : Int) = true := nnB_iff.2 (by omega)
theorem bcutOk {α : Type} (l : List α) (m : Int) (hm : 0 ≤ m) : sliceOk none (some (cond false (max (l.length : Int) m) (min (l.length : Int) m))) l.length = true := by
  show (nnB _ && leB (Int.toNat _) _) = true
  rw [cond_false, nnB_iff.2 (by omega), leB_of (by omega)]; rfl
theorem bcutL {α : Type} (l : List α) (m : Int) (hm : 0 ≤ m) : sliceL none (some (cond false (max (l.length : Int) m) (min (l.length : Int) m))) l = l.take m.toNat := by
  show l.take (Int.toNat _) = _
  rw [cond_false]
  rcases Nat.le_total l.length m.toNat with h | h
  · rw [List.take_of_length_le h, List.take_of_length_le (by omega)]
  · congr 1; omega
theorem bsO_eta (s : BS) (b : List UInt8) : bsO s.h s.held ((s.n : Nat) : Int) ((s.len : Nat) : Int) b = addB s b := rfl

theorem blakeParts_c (x1 : List UInt8) (_n1 : x1.length ≤ maxLen) (x2 : Int) (_n2 : -9223372036854775808 ≤ x2 ∧ x2 ≤ 9223372036854775807) (x3 : Int) (_n3 : -9223372036854775808 ≤ x3 ∧ x3 ≤ 9223372036854775807) :
    HCall Tryd.E 3 [.vec8 false x1, .int .i64 x2, .int .i64 x3] (.ret (.bool true) []) := by
  refine HCall.of_walk (R := RS) (T := B5) (fun _ _ => .unroll 5) 5 rfl rfl ?_
  rw [bparts_eq]
  dsimp only
  rw [bcutOk _ _ (by decide), bcutL _ _ (by decide), show Int.toNat 300 = 300 from rfl]
  have hy : (x1.take 300).length ≤ 300 := by rw [List.length_take]; omega
  generalize x1.take 300 = y at *
  have e1 : wr .i64 ((y.length : Int) + 1) = ((y.length + 1 : Nat) : Int) := by rw [wr_of (by omega) (by omega)]; rfl
  rw [e1]
  obtain ⟨i, hi, hi2⟩ : ∃ k : Nat, x2 % ((y.length + 1 : Nat) : Int) = k ∧ k ≤ y.length :=
    ⟨(x2 % ((y.length + 1 : Nat) : Int)).toNat, by have := Int.emod_nonneg x2 (b := ((y.length + 1 : Nat) : Int)) (by omega); omega, by have := Int.emod_lt_of_pos x2 (b := ((y.length + 1 : Nat) : Int)) (by omega); omega⟩
  rw [hi]
  have e2 : wr .i64 (wr .i64 (subI (y.length : Int) (i : Int)) + 1) = ((y.length - i + 1 : Nat) : Int) := by
    rw [subI_eq, wr_of (z := _ - _) (by omega) (by omega), wr_of (by omega) (by omega)]; omega
  rw [e2]
  obtain ⟨d, hd, hd2⟩ : ∃ k : Nat, x3 % ((y.length - i + 1 : Nat) : Int) = k ∧ k ≤ y.length - i :=
    ⟨(x3 % ((y.length - i + 1 : Nat) : Int)).toNat, by have := Int.emod_nonneg x3 (b := ((y.length - i + 1 : Nat) : Int)) (by omega); omega, by have := Int.emod_lt_of_pos x3 (b := ((y.length - i + 1 : Nat) : Int)) (by omega); omega⟩
  rw [hd]
  have e3 : wr .i64 ((i : Int) + (d : Int)) = ((i + d : Nat) : Int) := by rw [wr_of (by omega) (by omega)]; rfl
  rw [e3]
  have s1 : sliceOk none (some ((i : Nat) : Int)) y.length = true := by
    show (nnB _ && leB (Int.toNat _) _) = true
    rw [nnB_nat, Int.toNat_natCast, leB_of (by omega)]; rfl
  have s2 : sliceOk (some ((i : Nat) : Int)) (some ((i + d : Nat) : Int)) y.length = true := by
    show ((nnB _ && leB (Int.toNat _) (Int.toNat _)) && (nnB _ && leB (Int.toNat _) _)) = true
    rw [nnB_nat, nnB_nat, Int.toNat_natCast, Int.toNat_natCast, leB_of (by omega), leB_of (by omega)]; rfl
  have s3 : sliceOk (some ((i + d : Nat) : Int)) none y.length = true := by
    show (nnB _ && leB (Int.toNat _) _) = true
    rw [nnB_nat, Int.toNat_natCast, leB_of (by omega)]; rfl
  have t1 : sliceL none (some ((i : Nat) : Int)) y = y.take i := by
    show y.take (Int.toNat _) = _
    rw [Int.toNat_natCast]
  have t2 : sliceL (some ((i : Nat) : Int)) (some ((i + d : Nat) : Int)) y = (y.take (i + d)).drop i := by
    show (y.take (Int.toNat _)).drop (Int.toNat _) = _
    rw [Int.toNat_natCast, Int.toNat_natCast]
  have t3 : sliceL (some ((i + d : Nat) : Int)) none y = y.drop (i + d) := by
    show y.drop (Int.toNat _) = _
    rw [Int.toNat_natCast]
  rw [s1, s2, s3, t1, t2, t3]
  have hall : y.take i ++ ((y.take (i + d)).drop i ++ y.drop (i + d)) = y := by
    have : y.take i = (y.take (i + d)).take i := by rw [List.take_take, Nat.min_eq_left (by omega)]
    rw [this, ← List.append_assoc, List.take_append_drop, List.take_append_drop]
  have l1 : (y.take i).length ≤ 300 := by rw [List.length_take]; omega
  have l2 : ((y.take (i + d)).drop i).length ≤ 300 := by rw [List.length_drop, List.length_take]; omega
  have l3 : (y.drop (i + d)).length ≤ 300 := by rw [List.length_drop]; omega
  generalize y.take i = p1 at *
  generalize (y.take (i + d)).drop i = p2 at *
  generalize y.drop (i + d) = p3 at *
  clear s1 s2 s3 t1 t2 t3 e1 e2 e3 hi hd
  have hsum : sumS y = endB (addB (addB (addB startS p1) p2) p3) := by
    rw [sumS_eq]; unfold sumF
    rw [← addB_append, ← addB_append, hall]
  rw [hsum, bsO_eta]
  obtain ⟨o1, n1⟩ := addB_ok (b := p1) startS_ok (by show 0 + _ ≤ _; omega)
  have n1 : (addB startS p1).len = p1.length := by rw [n1]; show 0 + _ = _; omega
  generalize addB startS p1 = S1 at *
  rw [bsO_eta]
  obtain ⟨o2, n2⟩ := addB_ok (b := p2) o1 (by omega)
  generalize addB S1 p2 = S2 at *
  rw [bsO_eta]
  obtain ⟨o3, n3⟩ := addB_ok (b := p3) o2 (by omega)
  generalize addB S2 p3 = S3 at *
  rw [bs_eta, show okS startS.held 0 0 = true from startS_ok.s, o1.s, o2.s, o3.s]
  have g1 : wr .i64 (0 + ((p1.length : Nat) : Int)) = ((S1.len : Nat) : Int) := by rw [wr_of (by omega) (by omega)]; omega
  have g2 : wr .i64 (((S1.len : Nat) : Int) + ((p2.length : Nat) : Int)) = ((S2.len : Nat) : Int) := by rw [wr_of (by omega) (by omega)]; omega
  have g3 : wr .i64 (((S2.len : Nat) : Int) + ((p3.length : Nat) : Int)) = ((S3.len : Nat) : Int) := by rw [wr_of (by omega) (by omega)]; omega
  rw [g1, g2, g3, bne_self_eq_false, bne_self_eq_false, bne_self_eq_false, beq_self_eq_true, leB_of (by omega), leB_of (by omega), leB_of (by omega), leB_of (by omega)]
  have d1 : decide ((0 : Int) < ((y.length + 1 : Nat) : Int)) = true := decide_eq_true (by omega)
  have d2 : decide (((y.length + 1 : Nat) : Int) ≤ 9223372036854775807) = true := decide_eq_true (by omega)
  have d3 : decide ((0 : Int) < ((y.length - i + 1 : Nat) : Int)) = true := decide_eq_true (by omega)
  have d4 : decide (((y.length - i + 1 : Nat) : Int) ≤ 9223372036854775807) = true := decide_eq_true (by omega)
  rw [d1, d2, d3, d4]
  exact ⟨rfl, rfl⟩
end Go.Proofs.YtdipeoacmapehaaDoor
