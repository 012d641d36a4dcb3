import Derived.Test.YthoddhfiiilibaaGPolG
import Derived.Test.YthoddhfiiilibaaNums
set_option linter.unusedSimpArgs false
set_option linter.unusedVariables false
namespace Go.Proofs.Ythoddhfiiilibaa
open Go Go.V Go.Fld Go.Pol
set_option maxRecDepth 100000
theorem halfS_zero : halfS [0, 0, 0, 0, 0, 0, 0, 0] = 0 := by rw [halfS_eq]; rfl
theorem carry_none (x : UInt64) : carry64 0 x 0 = 0 := by
  have p := add_part 0 x 0 (by decide)
  obtain ⟨p1, p2⟩ := p
  rw [UInt64.zero_add, UInt64.add_zero, show (0 : UInt64).toNat = 0 from rfl] at p1
  apply UInt64.toNat_inj.1
  rw [show (0 : UInt64).toNat = 0 from rfl]
  omega
/-- With a first half of noughts the tag is the second half. -/
theorem tag_zero {l : List UInt8} (hl : l.length = 16) (b : List UInt8) : tagS ([0, 0, 0, 0, 0, 0, 0, 0, 0, 0, 0, 0, 0, 0, 0, 0] ++ l) b = l := by
  match l, hl with
  | [l0, l1, l2, l3, l4, l5, l6, l7, l8, l9, l10, l11, l12, l13, l14, l15], _ =>
  rw [tagS_eq]; unfold tagF
  have e1 : rOf ([0, 0, 0, 0, 0, 0, 0, 0, 0, 0, 0, 0, 0, 0, 0, 0] ++ [l0, l1, l2, l3, l4, l5, l6, l7, l8, l9, l10, l11, l12, l13, l14, l15]) = [0, 0] := by
    unfold rOf
    show [halfS [0, 0, 0, 0, 0, 0, 0, 0] &&& 1152921487695413247, halfS [0, 0, 0, 0, 0, 0, 0, 0] &&& 1152921487695413244] = _
    rw [halfS_zero]; rfl
  have e2 : padOf ([0, 0, 0, 0, 0, 0, 0, 0, 0, 0, 0, 0, 0, 0, 0, 0] ++ [l0, l1, l2, l3, l4, l5, l6, l7, l8, l9, l10, l11, l12, l13, l14, l15]) = [halfS [l0, l1, l2, l3, l4, l5, l6, l7], halfS [l8, l9, l10, l11, l12, l13, l14, l15]] := rfl
  have e3 : v2 [0, 0] = 0 := by rw [v2_mk]; rfl
  rw [e1, e2, e3]
  have e4 : lastP 0 (addS 0 ⟨0, zeros, 0⟩ b) = 0 := by
    unfold lastP
    split
    · simp [soakN]
    · rw [addS_eq]; exact addP_zero rfl
  rw [e4, endS_eq]
  unfold endF
  rw [w3_zero]
  have ha := half_sum l0 l1 l2 l3 l4 l5 l6 l7
  have hb := half_sum l8 l9 l10 l11 l12 l13 l14 l15
  generalize halfS [l0, l1, l2, l3, l4, l5, l6, l7] = a at *
  generalize halfS [l8, l9, l10, l11, l12, l13, l14, l15] = c at *
  simp only [List.getD_cons_zero, List.getD_cons_succ, carry_none, UInt64.zero_add, UInt64.add_zero, List.set_cons_zero, List.set_cons_succ]
  obtain ⟨a0, a1, a2, a3, a4, a5, a6, a7⟩ := half_bytes _ _ _ _ _ _ _ _ ha
  obtain ⟨c0, c1, c2, c3, c4, c5, c6, c7⟩ := half_bytes _ _ _ _ _ _ _ _ hb
  rw [a0, a1, a2, a3, a4, a5, a6, a7, c0, c1, c2, c3, c4, c5, c6, c7]

theorem nnB_nat (n : Nat) : nnB (n : Int) = true := nnB_iff.2 (by omega)

theorem polyParts_c (x0 : List UInt8) (x1 : List UInt8) (_n1 : x1.length ≤ maxLen) (x2 : Int) (_n2 : -9223372036854775808 ≤ x2 ∧ x2 ≤ 9223372036854775807) (x3 : Int) (_n3 : -9223372036854775808 ≤ x3 ∧ x3 ≤ 9223372036854775807) :
    HCall Try.E 6 [.b8 32 x0, .vec8 false x1, .int .i64 x2, .int .i64 x3] (.ret (.bool true) []) := by
  refine HCall.of_len rfl rfl fun hl => ?_
  have hk : x0.length = 32 := hl _ (List.mem_cons_self ..)
  clear hl
  refine HCall.of_walk (R := RS) (T := P5) (fun _ _ => .unroll 17) 5 rfl rfl ?_
  rw [polyParts_eq]
  dsimp only
  have e1 : min ((x1.length : Nat) : Int) 200 = ((min x1.length 200 : Nat) : Int) := by omega
  have e5 : sliceOk none (some ((min x1.length 200 : Nat) : Int)) x1.length = true := by
    show (nnB _ && leB (Int.toNat _) _) = true
    rw [nnB_nat, Int.toNat_natCast, leB_of (by omega)]; rfl
  have e6 : sliceL none (some ((min x1.length 200 : Nat) : Int)) x1 = x1.take (min x1.length 200) := by
    show x1.take (Int.toNat _) = _
    rw [Int.toNat_natCast]
  simp only [cond_false, cond_true, e1, e5, e6]
  have hy : (x1.take (min x1.length 200)).length ≤ 200 := by rw [List.length_take]; omega
  generalize x1.take (min x1.length 200) = y at *
  clear e1 e5 e6
  have e1 : wr .i64 ((y.length : Int) + 1) = ((y.length + 1 : Nat) : Int) := by rw [wr_of (by omega) (by omega)]; rfl
  rw [e1]
  obtain ⟨i, hi, hi2⟩ : ∃ k : Nat, x2 % ((y.length + 1 : Nat) : Int) = k ∧ k ≤ y.length :=
    ⟨(x2 % ((y.length + 1 : Nat) : Int)).toNat, by have := Int.emod_nonneg x2 (b := ((y.length + 1 : Nat) : Int)) (by omega); omega, by have := Int.emod_lt_of_pos x2 (b := ((y.length + 1 : Nat) : Int)) (by omega); omega⟩
  rw [hi]
  have e2 : wr .i64 (wr .i64 (subI (y.length : Int) (i : Int)) + 1) = ((y.length - i + 1 : Nat) : Int) := by
    rw [subI_eq, wr_of (z := _ - _) (by omega) (by omega), wr_of (by omega) (by omega)]; omega
  rw [e2]
  obtain ⟨d, hd, hd2⟩ : ∃ k : Nat, x3 % ((y.length - i + 1 : Nat) : Int) = k ∧ k ≤ y.length - i :=
    ⟨(x3 % ((y.length - i + 1 : Nat) : Int)).toNat, by have := Int.emod_nonneg x3 (b := ((y.length - i + 1 : Nat) : Int)) (by omega); omega, by have := Int.emod_lt_of_pos x3 (b := ((y.length - i + 1 : Nat) : Int)) (by omega); omega⟩
  rw [hd]
  have e3 : wr .i64 ((i : Int) + (d : Int)) = ((i + d : Nat) : Int) := by rw [wr_of (by omega) (by omega)]; rfl
  rw [e3]
  have s1 : sliceOk none (some ((i : Nat) : Int)) y.length = true := by
    show (nnB _ && leB (Int.toNat _) _) = true
    rw [nnB_nat, Int.toNat_natCast, leB_of (by omega)]; rfl
  have s2 : sliceOk (some ((i : Nat) : Int)) (some ((i + d : Nat) : Int)) y.length = true := by
    show ((nnB _ && leB (Int.toNat _) (Int.toNat _)) && (nnB _ && leB (Int.toNat _) _)) = true
    rw [nnB_nat, nnB_nat, Int.toNat_natCast, Int.toNat_natCast, leB_of (by omega), leB_of (by omega)]; rfl
  have s3 : sliceOk (some ((i + d : Nat) : Int)) none y.length = true := by
    show (nnB _ && leB (Int.toNat _) _) = true
    rw [nnB_nat, Int.toNat_natCast, leB_of (by omega)]; rfl
  have t1 : sliceL none (some ((i : Nat) : Int)) y = y.take i := by
    show y.take (Int.toNat _) = _
    rw [Int.toNat_natCast]
  have t2 : sliceL (some ((i : Nat) : Int)) (some ((i + d : Nat) : Int)) y = (y.take (i + d)).drop i := by
    show (y.take (Int.toNat _)).drop (Int.toNat _) = _
    rw [Int.toNat_natCast, Int.toNat_natCast]
  have t3 : sliceL (some ((i + d : Nat) : Int)) none y = y.drop (i + d) := by
    show y.drop (Int.toNat _) = _
    rw [Int.toNat_natCast]
  rw [s1, s2, s3, t1, t2, t3]
  have hall : y.take i ++ ((y.take (i + d)).drop i ++ y.drop (i + d)) = y := by
    have : y.take i = (y.take (i + d)).take i := by rw [List.take_take, Nat.min_eq_left (by omega)]
    rw [this, ← List.append_assoc, List.take_append_drop, List.take_append_drop]
  have l1 : (y.take i).length ≤ 200 := by rw [List.length_take]; omega
  have l2 : ((y.take (i + d)).drop i).length ≤ 200 := by rw [List.length_drop, List.length_take]; omega
  have l3 : (y.drop (i + d)).length ≤ 200 := by rw [List.length_drop]; omega
  generalize y.take i = p1 at *
  generalize (y.take (i + d)).drop i = p2 at *
  generalize y.drop (i + d) = p3 at *
  clear s1 s2 s3 t1 t2 t3 e1 e2 e3 hi hd
  have e0 : PS.mk (v3 (w3 0)) zeros (Int.toNat 0) = ⟨0, zeros, 0⟩ := ps_eta ok0
  have e1 : okS (rOf x0) (w3 0) zeros 0 = true := okS_r ok0
  simp only [e0, e1]
  have htag : tagS x0 y = endS (lastP (v2 (rOf x0)) (addS (v2 (rOf x0)) (addS (v2 (rOf x0)) (addS (v2 (rOf x0)) ⟨0, zeros, 0⟩ p1) p2) p3)) (padOf x0) := by
    rw [tagS_eq]; unfold tagF
    rw [addS_eq, addS_eq, addS_eq, addS_eq, ← addP_append, ← addP_append, hall]
  have o1 := addS_ok (r := v2 (rOf x0)) ok0 p1
  have n1 : (addS (v2 (rOf x0)) ⟨0, zeros, 0⟩ p1).n = (0 + p1.length) % 16 := by rw [addS_eq]; exact addP_n ok0
  generalize addS (v2 (rOf x0)) ⟨0, zeros, 0⟩ p1 = S1 at *
  rw [ps_eta o1]
  have o2 := addS_ok (r := v2 (rOf x0)) o1 p2
  have n2 : (addS (v2 (rOf x0)) S1 p2).n = (S1.n + p2.length) % 16 := by rw [addS_eq]; exact addP_n o1
  generalize addS (v2 (rOf x0)) S1 p2 = S2 at *
  rw [ps_eta o2]
  have o3 := addS_ok (r := v2 (rOf x0)) o2 p3
  have n3 : (addS (v2 (rOf x0)) S2 p3).n = (S2.n + p3.length) % 16 := by rw [addS_eq]; exact addP_n o2
  generalize addS (v2 (rOf x0)) S2 p3 = S3 at *
  rw [ps_eta o3, ← htag, okS_r o1, okS_r o2, okS_r o3]
  have q1 := o1.n; have q2 := o2.n; have q3 := o3.n
  have ne : ∀ {s : PS}, s.n < 16 → (((s.n : Nat) : Int) == 16) = false := fun h => by rw [beq_eq_false_iff_ne]; omega
  rw [ne q1, ne q2, ne q3]
  have tm : ∀ (a b : Nat), a < 16 → b ≤ 200 → Int.tmod (wr .i64 ((a : Int) + (b : Int))) 16 = (((a + b) % 16 : Nat) : Int) := fun a b h1 h2 => by
    rw [wr_of (by omega) (by omega)]; rfl
  have z0 : wr .i64 (0 + ((p1.length : Nat) : Int)) = wr .i64 (((0 : Nat) : Int) + ((p1.length : Nat) : Int)) := rfl
  rw [z0, tm 0 p1.length (by omega) l1, tm S1.n p2.length q1 l2, tm S2.n p3.length q2 l3, ← n1, ← n2, ← n3]
  rw [bne_self_eq_false, bne_self_eq_false, bne_self_eq_false, ltB_of (by omega), ltB_of (by omega), ltB_of (by omega), ltB_of (by omega)]
  have ez : List.take 0 x0 ++ (((List.take 16 (List.take 16 (List.drop 0 (List.replicate 16 (0 : UInt8))))) ++ (List.drop 16 (List.take 16 x0))) ++ List.drop 16 x0) = [0, 0, 0, 0, 0, 0, 0, 0, 0, 0, 0, 0, 0, 0, 0, 0] ++ List.drop 16 x0 := by
    have : List.drop 16 (List.take 16 x0) = [] := by
      apply List.drop_eq_nil_of_le
      rw [List.length_take]; omega
    rw [this]; rfl
  have hz := tag_zero (l := List.drop 16 x0) (by rw [List.length_drop]; omega) y
  rw [ez, hz, beq_self_eq_true, beq_self_eq_true]
  have d1 : decide ((0 : Int) < ((y.length + 1 : Nat) : Int)) = true := decide_eq_true (by omega)
  have d2 : decide (((y.length + 1 : Nat) : Int) ≤ 9223372036854775807) = true := decide_eq_true (by omega)
  have d3 : decide ((0 : Int) < ((y.length - i + 1 : Nat) : Int)) = true := decide_eq_true (by omega)
  have d4 : decide (((y.length - i + 1 : Nat) : Int) ≤ 9223372036854775807) = true := decide_eq_true (by omega)
  rw [d1, d2, d3, d4]
  exact ⟨rfl, rfl⟩
end Go.Proofs.Ythoddhfiiilibaa
