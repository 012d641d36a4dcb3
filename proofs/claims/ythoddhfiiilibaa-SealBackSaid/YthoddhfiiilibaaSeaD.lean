import Derived.Test.YthoddhfiiilibaaGSeaD
set_option linter.unusedSimpArgs false
set_option linter.unusedVariables false
namespace Go.Proofs.Ythoddhfiiilibaa
open Go Go.V Go.Fld Go.Pol Go.Cha
set_option maxRecDepth 100000

theorem cutOk {α : Type} (l : List α) (m : Int) (hm : 0 ≤ m) : sliceOk none (some (cond false (max (l.length : Int) m) (min (l.length : Int) m))) l.length = true := by
  show (nnB _ && leB (Int.toNat _) _) = true
  rw [cond_false, nnB_iff.2 (by omega), leB_of (by omega)]; rfl
theorem cutL {α : Type} (l : List α) (m : Int) (hm : 0 ≤ m) : sliceL none (some (cond false (max (l.length : Int) m) (min (l.length : Int) m))) l = l.take m.toNat := by
  show l.take (Int.toNat _) = _
  rw [cond_false]
  rcases Nat.le_total l.length m.toNat with h | h
  · rw [List.take_of_length_le h, List.take_of_length_le (by omega)]
  · congr 1; omega

theorem bad_seal (k n a t : List UInt8) : badS k n a (sealS k n a t) = false := by
  rw [badS_eq]; unfold badF
  rw [length_sealS, Nat.add_sub_cancel, sealS_eq]; unfold sealF
  rw [List.drop_left' (length_streamS ..), List.take_left' (length_streamS ..), beq_self_eq_true]; rfl
theorem plain_seal (k n a t : List UInt8) : plainS k n (sealS k n a t) = t := by
  rw [plainS_eq]; unfold plainF
  rw [length_sealS, Nat.add_sub_cancel, sealS_eq]; unfold sealF
  rw [List.take_left' (length_streamS ..), streamS_twice]
theorem seal_plain {k n a c : List UInt8} (h : badS k n a c = false) (_hc : 16 ≤ c.length) : sealS k n a (plainS k n c) = c := by
  rw [badS_eq] at h; unfold badF at h
  rw [Bool.not_eq_false', beq_iff_eq] at h
  rw [sealS_eq, plainS_eq]; unfold sealF plainF
  rw [streamS_twice, ← h, List.take_append_drop]

theorem sealBack_c (x0 : List UInt8) (x1 : Raw3) (_n1 : x1.ok) (x2 : List UInt8) (_n2 : x2.length ≤ maxLen) (x3 : List UInt8) (_n3 : x3.length ≤ maxLen) :
    HCall Try.E 8 [.b8 32 x0, x1.av, .vec8 false x2, .vec8 false x3] (.ret (.bool true) []) := by
  refine HCall.of_walk (R := RS) (T := S3) (fun _ _ => .unroll 17) 5 rfl rfl ?_
  rw [sealBack_eq]
  dsimp only
  rw [cutOk _ _ (by decide), cutL _ _ (by decide), cutOk _ _ (by decide), cutL _ _ (by decide)]
  show cnd true (cnd true _)
  have ha : (x2.take 200).length ≤ 200 := by rw [List.length_take]; omega
  have ht : (x3.take 400).length ≤ 400 := by rw [List.length_take]; omega
  rw [show Int.toNat 200 = 200 from rfl, show Int.toNat 400 = 400 from rfl]
  generalize x2.take 200 = ad at *
  generalize x3.take 400 = t at *
  generalize nonceS x1.a x1.b x1.text = n at *
  have hl := length_sealS x0 n ad t
  have hb := bad_seal x0 n ad t
  have hp := plain_seal x0 n ad t
  generalize sealS x0 n ad t = s at *
  have e12 : List.take (t.length + 16) (List.drop 0 s) = s := take_n hl.symm
  rw [e12, hb, hp]
  have e15 : wr .i64 (((t.length + 16 : Nat) : Int) + 1) = ((t.length + 17 : Nat) : Int) := by rw [wr_of (by omega) (by omega)]; omega
  have e16 : (cond false (max ((t.length + 17 : Nat) : Int) 16) (min ((t.length + 17 : Nat) : Int) 16)) = 16 := by rw [cond_false]; omega
  rw [e15, e16]
  obtain ⟨i, hi, hlt⟩ : ∃ i : Nat, x1.a % 16 = i ∧ i < 16 := ⟨(x1.a % 16).toNat, by omega, by omega⟩
  rw [hi]
  have e20 : hiN (t.length + 16) (some (i : Int)) - 0 = i := by simp [hiN]
  rw [e20]
  have e22 : (List.take i (List.drop 0 s)).length = i := by rw [List.drop_zero, List.length_take]; omega
  have e19 : sliceOk none (some ((i : Nat) : Int)) (t.length + 16) = true := by
    show (nnB _ && leB (Int.toNat _) _) = true
    rw [nnB_iff.2 (by omega), Int.toNat_natCast, leB_of (by omega)]; rfl
  rw [e22, e19, hl, ltB_no (a := 200) (by omega), ltB_no (a := 816) (by omega), ltB_no (a := t.length + 16) (by omega), ltB_no (a := 800) (by omega), ltB_of (a := i) (by omega), ltB_no (a := 816) (by omega)]
  have e30 : wr .i64 ((t.length : Int) + 16) = ((t.length + 16 : Nat) : Int) := by rw [wr_of (by omega) (by omega)]; rfl
  rw [e30, beq_self_eq_true, show t.length + 16 - 16 = t.length by omega, take_all8, beq_self_eq_true]
  simp only [ite2_t, ite2_f, cond_true, cnd_iff, Bool.and_eq_true, leB_iff, decide_eq_true_eq, Bool.or_self, Bool.not_false]
  repeat' apply And.intro
  all_goals first | rfl | trivial | omega

theorem sealFixed_c (x0 : List UInt8) (x1 : Raw3) (_n1 : x1.ok) (x2 : List UInt8) (_n2 : x2.length ≤ maxLen) (x3 : List UInt8) (_n3 : x3.length ≤ maxLen) (x4 : Int) (_n4 : -9223372036854775808 ≤ x4 ∧ x4 ≤ 9223372036854775807) (x5 : UInt8) :
    HCall Try.E 9 [.b8 32 x0, x1.av, .vec8 false x2, .vec8 false x3, .int .i64 x4, .u8 x5] (.ret (.bool true) []) := by
  refine HCall.of_walk (R := RS) (T := S3) (fun _ _ => .unroll 17) 5 rfl rfl ?_
  rw [sealFixed_eq]
  dsimp only
  rw [cutOk _ _ (by decide), cutL _ _ (by decide), cutOk _ _ (by decide), cutL _ _ (by decide)]
  show cnd true (cnd true _)
  have ha : (x2.take 200).length ≤ 200 := by rw [List.length_take]; omega
  have ht : (x3.take 400).length ≤ 400 := by rw [List.length_take]; omega
  rw [show Int.toNat 200 = 200 from rfl, show Int.toNat 400 = 400 from rfl]
  generalize x2.take 200 = ad at *
  generalize x3.take 400 = t at *
  generalize nonceS x1.a x1.b x1.text = n at *
  have hl := length_sealS x0 n ad t
  have hb := bad_seal x0 n ad t
  obtain ⟨i, hi, hlt⟩ : ∃ i : Nat, x4 % ((t.length + 16 : Nat) : Int) = i ∧ i < t.length + 16 :=
    ⟨(x4 % ((t.length + 16 : Nat) : Int)).toNat, by have := Int.emod_nonneg x4 (b := ((t.length + 16 : Nat) : Int)) (by omega); omega, by have := Int.emod_nonneg x4 (b := ((t.length + 16 : Nat) : Int)) (by omega); have := Int.emod_lt_of_pos x4 (b := ((t.length + 16 : Nat) : Int)) (by omega); omega⟩
  rw [hi, ofs0]
  generalize hs : sealS x0 n ad t = s at *
  have hcl : (s.set i (s.getD i 0 ^^^ x5)).length = t.length + 16 := by rw [List.length_set]; exact hl
  have hc0 : x5 = 0 → s.set i (s.getD i 0 ^^^ x5) = s := by
    rintro rfl
    rw [UInt8.xor_zero]
    apply List.ext_getElem?
    intro j
    rw [List.getElem?_set]
    split
    · rename_i h; subst h
      rw [if_pos (by omega), List.getD_eq_getElem?_getD, List.getElem?_eq_getElem (by omega)]; rfl
    · rfl
  generalize s.set i (s.getD i 0 ^^^ x5) = c at *
  have e18 : List.take (t.length + 16) (List.drop 0 c) = c := take_n hcl.symm
  have hpl := length_plainS x0 n c
  rw [e18, hcl, show t.length + 16 - 16 = t.length by omega]
  have e21 : List.take t.length (List.drop 0 (plainS x0 n c)) = plainS x0 n c := take_n (by omega)
  have hpl2 : (plainS x0 n c).length = t.length := by omega
  rw [e21, hpl2, hl, inB_of (by omega) (by omega), ltB_no (a := 200) (by omega), ltB_no (a := 816) (by omega), ltB_no (a := t.length + 16) (by omega), ltB_no (a := 800) (by omega)]
  have e40 : szL (Ent.cells (Ent.grow8 s [])) = t.length + 16 := by
    show s.length + 0 = _
    rw [hl, Nat.add_zero]
  rw [e40, odd_iff]
  cases hq : badS x0 n ad c with
  | true =>
    have h5 : (x5 == 0) = false := by
      rw [beq_eq_false_iff_ne]
      intro h
      rw [hc0 h, hb] at hq
      exact Bool.noConfusion hq
    rw [h5]
    simp only [ite2_t, ite2_f, cond_true, cnd_iff, Bool.and_eq_true, leB_iff, decide_eq_true_eq, Bool.or_self, Bool.not_false]
    repeat' apply And.intro
    all_goals first | rfl | trivial | omega
  | false =>
    have hsp := seal_plain hq (by omega)
    have e23 : List.take (t.length + 16) (List.drop 0 c) = c := take_n hcl.symm
    rw [hsp, e23, beq_self_eq_true]
    simp only [ite2_t, ite2_f, cond_true, cnd_iff, Bool.and_eq_true, leB_iff, decide_eq_true_eq, Bool.or_self, Bool.not_false]
    repeat' apply And.intro
    all_goals first | rfl | trivial | omega
end Go.Proofs.Ythoddhfiiilibaa
