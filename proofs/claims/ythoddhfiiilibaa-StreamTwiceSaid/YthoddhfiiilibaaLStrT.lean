import Derived.Test.YthoddhfiiilibaaGStrU
set_option linter.unusedSimpArgs false
set_option linter.unusedVariables false
namespace Go.Proofs.Ythoddhfiiilibaa
open Go Go.V Go.Cha
set_option maxRecDepth 100000
theorem over_small {m n : Nat} (hm : m ≤ 4) (hn : n ≤ 300) : overB (UInt32.ofNat m) n = false := by
  rw [overB_eq]; unfold overF
  rw [UInt32.toNat_ofNat']
  exact ltB_no (by omega)
theorem nnB_nat (n : Nat) : nnB (n : Int) = true := nnB_iff.2 (by omega)

theorem streamTwice_c (x0 : List UInt8) (x1 : Raw3) (_n1 : x1.ok) (x2 : List UInt8) (_n2 : x2.length ≤ maxLen) (x3 : Int) (_n3 : -9223372036854775808 ≤ x3 ∧ x3 ≤ 9223372036854775807) :
    HCall Try.E 4 [.b8 32 x0, x1.av, .vec8 false x2, .int .i64 x3] (.ret (.bool true) []) := by
  refine HCall.of_walk (R := RS) (T := T5) (fun f l => bif f == 4 then Inv.count [2, 10, 11, 12, 13, 14, 15, 16, 17, 68] 68 69 else .unroll 17) 5 rfl rfl ?_
  rw [twice_eq]
  dsimp only
  obtain ⟨m, hm, hm4⟩ : ∃ k : Nat, x3 % 4 = k ∧ k < 4 := ⟨(x3 % 4).toNat, by omega, by omega⟩
  have e1 : min ((x2.length : Nat) : Int) 300 = ((min x2.length 300 : Nat) : Int) := by omega
  have e2 : wr .i64 ((m : Int) + 1) = ((m + 1 : Nat) : Int) := by rw [wr_of (by omega) (by omega)]; rfl
  have e3 : Int.toNat ((m : Int) % 4294967296) = m := by omega
  have e4 : Int.toNat (((m + 1 : Nat) : Int) % 4294967296) = m + 1 := by omega
  have e5 : sliceOk none (some ((min x2.length 300 : Nat) : Int)) x2.length = true := by
    show (nnB _ && leB (Int.toNat _) _) = true
    rw [nnB_nat, Int.toNat_natCast, leB_of (by omega)]; rfl
  have e6 : sliceL none (some ((min x2.length 300 : Nat) : Int)) x2 = x2.take (min x2.length 300) := by
    show x2.take (Int.toNat _) = _
    rw [Int.toNat_natCast]
  simp only [cond_false, cond_true, hm, e1, e2, e3, e4, e5, e6]
  have hy : (x2.take (min x2.length 300)).length ≤ 300 := by rw [List.length_take]; omega
  generalize x2.take (min x2.length 300) = y at *
  have e7 : min 64 ((y.length : Nat) : Int) = ((min 64 y.length : Nat) : Int) := by omega
  have e8 : sliceOk (some ((min 64 y.length : Nat) : Int)) none y.length = true := by
    show (nnB _ && leB (Int.toNat _) _) = true
    rw [nnB_nat, Int.toNat_natCast, leB_of (by omega)]; rfl
  have e9 : sliceL (some ((min 64 y.length : Nat) : Int)) none y = y.drop (min 64 y.length) := by
    show y.drop (Int.toNat _) = _
    rw [Int.toNat_natCast]
  have e10 : loN (some ((min 64 y.length : Nat) : Int)) = min 64 y.length := rfl
  have e11 : hiN y.length none = y.length := rfl
  simp only [e7, e8, e9, e10, e11]
  generalize hF : nonceS x1.a x1.b x1.text = nn
  have hl := length_streamS x0 (UInt32.ofNat m) nn y
  generalize hs : streamS x0 (UInt32.ofNat m) nn y = s at *
  have hd := length_streamS x0 (UInt32.ofNat m) nn s
  have ht := length_streamS x0 (UInt32.ofNat (m + 1)) nn (y.drop (min 64 y.length))
  have hs2 : streamS x0 (UInt32.ofNat m) nn s = y := by rw [← hs]; exact streamS_twice _ _ _ _
  have hsd : s.drop (min 64 y.length) = streamS x0 (UInt32.ofNat (m + 1)) nn (y.drop (min 64 y.length)) := by
    rcases Nat.lt_or_ge y.length 64 with h | h
    · rw [show min 64 y.length = y.length by omega, List.drop_length, ← hl, List.drop_length]; rfl
    · rw [show min 64 y.length = 64 by omega, ← hs, streamS_drop, UInt32.ofNat_add]; rfl
  have hat : ∀ i, i < min 64 y.length → s.getD i 0 = y.getD i 0 ^^^ (blockS x0 (UInt32.ofNat m) nn).getD i 0 := by
    intro i hi
    rw [← hs]
    unfold streamS
    rw [List.getD_eq_getElem?_getD, turned_at, List.getD_eq_getElem?_getD, List.getElem?_eq_getElem (show i < y.length by omega)]
    simp only [Option.map_some, Option.getD_some]
    rw [if_pos (by omega)]
    unfold keyAt
    rw [show i / 64 = 0 by omega, show i % 64 = i by omega]
    simp
  have hk : List.take y.length s = s := by rw [← hl, List.take_length]
  have hk2 : List.take y.length y = y := List.take_length
  have ht2 : streamS x0 (UInt32.ofNat (m + 1)) nn (y.drop (min 64 y.length)) = s.drop (min 64 y.length) := hsd.symm
  simp only [List.drop_zero, Nat.zero_add, Nat.mul_one, hl, hk, hs2, hk2, ht2, List.length_drop]
  have hk3 : List.take (y.length - min 64 y.length) (s.drop (min 64 y.length)) = s.drop (min 64 y.length) := by
    apply List.take_of_length_le
    rw [List.length_drop, hl]; exact Nat.le_refl _
  simp only [hk3, beq_self_eq_true]
  rw [over_small (by omega) hy, over_small (m := m + 1) (by omega) (n := y.length - min 64 y.length) (by omega), ltB_no (a := 1600) (b := y.length) (by omega), ltB_no (a := 1600) (b := y.length - min 64 y.length) (by omega),
    leB_of (Nat.le_refl y.length), leB_of (Nat.le_refl (y.length - min 64 y.length)), leB_of (a := min 64 y.length + (y.length - min 64 y.length)) (b := y.length) (by omega)]
  refine ⟨⟨0, by show (0 : Int) ≤ _; omega, ?_⟩, fun i hi => ?_⟩
  · simp only [true_and, and_true]; rfl
  have hi2 : (i : Int) ≤ ((min 64 y.length : Nat) : Int) := hi
  rcases Nat.lt_or_ge i (min 64 y.length) with h | h
  · rw [ltI_of (x := (i : Int)) (y := ((min 64 y.length : Nat) : Int)) (by omega), ltI_of (x := (i : Int)) (y := (y.length : Int)) (by omega), inB_of (by omega) (by omega), inB_of (by omega) (by omega), ofs0, hat i h, bne_self_eq_false, wr_of (z := (i : Int) + 1) (by omega) (by omega)]
    refine ⟨i + 1, ⟨Inv.up_lt (by omega), by show ((i + 1 : Nat) : Int) ≤ _; omega⟩, ?_⟩
    simp only [true_and, and_true]; rfl
  · rw [ltI_no (x := (i : Int)) (y := ((min 64 y.length : Nat) : Int)) (by omega)]
    exact ⟨rfl, rfl⟩
end Go.Proofs.Ythoddhfiiilibaa
