import Derived.Test.YtdipeoacmapehaaGSeaC
set_option linter.unusedSimpArgs false
set_option linter.unusedVariables false
namespace Go.Proofs.Ytdipeoacmapehaa
open Go Go.V Go.Fld Go.Pol Go.Cha
set_option maxRecDepth 100000

theorem over_one {n : Nat} (hn : n ≤ 1600) : overB 1 n = false := by
  rw [overB_eq]; unfold overF
  rw [show (1 : UInt32).toNat = 1 from rfl]
  exact ltB_no (by omega)
theorem length_endR (a : Nat) (p : List UInt64) : (endS a p).length = 16 := by
  rw [endS_eq]; rfl
theorem length_sealT (k n a b : List UInt8) : (sealT k n a b).length = 16 := by
  rw [sealT_eq]; unfold sealTF
  rw [tagS_eq]; unfold tagF
  exact length_endR _ _

/-- A text as it is sealed. -/
noncomputable def sealF (k n a b : List UInt8) : List UInt8 := streamS k 1 n b ++ sealT k n a (streamS k 1 n b)
noncomputable def sealS : List UInt8 → List UInt8 → List UInt8 → List UInt8 → List UInt8 := (sealed sealF).val
theorem sealS_eq (k n a b : List UInt8) : sealS k n a b = sealF k n a b := by rw [sealS, (sealed sealF).property]
theorem length_sealS (k n a b : List UInt8) : (sealS k n a b).length = b.length + 16 := by
  rw [sealS_eq]; unfold sealF
  rw [List.length_append, length_streamS, length_sealT]

noncomputable def nilErr (e : Int) : Out := .ret (.tup [.vec8 true [], .int .i64 e]) []
noncomputable def sealO (k n a b : List UInt8) : Out := .alt (ltB 200 a.length || ltB 800 b.length) (nilErr 1) (.ret (.tup [.sl 0 0 1 (b.length + 16), .int .i64 0]) [.grow8 (sealS k n a b) []])

theorem sealSeal_c (k n a b : List UInt8) (fa fb : Bool) : HCall Try.E 13 [.b8 32 k, .b8 12 n, .vec8 fa a, .vec8 fb b] (sealO k n a b) := by
  refine HCall.of_walk (R := RS) (T := S2) (fun _ _ => .unroll 17) 5 rfl rfl ?_
  rw [sealSeal_eq]
  dsimp only
  unfold sealO
  rw [show ltI 200 ((a.length : Nat) : Int) = ltB 200 a.length from rfl, show ltI 800 ((b.length : Nat) : Int) = ltB 800 b.length from rfl]
  cases h1 : ltB 200 a.length with
  | true => exact ⟨rfl, rfl⟩
  | false =>
    cases h2 : ltB 800 b.length with
    | true => exact ⟨rfl, rfl⟩
    | false =>
      have h1 := of_ltB_no h1
      have h2 := of_ltB_no h2
      have hs := length_streamS k 1 n b
      rw [take_n (l := streamS k 1 n b) hs.symm, sealS_eq, length_sealT]
      unfold sealF
      rw [ltB_no (by omega), over_one (by omega), hs]
      simp only [ite2_t, ite2_f, cnd_iff, Bool.and_eq_true, leB_iff, ltB_iff, beq_iff_eq, cond_false]
      repeat' apply And.intro
      all_goals first | rfl | trivial | omega

/-- Is the end of what comes another one than the tag? -/
noncomputable def badF (k n a b : List UInt8) : Bool := !(b.drop (b.length - 16) == sealT k n a (b.take (b.length - 16)))
noncomputable def badS : List UInt8 → List UInt8 → List UInt8 → List UInt8 → Bool := (sealed badF).val
theorem badS_eq (k n a b : List UInt8) : badS k n a b = badF k n a b := by rw [badS, (sealed badF).property]
noncomputable def plainF (k n b : List UInt8) : List UInt8 := streamS k 1 n (b.take (b.length - 16))
noncomputable def plainS : List UInt8 → List UInt8 → List UInt8 → List UInt8 := (sealed plainF).val
theorem plainS_eq (k n b : List UInt8) : plainS k n b = plainF k n b := by rw [plainS, (sealed plainF).property]
theorem length_plainS (k n b : List UInt8) : (plainS k n b).length = b.length - 16 := by
  rw [plainS_eq]; unfold plainF
  rw [length_streamS, List.length_take]; omega

theorem or_zero {a b : UInt8} : a ||| b = 0 ↔ a = 0 ∧ b = 0 := by
  constructor
  · intro h
    have h2 : a.toNat ||| b.toNat = 0 := by rw [← UInt8.toNat_or, h]; rfl
    rw [Nat.or_eq_zero_iff] at h2
    exact ⟨UInt8.toNat_inj.1 h2.1, UInt8.toNat_inj.1 h2.2⟩
  · rintro ⟨rfl, rfl⟩; rfl
theorem xor_zero {a b : UInt8} : a ^^^ b = 0 ↔ a = b := by
  constructor
  · intro h
    have : a ^^^ b ^^^ b = 0 ^^^ b := by rw [h]
    rwa [UInt8.xor_assoc, UInt8.xor_self, UInt8.xor_zero, UInt8.zero_xor] at this
  · rintro rfl; exact UInt8.xor_self
theorem odd_iff (x : UInt8) : (((x.toNat : Nat) : Int) != 0) = !(x == 0) := by
  cases h : x == 0
  · have : x ≠ 0 := beq_eq_false_iff_ne.1 h
    have : x.toNat ≠ 0 := fun h => this (UInt8.toNat_inj.1 h)
    simp; omega
  · rw [beq_iff_eq] at h; subst h; rfl

theorem odd_all : ∀ {c t : List UInt8}, c.length = 16 → t.length = 16 →
    ((((((((((((((((((0 : UInt8) ||| (c.getD 0 0 ^^^ t.getD 0 0)) ||| (c.getD 1 0 ^^^ t.getD 1 0)) ||| (c.getD 2 0 ^^^ t.getD 2 0)) ||| (c.getD 3 0 ^^^ t.getD 3 0)) ||| (c.getD 4 0 ^^^ t.getD 4 0)) ||| (c.getD 5 0 ^^^ t.getD 5 0)) ||| (c.getD 6 0 ^^^ t.getD 6 0)) ||| (c.getD 7 0 ^^^ t.getD 7 0)) ||| (c.getD 8 0 ^^^ t.getD 8 0)) ||| (c.getD 9 0 ^^^ t.getD 9 0)) ||| (c.getD 10 0 ^^^ t.getD 10 0)) ||| (c.getD 11 0 ^^^ t.getD 11 0)) ||| (c.getD 12 0 ^^^ t.getD 12 0)) ||| (c.getD 13 0 ^^^ t.getD 13 0)) ||| (c.getD 14 0 ^^^ t.getD 14 0)) ||| (c.getD 15 0 ^^^ t.getD 15 0)) == 0) = (c == t)
  | [c0, c1, c2, c3, c4, c5, c6, c7, c8, c9, c10, c11, c12, c13, c14, c15], [t0, t1, t2, t3, t4, t5, t6, t7, t8, t9, t10, t11, t12, t13, t14, t15], _, _ => by
    rw [Bool.eq_iff_iff, beq_iff_eq, beq_iff_eq]
    simp only [List.getD_cons_zero, List.getD_cons_succ, or_zero, xor_zero, List.cons.injEq, and_true, true_and, and_assoc]

noncomputable def openO (k n a b : List UInt8) : Out := .alt (ltB 200 a.length || ltB 816 b.length) (nilErr 1) (.alt (ltB b.length 16) (nilErr 4) (.alt (badS k n a b) (nilErr 10) (.ret (.tup [.sl 0 0 1 (b.length - 16), .int .i64 0]) [.grow8 (plainS k n b) []])))

theorem sealOpen_c (k n a b : List UInt8) (fa fb : Bool) (hb : b.length ≤ 1000000000) : HCall Try.E 16 [.b8 32 k, .b8 12 n, .vec8 fa a, .vec8 fb b] (openO k n a b) := by
  refine HCall.of_walk (R := RS) (T := S2) (fun _ _ => .unroll 17) 5 rfl rfl ?_
  rw [sealOpen_eq]
  dsimp only
  unfold openO
  have e2 : wr .i64 (subI (b.length : Int) 16) = (b.length : Int) - 16 := by rw [subI_eq, wr_of (by omega) (by omega)]
  rw [e2, show ltI 200 ((a.length : Nat) : Int) = ltB 200 a.length from rfl]
  cases h1 : ltB 200 a.length with
  | true => exact ⟨rfl, rfl⟩
  | false =>
    have h1 := of_ltB_no h1
    cases h2 : ltB 816 b.length with
    | true =>
      have := ltB_iff.1 h2
      rw [ltI_of (x := 800) (by omega)]
      exact ⟨rfl, rfl⟩
    | false =>
      have h2 := of_ltB_no h2
      rw [ltI_no (x := 800) (by omega)]
      cases h3 : ltB b.length 16 with
      | true =>
        have := ltB_iff.1 h3
        rw [ltI_of (x := (b.length : Int) - 16) (by omega)]
        exact ⟨rfl, rfl⟩
      | false =>
        have h3 := of_ltB_no h3
        obtain ⟨m, hm⟩ : ∃ m : Nat, b.length = m + 16 := ⟨b.length - 16, by omega⟩
        have e3 : (b.length : Int) - 16 = (m : Int) := by omega
        rw [e3, ltI_no (x := (m : Int)) (by omega)]
        have e4 : sliceL none (some ((m : Nat) : Int)) b = b.take m := by
          show b.take (Int.toNat _) = _
          rw [Int.toNat_natCast]
        have e5 : sliceL (some ((m : Nat) : Int)) none b = b.drop m := by
          show b.drop (Int.toNat _) = _
          rw [Int.toNat_natCast]
        have e6 : sliceOk none (some ((m : Nat) : Int)) b.length = true := by
          show (nnB _ && leB (Int.toNat _) _) = true
          rw [nnB_iff.2 (by omega), Int.toNat_natCast, leB_of (by omega)]; rfl
        have e7 : sliceOk (some ((m : Nat) : Int)) none b.length = true := by
          show (nnB _ && leB (Int.toNat _) _) = true
          rw [nnB_iff.2 (by omega), Int.toNat_natCast, leB_of (by omega)]; rfl
        have hl : (b.drop m).length = 16 := by rw [List.length_drop]; omega
        have ht : (b.take m).length = m := by rw [List.length_take]; omega
        rw [e4, e5, e6, e7, hl, ht, leB_of (a := a.length) (by omega), leB_of (a := m) (by omega), badS_eq, plainS_eq]
        unfold badF plainF
        rw [show b.length - 16 = m by omega]
        have ho := odd_all hl (length_sealT k n a (b.take m))
        show ite2 (((UInt8.toNat _ : Nat) : Int) != 0) _ _
        rw [odd_iff, ho]
        cases hq : (List.drop m b == sealT k n a (List.take m b)) with
        | false => exact ⟨rfl, rfl⟩
        | true =>
          rw [ltB_no (by omega), over_one (by omega)]
          exact ⟨rfl, rfl⟩

theorem sealSeal_c2 (k n a b : List UInt8) (fa fb : Bool) (h1 : ltB 200 a.length = false) (h2 : ltB 800 b.length = false) : HCall Try.E 13 [.b8 32 k, .b8 12 n, .vec8 fa a, .vec8 fb b] (.ret (.tup [.sl 0 0 1 (b.length + 16), .int .i64 0]) [.grow8 (sealS k n a b) []]) := by
  have h := sealSeal_c k n a b fa fb
  unfold sealO at h
  rw [h1, h2] at h
  obtain ⟨x, _, z⟩ := h
  exact ⟨x, rfl, z⟩
/-- Seal where a text is short enough; Open. -/
noncomputable def S3 : Ctr Try.E := (S2.add 13 (fun
    | [.b8 32 k, .b8 12 n, .vec8 _ a, .vec8 _ b] => some (!(ltB 200 a.length) && !(ltB 800 b.length), .ret (.tup [.sl 0 0 1 (b.length + 16), .int .i64 0]) [.grow8 (sealS k n a b) []])
    | _ => none) (by
      intro args pre out h hp
      split at h
      · simp only [Option.some.injEq, Prod.mk.injEq] at h
        obtain ⟨rfl, rfl⟩ := h
        simp only [Bool.and_eq_true, Bool.not_eq_true'] at hp
        exact sealSeal_c2 _ _ _ _ _ _ hp.1 hp.2
      · simp at h)).add 16 (fun
    | [.b8 32 k, .b8 12 n, .vec8 _ a, .vec8 _ b] => some (leB b.length 1000000000, openO k n a b)
    | _ => none) (by
      intro args pre out h hp
      split at h
      · simp only [Option.some.injEq, Prod.mk.injEq] at h
        obtain ⟨rfl, rfl⟩ := h
        exact sealOpen_c _ _ _ _ _ _ (leB_iff.1 hp)
      · simp at h)
end Go.Proofs.Ytdipeoacmapehaa
