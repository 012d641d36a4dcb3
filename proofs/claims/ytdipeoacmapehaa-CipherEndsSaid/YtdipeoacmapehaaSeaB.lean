import Derived.Test.YtdipeoacmapehaaGSeaB
set_option linter.unusedSimpArgs false
set_option linter.unusedVariables false
namespace Go.Proofs.Ytdipeoacmapehaa
open Go Go.V Go.Fld Go.Pol Go.Cha
set_option maxRecDepth 100000

/-- What is summed for a tag. -/
noncomputable def allF (a b : List UInt8) : List UInt8 := ((padS a ++ padS b) ++ eightS (a.length : Int)) ++ eightS (b.length : Int)
noncomputable def sealTF (k n a b : List UInt8) : List UInt8 := tagS ((blockS k 0 n).take 32) (allF a b)
noncomputable def sealT : List UInt8 → List UInt8 → List UInt8 → List UInt8 → List UInt8 := (sealed sealTF).val
theorem sealT_eq (k n a b : List UInt8) : sealT k n a b = sealTF k n a b := by rw [sealT, (sealed sealTF).property]

theorem padN_lt (n : Nat) : padN n < 16 := by unfold padN; omega
theorem full_spec {b : List UInt8} (h : fullS b = true) : b.isEmpty = false ∧ padS b = b := by
  rw [fullS_eq] at h; unfold fullF at h
  simp only [Bool.and_eq_true, Bool.not_eq_true', beq_iff_eq] at h
  refine ⟨h.1, ?_⟩
  rw [padS_eq]; unfold padF
  rw [h.2]; simp
theorem take_all8 (l : List UInt8) : List.take l.length (List.drop 0 l) = l := by rw [List.drop_zero, List.take_length]
theorem take_n {l : List UInt8} {n : Nat} (h : n = l.length) : List.take n (List.drop 0 l) = l := by subst h; exact take_all8 l
theorem block_len (k n : List UInt8) (c : UInt32) : (blockS k c n).length = 64 := length_blockS ..

theorem ite2_t {x y : Prop} : ite2 true x y = x := rfl
theorem ite2_f {x y : Prop} : ite2 false x y = y := rfl
theorem sealtag_c (k n a b : List UInt8) (fa fb : Bool) (ha : a.length ≤ 1000000) (hb : b.length ≤ 1000000) : HCall Try.E 18 [.b8 32 k, .b8 12 n, .vec8 fa a, .vec8 fb b] (.ret (.b8 16 (sealT k n a b)) []) := by
  refine HCall.of_walk (R := RS) (T := S1) (fun _ _ => .unroll 17) 5 rfl rfl ?_
  rw [sealtag_eq, sealT_eq]
  dsimp only
  unfold sealTF allF
  have l5 := length_eightS (a.length : Int)
  have l9 := length_eightS (b.length : Int)
  generalize eightS (a.length : Int) = u at *
  generalize eightS (b.length : Int) = v at *
  have e7 : List.take 8 (List.drop 0 u) = u := take_n l5.symm
  have e11 : List.take 8 (List.drop 0 v) = v := take_n l9.symm
  have hp := length_padS b
  have hpa := length_padS a
  have h1 := padN_lt a.length
  have h2 := padN_lt b.length
  have hk : List.drop (min (blockS k 0 n).length 32) ([0, 0, 0, 0, 0, 0, 0, 0, 0, 0, 0, 0, 0, 0, 0, 0, 0, 0, 0, 0, 0, 0, 0, 0, 0, 0, 0, 0, 0, 0, 0, 0] : List UInt8) = [] := by
    rw [block_len]; rfl
  rw [e7, e11, take_all8, hk, List.append_nil, l5, l9, leB_of ha, leB_of hb]
  have hu : u.isEmpty = false := by cases u with
    | nil => simp at l5
    | cons _ _ => rfl
  cases hfa : fullS a with
  | true =>
    obtain ⟨ea, pa⟩ := full_spec hfa
    rw [pa, ea]
    cases hfb : fullS b with
    | true =>
      obtain ⟨eb, pb⟩ := full_spec hfb
      rw [pb, eb]
      simp only [ite2_t, ite2_f, cnd_iff, Bool.and_eq_true, leB_iff, ltB_iff, beq_iff_eq, List.length_append, l5, l9]
      rw [take_n (l := ((a ++ b) ++ u) ++ v) (by simp only [List.length_append, l5, l9])]
      simp only [List.length_append, l5, l9]
      repeat' apply And.intro
      all_goals first | rfl | trivial | omega
    | false =>
      cases hpe : (padS b).isEmpty with
      | true =>
        rw [List.isEmpty_iff] at hpe
        rw [hpe] at hp ⊢
        simp only [List.length_nil] at hp
        simp only [hu, ite2_t, ite2_f, cnd_iff, Bool.and_eq_true, leB_iff, ltB_iff, beq_iff_eq, List.length_append, l5, l9, List.append_nil, List.length_nil, List.take_nil, List.drop_nil, List.isEmpty_nil]
        rw [take_n (l := (a ++ u) ++ v) (by simp only [List.length_append, l5, l9])]
        simp only [List.length_append, l5, l9]
        repeat' apply And.intro
        all_goals first | rfl | trivial | omega
      | false =>
        rw [take_all8, hpe]
        simp only [ite2_t, ite2_f, cnd_iff, Bool.and_eq_true, leB_iff, ltB_iff, beq_iff_eq, List.length_append, l5, l9]
        rw [take_n (l := ((a ++ padS b) ++ u) ++ v) (by simp only [List.length_append, l5, l9])]
        simp only [List.length_append, l5, l9]
        repeat' apply And.intro
        all_goals first | rfl | trivial | omega
  | false =>
    cases hfb : fullS b with
    | true =>
      obtain ⟨eb, pb⟩ := full_spec hfb
      rw [pb]
      simp only [ite2_t, ite2_f, cnd_iff, Bool.and_eq_true, leB_iff, ltB_iff, beq_iff_eq, List.length_append, l5, l9]
      rw [take_n (l := ((padS a ++ b) ++ u) ++ v) (by simp only [List.length_append, l5, l9])]
      simp only [List.length_append, l5, l9]
      repeat' apply And.intro
      all_goals first | rfl | trivial | omega
    | false =>
      rw [take_all8]
      simp only [ite2_t, ite2_f, cnd_iff, Bool.and_eq_true, leB_iff, ltB_iff, beq_iff_eq, List.length_append, l5, l9]
      rw [take_n (l := ((padS a ++ padS b) ++ u) ++ v) (by simp only [List.length_append, l5, l9])]
      simp only [List.length_append, l5, l9]
      repeat' apply And.intro
      all_goals first | rfl | trivial | omega
noncomputable def S2 : Ctr Try.E := S1.add 18 (fun
    | [.b8 32 k, .b8 12 n, .vec8 _ a, .vec8 _ b] => some (leB a.length 1000000 && leB b.length 1000000, .ret (.b8 16 (sealT k n a b)) [])
    | _ => none) (by
      intro args pre out h hp
      split at h
      · simp only [Option.some.injEq, Prod.mk.injEq] at h
        obtain ⟨rfl, rfl⟩ := h
        simp only [Bool.and_eq_true, leB_iff] at hp
        exact sealtag_c _ _ _ _ _ _ hp.1 hp.2
      · simp at h)
end Go.Proofs.Ytdipeoacmapehaa
