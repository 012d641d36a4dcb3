import Derived.Test.YtdipeoacmapehaaGCipB
set_option linter.unusedSimpArgs false
set_option linter.unusedVariables false
namespace Go.Proofs.Ytdipeoacmapehaa
open Go Go.V Go.Fld Go.Pol Go.Cha
set_option maxRecDepth 100000

def maxB (n : UInt64) : Bool := (((UInt64.toNat n) : Nat) : Int) == 18446744073709551615
noncomputable def nilAv : AV := .agg [.bool false, .b8 32 zero32, .u64 0]
noncomputable def cErr (e : Int) : Out := .ret (.tup [nilAv, .vec8 true [], .int .i64 e]) []
noncomputable def csealO (k ad b : List UInt8) (n : UInt64) : Out := .alt (maxB n) (cErr 11) (.ret (.tup [.agg [.bool true, .b8 32 k, .u64 (n + 1)], .sl 0 0 1 (b.length + 16), .int .i64 0]) [.grow8 (sealS k (cnonceS n) ad b) []])
noncomputable def csealP (k b : List UInt8) (n : UInt64) : Out := .alt (nilC k n) (.ret (.tup [.agg [.bool false, .b8 32 k, .u64 n], .sl 0 0 1 b.length, .int .i64 0]) [.grow8 b []]) (cErr 9)
noncomputable def copenO (k ad b : List UInt8) (n : UInt64) : Out := .alt (maxB n) (cErr 11) (.alt (ltB 200 ad.length || ltB 816 b.length) (cErr 1) (.alt (ltB b.length 16) (cErr 4) (.alt (badS k (cnonceS n) ad b) (cErr 10)
  (.ret (.tup [.agg [.bool true, .b8 32 k, .u64 (n + 1)], .sl 0 0 1 (b.length - 16), .int .i64 0]) [.grow8 (plainS k (cnonceS n) b) []]))))

theorem cseal_c1 (k ad b : List UInt8) (n : UInt64) (fa fb : Bool) (h1 : ltB 200 ad.length = false) (h2 : ltB 800 b.length = false) : HCall Try.E 7 [.agg [.bool true, .b8 32 k, .u64 n], .vec8 fa ad, .vec8 fb b] (csealO k ad b n) := by
  refine HCall.of_walk (R := RS) (T := C1) (fun _ _ => .unroll 17) 5 rfl rfl ?_
  rw [csealT_eq]
  dsimp only
  rw [h1, h2]
  unfold csealO
  show ite2 (maxB n) _ _
  cases maxB n with
  | true => exact ⟨rfl, rfl⟩
  | false => exact ⟨rfl, rfl⟩
theorem cseal_c0 (k ad b : List UInt8) (n : UInt64) (fa fb : Bool) (h2 : ltB 800 b.length = false) : HCall Try.E 7 [.agg [.bool false, .b8 32 k, .u64 n], .vec8 fa ad, .vec8 fb b] (csealP k b n) := by
  refine HCall.of_walk (R := RS) (T := C1) (fun _ _ => .unroll 17) 5 rfl rfl ?_
  rw [csealF_eq]
  dsimp only
  unfold csealP
  have := of_ltB_no h2
  rw [show ltI 800 ((b.length : Nat) : Int) = ltB 800 b.length from rfl, h2, leB_of (by omega)]
  cases nilC k n with
  | true => exact ⟨rfl, rfl⟩
  | false => exact ⟨rfl, rfl⟩
theorem copen_c1 (k ad b : List UInt8) (n : UInt64) (fa fb : Bool) (h : b.length ≤ 1000000000) : HCall Try.E 11 [.agg [.bool true, .b8 32 k, .u64 n], .vec8 fa ad, .vec8 fb b] (copenO k ad b n) := by
  refine HCall.of_walk (R := RS) (T := C1) (fun _ _ => .unroll 17) 5 rfl rfl ?_
  rw [copenT_eq]
  dsimp only
  rw [leB_of h]
  unfold copenO
  show ite2 (maxB n) _ _
  cases maxB n with
  | true => exact ⟨rfl, rfl⟩
  | false =>
    show ite2 _ _ _
    cases (ltB 200 ad.length || ltB 816 b.length) with
    | true => exact ⟨rfl, rfl⟩
    | false =>
      show ite2 _ _ _
      cases ltB b.length 16 with
      | true => exact ⟨rfl, rfl⟩
      | false =>
        show ite2 _ _ _
        cases badS k (cnonceS n) ad b with
        | true => exact ⟨rfl, rfl⟩
        | false => exact ⟨rfl, rfl⟩
noncomputable def rekeyF (k : List UInt8) : List UInt8 := (sealS k (cnonceS 18446744073709551615) [] (List.replicate 32 0)).take 32
noncomputable def rekeyS : List UInt8 → List UInt8 := (sealed rekeyF).val
theorem rekeyS_eq (k : List UInt8) : rekeyS k = rekeyF k := by rw [rekeyS, (sealed rekeyF).property]
theorem crekey_c1 (k : List UInt8) (n : UInt64) : HCall Try.E 8 [.agg [.bool true, .b8 32 k, .u64 n]] (.ret (.tup [.agg [.bool true, .b8 32 (rekeyS k), .u64 n], .int .i64 0]) []) := by
  refine HCall.of_lens rfl rfl fun hl => ?_
  have hk : k.length = 32 := hl (.agg _) (List.mem_cons_self ..) (.b8 32 k) (by simp)
  clear hl
  refine HCall.of_walk (R := RS) (T := C1) (fun _ _ => .unroll 17) 5 rfl rfl ?_
  rw [crekeyT_eq, rekeyS_eq]
  unfold rekeyF
  dsimp only
  rw [show List.take 32 (List.drop 0 (List.replicate 32 (0 : UInt8))) = List.replicate 32 0 from rfl]
  have hl := length_sealS k (cnonceS 18446744073709551615) [] (List.replicate 32 0)
  rw [List.length_replicate] at hl
  generalize sealS k (cnonceS 18446744073709551615) [] (List.replicate 32 0) = s at *
  rw [take_n (l := s) hl.symm, hl, List.drop_eq_nil_of_le (by omega), List.append_nil]
  exact ⟨rfl, rfl⟩
theorem crekey_c0 (k : List UInt8) (n : UInt64) : HCall Try.E 8 [.agg [.bool false, .b8 32 k, .u64 n]] (.ret (.tup [nilAv, .int .i64 9]) []) := by
  refine HCall.of_walk (R := RS) (T := C1) (fun _ _ => .unroll 17) 5 rfl rfl ?_
  rw [crekeyF_eq]
  cases nilC k n with
  | true => exact ⟨rfl, rfl⟩
  | false => exact ⟨rfl, rfl⟩

noncomputable def C2 : Ctr Try.E := ((C1.add 7 (fun
    | [.agg [.bool true, .b8 32 k, .u64 n], .vec8 _ ad, .vec8 _ b] => some (!(ltB 200 ad.length) && !(ltB 800 b.length), csealO k ad b n)
    | [.agg [.bool false, .b8 32 k, .u64 n], .vec8 _ _, .vec8 _ b] => some (!(ltB 800 b.length), csealP k b n)
    | _ => none) (by
      intro args pre out h hp
      split at h
      · simp only [Option.some.injEq, Prod.mk.injEq] at h
        obtain ⟨rfl, rfl⟩ := h
        simp only [Bool.and_eq_true, Bool.not_eq_true'] at hp
        exact cseal_c1 _ _ _ _ _ _ hp.1 hp.2
      · simp only [Option.some.injEq, Prod.mk.injEq] at h
        obtain ⟨rfl, rfl⟩ := h
        exact cseal_c0 _ _ _ _ _ _ (by simpa using hp)
      · simp at h)).add 11 (fun
    | [.agg [.bool true, .b8 32 k, .u64 n], .vec8 _ ad, .vec8 _ b] => some (leB b.length 1000000000, copenO k ad b n)
    | _ => none) (by
      intro args pre out h hp
      split at h
      · simp only [Option.some.injEq, Prod.mk.injEq] at h
        obtain ⟨rfl, rfl⟩ := h
        exact copen_c1 _ _ _ _ _ _ (leB_iff.1 hp)
      · simp at h)).add 8 (fun
    | [.agg [.bool true, .b8 32 k, .u64 n]] => some (true, .ret (.tup [.agg [.bool true, .b8 32 (rekeyS k), .u64 n], .int .i64 0]) [])
    | [.agg [.bool false, .b8 32 _, .u64 _]] => some (true, .ret (.tup [nilAv, .int .i64 9]) [])
    | _ => none) (by
      intro args pre out h hp
      split at h
      · simp only [Option.some.injEq, Prod.mk.injEq] at h
        obtain ⟨rfl, rfl⟩ := h
        exact crekey_c1 _ _
      · simp only [Option.some.injEq, Prod.mk.injEq] at h
        obtain ⟨rfl, rfl⟩ := h
        exact crekey_c0 _ _
      · simp at h)
end Go.Proofs.Ytdipeoacmapehaa
