import Derived.Test.YtdipeoacmapehaaGCipB
set_option linter.unusedSimpArgs false
set_option linter.unusedVariables false
namespace Go.Proofs.Ytdipeoacmapehaa
open Go Go.V Go.Fld Go.Pol Go.Cha
set_option maxRecDepth 100000

def maxB (n : UInt64) : Bool := (((UInt64.toNat n) : Nat) : Int) == 18446744073709551615
noncomputable def nilAv : AV := .agg [.bool false, .b8 32 zero32, .u64 0]
noncomputable def cErr (e : Int) : Out := .ret (.tup [nilAv, .vec8 true [], .int .i64 e]) []
noncomputable def csealO (k ad b : List UInt8) (n : UInt64) : Out := .alt (maxB n) (cErr 11) (.ret (.tup [.agg [.bool true, .b8 32 k, .u64 (n + 1)], .sl 0 0 1 (b.length + 16), .int .i64 0]) [.grow8 (sealS k (cnonceS n) ad b) []])
noncomputable def csealP (k b : List UInt8) (n : UInt64) : Out := .alt (nilC k n) (.ret (.tup [.agg [.bool false, .b8 32 k, .u64 n], .sl 0 0 1 b.length, .int .i64 0]) [.grow8 b []]) (cErr 9)
noncomputable def copenO (k ad b : List UInt8) (n : UInt64) : Out := .alt (maxB n) (cErr 11) (.alt (ltB 200 ad.length || ltB 816 b.length) (cErr 1) (.alt (ltB b.length 16) (cErr 4) (.alt (badS k (cnonceS n) ad b) (cErr 10)
  (.ret (.tup [.agg [.bool true, .b8 32 k, .u64 (n + 1)], .sl 0 0 1 (b.length - 16), .int .i64 0]) [.grow8 (plainS k (cnonceS n) b) []]))))

theorem cseal_c1 (k ad b : List UInt8) (n : UInt64) (fa fb : Bool) (h1 : ltB 200 ad.length = false) (h2 : ltB 800 b.length = false) : HCall Try.E 7 [.agg [.bool true, .b8 32 k, .u64 n], .vec8 fa ad, .vec8 fb b] (csealO k ad b n) := by
  refine HCall.of_walk (R := RS) (T := C1) (fun _ _ => .unroll 17) 5 rfl rfl ?_
  rw [csealT_eq]
  dsimp only
  rw [h1, h2]
  unfold csealO
  show ite2 (maxB n) _ _
  cases maxB n with
  | true => exact ⟨rfl, rfl⟩
  | false => exact ⟨rfl, rfl⟩
theorem cseal_c0 (k ad b : List UInt8) (n : UInt64) (fa fb : Bool) (h2 : ltB 800 b.length = false) : HCall Try.E 7 [.agg [.bool false, .b8 32 k, .u64 n], .vec8 fa ad, .vec8 fb b] (csealP k b n) := by
  refine HCall.of_walk (R := RS) (T := C1) (fun _ _ => .unroll 17) 5 rfl rfl ?_
  rw [csealF_eq]
  dsimp only
  unfold csealP
  have := of_ltB_no h2
  rw [show ltI 800 ((b.length : Nat) : Int) = ltB 800 b.length from rfl, h2, leB_of (by omega)]
  cases nilC k n with
  | true => exact ⟨rfl, rfl⟩
  | false => exact ⟨rfl, rfl⟩
theorem copen_c1 (k ad b : List UInt8) (n : UInt64) (fa fb : Bool) (h : b.length ≤ 1000000000) : HCall Try.E 11 [.agg [.bool true, .b8 32 k, .u64 n], .vec8 fa ad, .vec8 fb b] (copenO k ad b n) := by
  refine HCall.of_walk (R := RS) (T := C1) (fun _ _ => .unroll 17) 5 rfl rfl ?_
  rw [copenT_eq]
  dsimp only
  rw [leB_of h]
  unfold copenO
  show ite2 (maxB n) _ _
  cases maxB n with
  | true => exact ⟨rfl, rfl⟩
  | false =>
    show ite2 _ _ _
    cases (ltB 200 ad.length || ltB 816 b.length) with
    | true => exact ⟨rfl, rfl⟩
    | false =>
      show ite2 _ _ _
      cases ltB b.length 16 with
      | true => exact ⟨rfl, rfl⟩
      | false =>
        show ite2 _ _ _
        cases badS k (cnonceS n) ad b with
        | true => exact ⟨rfl, rfl⟩
        | false => exact ⟨rfl, rfl⟩
noncomputable def copenP (k b : List UInt8) (n : UInt64) : Out := .alt (nilC k n) (.ret (.tup [.agg [.bool false, .b8 32 k, .u64 n], .sl 0 0 1 b.length, .int .i64 0]) [.grow8 b []]) (cErr 9)
theorem copen_c0 (k ad b : List UInt8) (n : UInt64) (fa fb : Bool) (h2 : ltB 800 b.length = false) : HCall Try.E 11 [.agg [.bool false, .b8 32 k, .u64 n], .vec8 fa ad, .vec8 fb b] (copenP k b n) := by
  refine HCall.of_walk (R := RS) (T := C1) (fun _ _ => .unroll 17) 5 rfl rfl ?_
  rw [copenF_eq]
  dsimp only
  unfold copenP
  have := of_ltB_no h2
  rw [show ltI 800 ((b.length : Nat) : Int) = ltB 800 b.length from rfl, h2, leB_of (by omega)]
  cases nilC k n with
  | true => exact ⟨rfl, rfl⟩
  | false => exact ⟨rfl, rfl⟩
noncomputable def C2o : Ctr Try.E := (C1.add 7 (fun
    | [.agg [.bool h, .b8 32 k, .u64 n], .vec8 _ ad, .vec8 _ b] => some (!(ltB 200 ad.length) && !(ltB 800 b.length), .alt h (csealO k ad b n) (csealP k b n))
    | _ => none) (by
      intro args pre out h hp
      split at h
      · rename_i b k n fa ad fb text
        simp only [Option.some.injEq, Prod.mk.injEq] at h
        obtain ⟨rfl, rfl⟩ := h
        simp only [Bool.and_eq_true, Bool.not_eq_true'] at hp
        cases b with
        | true => exact HCall.alt_l rfl rfl (cseal_c1 _ _ _ _ _ _ hp.1 hp.2)
        | false => exact HCall.alt_r rfl rfl (cseal_c0 _ _ _ _ _ _ hp.2)
      · simp at h)).add 11 (fun
    | [.agg [.bool h, .b8 32 k, .u64 n], .vec8 _ ad, .vec8 _ b] => some (leB b.length 1000000000 && (h || !(ltB 800 b.length)), .alt h (copenO k ad b n) (copenP k b n))
    | _ => none) (by
      intro args pre out h hp
      split at h
      · rename_i b k n fa ad fb text
        simp only [Option.some.injEq, Prod.mk.injEq] at h
        obtain ⟨rfl, rfl⟩ := h
        simp only [Bool.and_eq_true] at hp
        cases b with
        | true => exact HCall.alt_l rfl rfl (copen_c1 _ _ _ _ _ _ (leB_iff.1 hp.1))
        | false => exact HCall.alt_r rfl rfl (copen_c0 _ _ _ _ _ _ (by simpa using hp.2))
      · simp at h)
end Go.Proofs.Ytdipeoacmapehaa
