import Derived.Test.YtdipeoacmapehaaGCipR
set_option linter.unusedSimpArgs false
set_option linter.unusedVariables false
namespace Go.Proofs.Ytdipeoacmapehaa
open Go Go.V Go.Fld Go.Pol Go.Cha
set_option maxRecDepth 100000
noncomputable def rekeyF (k : List UInt8) : List UInt8 := (sealS k (cnonceS 18446744073709551615) [] (List.replicate 32 0)).take 32
noncomputable def rekeyS : List UInt8 → List UInt8 := (sealed rekeyF).val
theorem rekeyS_eq (k : List UInt8) : rekeyS k = rekeyF k := by rw [rekeyS, (sealed rekeyF).property]
theorem crekey_c1 (k : List UInt8) (n : UInt64) : HCall Try.E 8 [.agg [.bool true, .b8 32 k, .u64 n]] (.ret (.tup [.agg [.bool true, .b8 32 (rekeyS k), .u64 n], .int .i64 0]) []) := by
  refine HCall.of_lens rfl rfl fun hl => ?_
  have hk : k.length = 32 := hl (.agg _) (List.mem_cons_self ..) (.b8 32 k) (by simp)
  clear hl
  refine HCall.of_walk (R := RS) (T := C1) (fun _ _ => .unroll 17) 5 rfl rfl ?_
  rw [crekeyT_eq, rekeyS_eq]
  unfold rekeyF
  dsimp only
  rw [show List.take 32 (List.drop 0 (List.replicate 32 (0 : UInt8))) = List.replicate 32 0 from rfl]
  have hl := length_sealS k (cnonceS 18446744073709551615) [] (List.replicate 32 0)
  rw [List.length_replicate] at hl
  generalize sealS k (cnonceS 18446744073709551615) [] (List.replicate 32 0) = s at *
  rw [take_n (l := s) hl.symm, hl, List.drop_eq_nil_of_le (by omega), List.append_nil]
  exact ⟨rfl, rfl⟩
theorem crekey_c0 (k : List UInt8) (n : UInt64) : HCall Try.E 8 [.agg [.bool false, .b8 32 k, .u64 n]] (.ret (.tup [nilAv, .int .i64 9]) []) := by
  refine HCall.of_walk (R := RS) (T := C1) (fun _ _ => .unroll 17) 5 rfl rfl ?_
  rw [crekeyF_eq]
  cases nilC k n with
  | true => exact ⟨rfl, rfl⟩
  | false => exact ⟨rfl, rfl⟩

noncomputable def C2 : Ctr Try.E := C2o.add 8 (fun
    | [.agg [.bool true, .b8 32 k, .u64 n]] => some (true, .ret (.tup [.agg [.bool true, .b8 32 (rekeyS k), .u64 n], .int .i64 0]) [])
    | [.agg [.bool false, .b8 32 _, .u64 _]] => some (true, .ret (.tup [nilAv, .int .i64 9]) [])
    | _ => none) (by
      intro args pre out h hp
      split at h
      · simp only [Option.some.injEq, Prod.mk.injEq] at h
        obtain ⟨rfl, rfl⟩ := h
        exact crekey_c1 _ _
      · simp only [Option.some.injEq, Prod.mk.injEq] at h
        obtain ⟨rfl, rfl⟩ := h
        exact crekey_c0 _ _
      · simp at h)
end Go.Proofs.Ytdipeoacmapehaa
