import Derived.Test.YtdipeoacmapehaaGCipA
set_option linter.unusedSimpArgs false
set_option linter.unusedVariables false
namespace Go.Proofs.Ytdipeoacmapehaa
open Go Go.V Go.Fld Go.Pol Go.Cha
set_option maxRecDepth 100000

noncomputable def cnonceF (n : UInt64) : List UInt8 := List.set (List.set (List.set (List.set (List.set (List.set (List.set (List.set [0, 0, 0, 0, 0, 0, 0, 0, 0, 0, 0, 0] 4 (UInt64.toUInt8 (shr64 n 0))) 5 (UInt64.toUInt8 (shr64 n 8))) 6 (UInt64.toUInt8 (shr64 n 16))) 7 (UInt64.toUInt8 (shr64 n 24))) 8 (UInt64.toUInt8 (shr64 n 32))) 9 (UInt64.toUInt8 (shr64 n 40))) 10 (UInt64.toUInt8 (shr64 n 48))) 11 (UInt64.toUInt8 (shr64 n 56))
noncomputable def cnonceS : UInt64 → List UInt8 := (sealed cnonceF).val
theorem cnonceS_eq (n : UInt64) : cnonceS n = cnonceF n := by rw [cnonceS, (sealed cnonceF).property]
theorem cnonce_c (n : UInt64) : HCall Try.E 15 [.u64 n] (.ret (.b8 12 (cnonceS n)) []) := by
  refine HCall.of_walk (R := RS) (T := S3) (fun _ _ => .unroll 17) 5 rfl rfl ?_
  rw [cnonce_eq, cnonceS_eq]
  exact ⟨rfl, rfl⟩
def zero32 : List UInt8 := [0, 0, 0, 0, 0, 0, 0, 0, 0, 0, 0, 0, 0, 0, 0, 0, 0, 0, 0, 0, 0, 0, 0, 0, 0, 0, 0, 0, 0, 0, 0, 0]
theorem ccheck_c1 (k : List UInt8) (n : UInt64) : HCall Try.E 14 [.agg [.bool true, .b8 32 k, .u64 n]] (.ret (.int .i64 0) []) := by
  refine HCall.of_walk (R := RS) (T := S3) (fun _ _ => .unroll 17) 5 rfl rfl ?_
  rw [ccheck_eq]
  exact ⟨rfl, rfl⟩
/-- Is it a cipher of nothing? -/
noncomputable def nilCF (k : List UInt8) (n : UInt64) : Bool := k == zero32 && n == 0
noncomputable def nilC : List UInt8 → UInt64 → Bool := (sealed nilCF).val
theorem nilC_eq (k : List UInt8) (n : UInt64) : nilC k n = (k == zero32 && n == 0) := by rw [nilC, (sealed nilCF).property]; rfl
theorem ccheck_c0 (k : List UInt8) (n : UInt64) : HCall Try.E 14 [.agg [.bool false, .b8 32 k, .u64 n]] (.alt (nilC k n) (.ret (.int .i64 0) []) (.ret (.int .i64 9) [])) := by
  refine HCall.of_walk (R := RS) (T := S3) (fun _ _ => .unroll 17) 5 rfl rfl ?_
  rw [ccheck_eq, nilC_eq]
  have e : ((false == false) && ((k == [0, 0, 0, 0, 0, 0, 0, 0, 0, 0, 0, 0, 0, 0, 0, 0, 0, 0, 0, 0, 0, 0, 0, 0, 0, 0, 0, 0, 0, 0, 0, 0]) && ((n == 0) && true))) = (k == zero32 && n == 0) := by
    rw [Bool.and_true]; rfl
  rw [e]
  cases k == zero32 && n == 0 with
  | true => exact ⟨rfl, rfl⟩
  | false => exact ⟨rfl, rfl⟩
theorem cbegin_c (k : List UInt8) : HCall Try.E 5 [.b8 32 k] (.ret (.agg [.bool true, .b8 32 k, .u64 0]) []) := by
  refine HCall.of_walk (R := RS) (T := S3) (fun _ _ => .unroll 17) 5 rfl rfl ?_
  rw [cbegin_eq]
  exact ⟨rfl, rfl⟩
noncomputable def C1 : Ctr Try.E := ((S3.add 15 (fun
    | [.u64 n] => some (true, .ret (.b8 12 (cnonceS n)) [])
    | _ => none) (by
      intro args pre out h hp
      split at h
      · simp only [Option.some.injEq, Prod.mk.injEq] at h
        obtain ⟨rfl, rfl⟩ := h
        exact cnonce_c _
      · simp at h)).add 5 (fun
    | [.b8 32 k] => some (true, .ret (.agg [.bool true, .b8 32 k, .u64 0]) [])
    | _ => none) (by
      intro args pre out h hp
      split at h
      · simp only [Option.some.injEq, Prod.mk.injEq] at h
        obtain ⟨rfl, rfl⟩ := h
        exact cbegin_c _
      · simp at h)).add 14 (fun
    | [.agg [.bool true, .b8 32 _, .u64 _]] => some (true, .ret (.int .i64 0) [])
    | [.agg [.bool false, .b8 32 k, .u64 n]] => some (true, .alt (nilC k n) (.ret (.int .i64 0) []) (.ret (.int .i64 9) []))
    | _ => none) (by
      intro args pre out h hp
      split at h
      · simp only [Option.some.injEq, Prod.mk.injEq] at h
        obtain ⟨rfl, rfl⟩ := h
        exact ccheck_c1 _ _
      · simp only [Option.some.injEq, Prod.mk.injEq] at h
        obtain ⟨rfl, rfl⟩ := h
        exact ccheck_c0 _ _
      · simp at h)
end Go.Proofs.Ytdipeoacmapehaa
