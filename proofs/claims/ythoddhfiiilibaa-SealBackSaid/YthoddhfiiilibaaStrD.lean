import Derived.Test.YthoddhfiiilibaaGStrT
set_option linter.unusedSimpArgs false
set_option linter.unusedVariables false
namespace Go.Proofs.Ythoddhfiiilibaa
open Go Go.V Go.Cha
set_option maxRecDepth 100000

def nonceL (a b : Int) (s : List UInt8) : List UInt8 := List.set (List.set ((List.take 12 s) ++ (List.drop (Min.min (List.length s) 12) [0, 0, 0, 0, 0, 0, 0, 0, 0, 0, 0, 0])) 10 (UInt8.ofNat (Int.toNat (a % 256)))) 11 (UInt8.ofNat (Int.toNat (b % 256)))
noncomputable def nonceS : Int → Int → List UInt8 → List UInt8 := (sealed nonceL).val
theorem nonceS_eq (a b : Int) (s : List UInt8) : nonceS a b s = nonceL a b s := by rw [nonceS, (sealed nonceL).property]
theorem nonce_c (a b c : Int) (s : List UInt8) : HCall Try.E 13 [.agg [.int .i64 a, .int .i64 b, .int .i64 c, .str s]] (.ret (.b8 12 (nonceS b c s)) []) := by
  refine HCall.of_walk (R := RS) (T := T4) (fun _ _ => .unroll 17) 5 rfl rfl ?_
  rw [nonce_eq, nonceS_eq]
  exact ⟨rfl, rfl⟩
theorem tells_take : (blockS [0, 0, 0, 0, 0, 0, 0, 0, 0, 0, 0, 0, 0, 0, 0, 0, 0, 0, 0, 0, 0, 0, 0, 0, 0, 0, 0, 0, 0, 0, 0, 0] 0 [0, 0, 0, 0, 0, 0, 0, 0, 0, 0, 0, 0]).take 1 = [118] := by
  rw [blockS_eq]; kernel_rfl
theorem tells_c : HCall Try.E 14 [] (.ret (.bool true) []) := by
  refine HCall.of_walk (R := RS) (T := T4) (fun _ _ => .unroll 17) 5 rfl rfl ?_
  rw [tells_eq]
  dsimp only
  have e := tells_take
  rw [← getD_take (n := 1) (by decide), e]
  exact ⟨rfl, rfl⟩
noncomputable def T5 : Ctr Try.E := (T4p.add 13 (fun
    | [.agg [.int .i64 a, .int .i64 b, .int .i64 c, .str s]] => some (true, .ret (.b8 12 (nonceS b c s)) [])
    | _ => none) (by
      intro args pre out h hp
      split at h
      · simp only [Option.some.injEq, Prod.mk.injEq] at h
        obtain ⟨rfl, rfl⟩ := h
        exact nonce_c _ _ _ _
      · simp at h)).add 14 (fun
    | [] => some (true, .ret (.bool true) [])
    | _ => none) (by
      intro args pre out h hp
      split at h
      · simp only [Option.some.injEq, Prod.mk.injEq] at h
        obtain ⟨rfl, rfl⟩ := h
        exact tells_c
      · simp at h)
end Go.Proofs.Ythoddhfiiilibaa
