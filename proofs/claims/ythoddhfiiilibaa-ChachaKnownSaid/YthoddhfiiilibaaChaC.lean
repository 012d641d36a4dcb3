import Derived.Test.YthoddhfiiilibaaChaB
set_option linter.unusedSimpArgs false
set_option linter.unusedVariables false
namespace Go.Proofs.Ythoddhfiiilibaa
open Go Go.V Go.Cha
set_option maxRecDepth 100000

theorem wrap64 {n : Int} (h : -9223372036854775808 ≤ n) (h2 : n ≤ 9223372036854775807) : IntKind.i64.wrap n = n := by
  have := IntKind.wrap_i64 n
  rw [this]; omega

theorem block_c (key nonce : List UInt8) (c : UInt32) : HCall Try.E 10 [.b8 32 key, .u32 c, .b8 12 nonce] (.ret (.b8 64 (blockS key c nonce)) []) := by
  refine HCall.of_walk (R := RS) (T := T1) (fun f l => bif f == 10 && l == 14 then .inv Nat (fun n => n ≤ 10) (fun n => 10 - n) (blockT key nonce c) (blockH key nonce c) else .unroll 17) 5 rfl rfl ?_
  rw [block_w]
  refine ⟨⟨0, Nat.zero_le _, ?_⟩, fun a ha => ?_⟩
  · exact ⟨rfl, rfl, rfl, rfl, rfl, rfl, rfl, rfl, rfl, trivial⟩
  rcases Nat.lt_or_ge a 10 with h | h
  · rw [decide_eq_true (show (a : Int) < 10 by omega)]
    refine ⟨a + 1, ⟨by omega, h⟩, rfl, rfl, rfl, ?_, rfl, rfl, rfl, rfl, rfl, trivial⟩
    rw [wrap64 (by omega) (by omega)]; rfl
  · obtain rfl : a = 10 := by omega
    rw [decide_eq_false (show ¬ ((10 : Nat) : Int) < 10 by decide), blockS_eq]
    exact ⟨rfl, rfl⟩

noncomputable def T2 : Ctr Try.E := T1.add 10 (fun
    | [.b8 32 key, .u32 c, .b8 12 nonce] => some (true, .ret (.b8 64 (blockS key c nonce)) [])
    | _ => none) (by
      intro args pre out h hp
      split at h
      · simp only [Option.some.injEq, Prod.mk.injEq] at h
        obtain ⟨rfl, rfl⟩ := h
        exact block_c _ _ _
      · simp at h)
end Go.Proofs.Ythoddhfiiilibaa
