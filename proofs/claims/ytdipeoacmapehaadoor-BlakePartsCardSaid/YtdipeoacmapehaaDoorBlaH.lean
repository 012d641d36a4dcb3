import Derived.Test.YtdipeoacmapehaaDoorGBlaF
set_option linter.unusedSimpArgs false
set_option linter.unusedVariables false
namespace Go.Proofs.YtdipeoacmapehaaDoor
open Go Go.V Go.Cha Go.Bla
set_option maxRecDepth 100000
theorem bsO_start (b : List UInt8) : bsO startS.h startS.held ((startS.n : Nat) : Int) ((startS.len : Nat) : Int) b = addB startS b := rfl
theorem bs_eta (s : BS) : BS.mk s.h s.held (Int.toNat ((s.n : Nat) : Int)) (Int.toNat ((s.len : Nat) : Int)) = s := rfl
theorem bsum_c (full : Bool) (b : List UInt8) (h : b.length ≤ 1073741824) : HCall Tryd.E 11 [.vec8 full b] (.ret (.b8 32 (sumS b)) []) := by
  refine HCall.of_walk (R := RS) (T := B3) (fun _ _ => .unroll 5) 5 rfl rfl ?_
  rw [bsum_eq]
  obtain ⟨o, _⟩ := addB_ok (b := b) startS_ok (by show 0 + b.length ≤ _; omega)
  dsimp only
  rw [bsO_start, bs_eta, show okS startS.held 0 0 = true from startS_ok.s, o.s, leB_of (by omega), sumS_eq]
  exact ⟨rfl, rfl⟩
noncomputable def B4 : Ctr Tryd.E := (B3.add 11 (fun
    | [.vec8 _ b] => some (leB b.length 1073741824, .ret (.b8 32 (sumS b)) [])
    | _ => none) (by
      intro args pre out h hp
      split at h
      · simp only [Option.some.injEq, Prod.mk.injEq] at h
        obtain ⟨rfl, rfl⟩ := h
        exact bsum_c _ _ (leB_iff.1 hp)
      · simp at h)).add 6 (fun
    | [.int .i64 n, .int .i64 m] => some (decide (0 < m) && decide (m ≤ 9223372036854775807), .ret (.int .i64 (n % m)) [])
    | _ => none) (by
      intro args pre out h hp
      split at h
      · simp only [Option.some.injEq, Prod.mk.injEq] at h
        obtain ⟨rfl, rfl⟩ := h
        simp only [Bool.and_eq_true, decide_eq_true_eq] at hp
        exact picked_c _ _ hp.1 hp.2
      · simp at h)
end Go.Proofs.YtdipeoacmapehaaDoor
