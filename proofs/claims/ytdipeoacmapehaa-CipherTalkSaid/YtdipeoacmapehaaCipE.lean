import Derived.Test.YtdipeoacmapehaaGCipE
set_option linter.unusedSimpArgs false
set_option linter.unusedVariables false
namespace Go.Proofs.Ytdipeoacmapehaa
open Go Go.V Go.Fld Go.Pol Go.Cha
set_option maxRecDepth 100000
theorem scut_c (s : List UInt8) (m : Int) (hm : 0 ≤ m) : HCall Try.E 10 [.str s, .int .i64 m] (.ret (.str (s.take m.toNat)) []) := by
  refine HCall.of_walk (R := RS) (T := C2) (fun _ _ => .unroll 17) 5 rfl rfl ?_
  rw [scut_eq]
  dsimp only
  rw [ccutOk _ _ hm, ccutL _ _ hm]
  exact ⟨rfl, rfl⟩
theorem ssome_c (full : Bool) (n : Nat) (f : Nat → List AV) (m : Int) (hm : 0 ≤ m) : HCall Try.E 9 [.vecr full 4 n f, .int .i64 m] (.ret (.vecr false 4 (min n m.toNat) f) []) := by
  refine HCall.of_walk (R := RS) (T := C2) (fun _ _ => .unroll 17) 5 rfl rfl ?_
  rw [ssome_eq]
  dsimp only
  have e1 : sliceOk none (some (cond false (max (n : Int) m) (min (n : Int) m))) n = true := by
    have := ccutOk (List.replicate n ()) m hm
    rwa [List.length_replicate] at this
  have e2 : hiN n (some (cond false (max (n : Int) m) (min (n : Int) m))) - 0 = min n m.toNat := by
    show Int.toNat _ - 0 = _
    rw [cond_false]; omega
  have e3 : (fun i => f (loN none + i)) = f := by
    funext i
    show f (0 + i) = f i
    rw [Nat.zero_add]
  rw [e1, e2, e3, Bool.and_false]
  exact ⟨rfl, rfl⟩
noncomputable def C3 : Ctr Try.E := (C2.add 10 (fun
    | [.str s, .int .i64 m] => some (nnB m, .ret (.str (s.take m.toNat)) [])
    | _ => none) (by
      intro args pre out h hp
      split at h
      · simp only [Option.some.injEq, Prod.mk.injEq] at h
        obtain ⟨rfl, rfl⟩ := h
        exact scut_c _ _ (nnB_iff.1 hp)
      · simp at h)).add 9 (fun
    | [.vecr _ 4 n f, .int .i64 m] => some (nnB m, .ret (.vecr false 4 (min n m.toNat) f) [])
    | _ => none) (by
      intro args pre out h hp
      split at h
      · simp only [Option.some.injEq, Prod.mk.injEq] at h
        obtain ⟨rfl, rfl⟩ := h
        exact ssome_c _ _ _ _ (nnB_iff.1 hp)
      · simp at h)
/-- The talk's loop: both ciphers are the same one. -/
noncomputable def talkL : LPlan := .rel [3, 7, 8, 34, 35] [35] (Nat × List UInt8 × UInt64) (fun g x => Inv.upTo g x.1 ∧ x.2.2.toNat < 1000 + x.1) (fun x => Inv.up x.1) (fun x => [(36, .int .i64 ((x.1 : Nat) : Int))])
  (fun x => [(1, .blk [.bool true, .b8 32 x.2.1, .u64 x.2.2] []), (2, .blk [.bool true, .b8 32 x.2.1, .u64 x.2.2] [])])
end Go.Proofs.Ytdipeoacmapehaa
