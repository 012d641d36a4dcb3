import Derived.Test.YtdipeoacmapehaaGSeaA
import Derived.Test.YtdipeoacmapehaaStr
set_option linter.unusedSimpArgs false
set_option linter.unusedVariables false
namespace Go.Proofs.Ytdipeoacmapehaa
open Go Go.V Go.Fld Go.Pol Go.Cha
set_option maxRecDepth 100000

noncomputable def eightF (n : Int) : List UInt8 := List.set (List.set (List.set (List.set (List.set (List.set (List.set (List.set (List.replicate 8 0) 0 (UInt8.ofNat (Int.toNat ((Int.fdiv n 1) % 256)))) 1 (UInt8.ofNat (Int.toNat ((Int.fdiv n 256) % 256)))) 2 (UInt8.ofNat (Int.toNat ((Int.fdiv n 65536) % 256)))) 3 (UInt8.ofNat (Int.toNat ((Int.fdiv n 16777216) % 256)))) 4 (UInt8.ofNat (Int.toNat ((Int.fdiv n 4294967296) % 256)))) 5 (UInt8.ofNat (Int.toNat ((Int.fdiv n 1099511627776) % 256)))) 6 (UInt8.ofNat (Int.toNat ((Int.fdiv n 281474976710656) % 256)))) 7 (UInt8.ofNat (Int.toNat ((Int.fdiv n 72057594037927936) % 256)))
noncomputable def eightS : Int → List UInt8 := (sealed eightF).val
theorem eightS_eq (n : Int) : eightS n = eightF n := by rw [eightS, (sealed eightF).property]
theorem length_eightS (n : Int) : (eightS n).length = 8 := by rw [eightS_eq]; rfl
theorem eight_c (n : Int) : HCall Try.E 22 [.int .i64 n] (.ret (.sl 0 0 1 8) [.grow8 (eightS n) []]) := by
  refine HCall.of_walk (R := RS) (T := P5) (fun _ _ => .unroll 17) 5 rfl rfl ?_
  rw [eight_eq, eightS_eq]
  exact ⟨rfl, rfl⟩
/-- How many noughts come behind. -/
def padN (n : Nat) : Nat := (16 - n % 16) % 16
def padF (b : List UInt8) : List UInt8 := b ++ List.replicate (padN b.length) 0
noncomputable def padS : List UInt8 → List UInt8 := (sealed padF).val
theorem padS_eq (b : List UInt8) : padS b = padF b := by rw [padS, (sealed padF).property]
theorem length_padS (b : List UInt8) : (padS b).length = b.length + padN b.length := by rw [padS_eq]; simp [padF]
/-- Nothing is to come behind, and there is something. -/
def fullF (b : List UInt8) : Bool := !b.isEmpty && padN b.length == 0
noncomputable def fullS : List UInt8 → Bool := (sealed fullF).val
theorem fullS_eq (b : List UInt8) : fullS b = fullF b := by rw [fullS, (sealed fullF).property]
theorem and15 (n : Nat) (h : n ≤ 1000000000) : bits .and .i64 (wr .i64 (subI 0 (n : Int))) 15 = (padN n : Int) := by
  rw [subI_eq, wr_of (by omega) (by omega)]
  have h1 : (BitVec.ofInt 64 (0 - (n : Int))).toNat = ((0 - (n : Int)) % 18446744073709551616).toNat := by
    rw [BitVec.toNat_ofInt]; rfl
  have h2 : (BitVec.ofInt 64 15).toNat = 15 := by decide
  have h3 : ∀ x : Nat, x &&& 15 = x % 16 := fun x => Nat.and_two_pow_sub_one_eq_mod x 4
  show IntKind.i64.wrap ((BitVec.ofInt 64 (0 - (n : Int)) &&& BitVec.ofInt 64 15).toNat : Int) = _
  rw [BitVec.toNat_and, h1, h2, h3]
  unfold padN
  rw [IntKind.wrap_i64]
  omega
theorem sliceAll (b : List UInt8) : sliceL none (some ((b.length : Nat) : Int)) b = b := by
  show b.take (Int.toNat _) = _
  rw [Int.toNat_natCast, List.take_length]
theorem sliceAllOk (b : List UInt8) : sliceOk none (some ((b.length : Nat) : Int)) b.length = true := by
  show (nnB _ && leB (Int.toNat _) _) = true
  rw [nnB_iff.2 (by omega), Int.toNat_natCast, leB_of (Nat.le_refl _)]; rfl
noncomputable def paddedO (b : List UInt8) : Out := .alt (fullS b) (.ret (.vec8 true b) []) (.ret (.sl 0 0 1 (padS b).length) [.grow8 (padS b) []])
theorem padded_c (b : List UInt8) (full : Bool) (h : b.length ≤ 1000000) : HCall Try.E 20 [.vec8 full b] (paddedO b) := by
  refine HCall.of_walk (R := RS) (T := P5) (fun _ _ => .unroll 17) 5 rfl rfl ?_
  rw [padded_eq]
  dsimp only
  have hp : padN b.length < 16 := by unfold padN; omega
  rw [and15 _ (by omega), sliceAll, sliceAllOk, beq_self_eq_true, Int.toNat_natCast, nnB_iff.2 (by omega : (0 : Int) ≤ (padN b.length : Int)), List.length_replicate, Nat.mul_one, Nat.mul_one, leB_of (by omega), leB_of (by omega)]
  unfold paddedO
  rw [fullS_eq, padS_eq]
  unfold fullF padF
  rw [List.length_append, List.length_replicate]
  show ite2 _ _ _
  cases b with
  | nil => exact ⟨rfl, rfl⟩
  | cons x l =>
    show ite2 _ _ _
    by_cases e : padN (x :: l).length = 0
    · rw [e]; exact ⟨rfl, rfl⟩
    · have e1 : (padN (x :: l).length == 0) = false := beq_eq_false_iff_ne.2 e
      have e2 : (List.replicate (padN (x :: l).length) (0 : UInt8)).isEmpty = false := by
        cases hq : padN (x :: l).length with
        | zero => exact absurd hq e
        | succ n => rfl
      rw [e1, e2]
      exact ⟨rfl, rfl⟩
/-- Seal's callees: blocks, streams, tags. -/
noncomputable def S0 : Ctr Try.E := ⟨fun f args => match T4p.C f args with
    | some r => some r
    | none => P5.C f args, by
  intro f args pre out h hp
  split at h
  · rename_i r hr
    simp only [Option.some.injEq] at h
    subst h
    exact T4p.ok _ _ _ _ hr hp
  · exact P5.ok _ _ _ _ h hp⟩
noncomputable def S1 : Ctr Try.E := (S0.add 20 (fun
    | [.vec8 _ b] => some (leB b.length 1000000, paddedO b)
    | _ => none) (by
      intro args pre out h hp
      split at h
      · simp only [Option.some.injEq, Prod.mk.injEq] at h
        obtain ⟨rfl, rfl⟩ := h
        exact padded_c _ _ (leB_iff.1 hp)
      · simp at h)).add 22 (fun
    | [.int .i64 n] => some (true, .ret (.sl 0 0 1 8) [.grow8 (eightS n) []])
    | _ => none) (by
      intro args pre out h hp
      split at h
      · simp only [Option.some.injEq, Prod.mk.injEq] at h
        obtain ⟨rfl, rfl⟩ := h
        exact eight_c _
      · simp at h)
end Go.Proofs.Ytdipeoacmapehaa
