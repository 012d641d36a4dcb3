import Derived.Test.YtdipeoacmapehaaGCipF
import Derived.Test.YtdipeoacmapehaaSeaL
set_option linter.unusedSimpArgs false
set_option linter.unusedVariables false
namespace Go.Proofs.Ytdipeoacmapehaa
open Go Go.V Go.Fld Go.Pol Go.Cha
set_option maxRecDepth 100000

theorem maxB_no {m : UInt64} (h : m.toNat < 2000) : maxB m = false := by
  unfold maxB
  rw [beq_eq_false_iff_ne]; omega
theorem cipherTalk_c (x0 : List UInt8) (x1 : List Raw3) (_n1 : x1.length ≤ maxLen ∧ ∀ r ∈ x1, r.ok) (x2 : Int) (_n2 : -9223372036854775808 ≤ x2 ∧ x2 ≤ 9223372036854775807) :
    HCall Try.E 4 [.b8 32 x0, .vecr false 4 x1.length (rawsF x1), .int .i64 x2] (.ret (.bool true) []) := by
  refine HCall.of_walk (R := RS) (T := C3) (fun f _ => bif f == 4 then talkL else .unroll 17) 5 rfl rfl ?_
  rw [ctalk_eq]
  dsimp only
  refine ⟨⟨(0, x0, UInt64.ofNat (Int.toNat ((x2 % 1000) % 18446744073709551616))), ⟨by rw [Inv.upTo_int]; omega, ?_⟩, ?_⟩, fun w hw => ?_⟩
  · show (UInt64.ofNat _).toNat < 1000 + 0
    rw [UInt64.toNat_ofNat']; omega
  · exact ⟨rfl, rfl, rfl, rfl, rfl, rfl, rfl, rfl, rfl, rfl, trivial⟩
  obtain ⟨i, key, m⟩ := w
  obtain ⟨h1, h2⟩ := hw
  rw [Inv.upTo_int] at h1
  dsimp only at h1 h2 ⊢
  have hi8 : i ≤ 8 := by omega
  rw [maxB_no (by omega)]
  rcases Nat.lt_or_ge i (min x1.length 8) with hi | hi
  · rw [ltI_of (by omega)]
    generalize hr : x1.getD (Int.toNat ((i : Nat) : Int)) raw0 = r
    rw [ccutOk _ _ (by decide), ccutL _ _ (by decide), show Int.toNat 50 = 50 from rfl]
    have la : (r.text.take 5).length ≤ 5 := by rw [List.length_take]; omega
    have lt : (r.text.take 50).length ≤ 50 := by rw [List.length_take]; omega
    generalize r.text.take 5 = ad at *
    generalize r.text.take 50 = t at *
    rw [take_all8, take_all8]
    have hl := length_sealS key (cnonceS m) ad t
    have hb := bad_seal key (cnonceS m) ad t
    have hp := plain_seal key (cnonceS m) ad t
    generalize sealS key (cnonceS m) ad t = s at *
    rw [take_n (l := s) hl.symm, hb, hp, hl, show t.length + 16 - 16 = t.length by omega, take_all8]
    simp only [beq_self_eq_true, bne_self_eq_false]
    rw [inB_of (by omega) (by omega), leB_of (a := 0 + ad.length) (by omega), leB_of (a := 0 + t.length) (by omega), leB_of (a := 0 + (t.length + 16)) (by omega), leB_of (a := t.length + 16) (by omega), ltB_no (a := 200) (by omega), ltB_no (a := 800) (by omega), ltB_no (a := 816) (by omega), ltB_no (a := t.length + 16) (by omega)]
    have hn : (m + 1).toNat < 1000 + (i + 1) := by rw [UInt64.toNat_add, show (1 : UInt64).toNat = 1 from rfl]; omega
    have hw2 : wr .i64 ((i : Int) + 1) = ((i + 1 : Nat) : Int) := by rw [wr_of (by omega) (by omega)]; rfl
    rw [hw2]
    cases hk : (r.kind % 4 == 0) with
    | true =>
      refine ⟨(i + 1, rekeyS key, m + 1), ⟨Inv.up_lt (by omega), by rw [Inv.upTo_int]; omega, hn⟩, ?_⟩
      repeat' apply And.intro
      all_goals first | rfl | trivial
    | false =>
      refine ⟨(i + 1, key, m + 1), ⟨Inv.up_lt (by omega), by rw [Inv.upTo_int]; omega, hn⟩, ?_⟩
      repeat' apply And.intro
      all_goals first | rfl | trivial
  · rw [ltI_no (by omega)]
    exact ⟨rfl, rfl⟩
end Go.Proofs.Ytdipeoacmapehaa
