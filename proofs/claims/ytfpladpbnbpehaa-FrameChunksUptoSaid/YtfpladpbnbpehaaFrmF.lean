import Derived.Test.YtfpladpbnbpehaaGFrmE
import Derived.Test.YtfpladpbnbpehaaFrmL
set_option linter.unusedSimpArgs false
set_option linter.unusedVariables false
namespace Go.Proofs.Ytfpladpbnbpehaa
open Go Go.V Go.Frm
set_option maxRecDepth 100000
theorem fsame_c (fa fb : Bool) (A B : List Fr) (hA : A.length ≤ 1000000000) : HCall Try.E 14 [.vecr fa 3 A.length (frs A), .vecr fb 3 B.length (frs B)] (.ret (.bool (decide (A = B))) []) := by
  refine HCall.of_walk (R := R0) (T := F2) (fun _ _ => sameL A B) 5 rfl rfl ?_
  rw [fsame_eq]
  dsimp only
  have hfa : (fa || !fa) = true := by cases fa <;> rfl
  have hfb : (fb || !fb) = true := by cases fb <;> rfl
  rw [hfa, hfb]
  have ra : ∀ x, x < A.length → leR (frs A x) (frs A x) := fun x _ => frs_leR A x
  have rb : ∀ x, x < B.length → leR (frs B x) (frs B x) := fun x _ => frs_leR B x
  rw [ite2_eq]
  refine ⟨fun h => ⟨?_, rfl⟩, fun h => ?_⟩
  · have hne : A.length ≠ B.length := by
      have : (A.length : Int) ≠ B.length := by simpa using h
      omega
    rw [decide_eq_false (fun e => hne (by rw [e]))]
  have hlen : A.length = B.length := by
    have : (A.length : Int) = B.length := by simpa using h
    omega
  refine ⟨⟨0, ⟨by rw [Inv.upTo_int]; omega, fun j hj => by omega⟩, ?_⟩, fun i hi => ?_⟩
  · repeat' apply And.intro
    all_goals first | rfl | trivial | exact ra | exact rb
  obtain ⟨hi, hsame⟩ := hi
  rw [Inv.upTo_int] at hi
  rcases Nat.lt_or_ge i A.length with hlt | hge
  · rw [ltI_of (by omega), inB_of (by omega) (by omega), inB_of (by omega) (by omega), Int.toNat_natCast]
    have hdif : A.getD i fr0 ≠ B.getD i fr0 → AV.bool false = AV.bool (decide (A = B)) := fun hne => by
      rw [decide_eq_false (fun e => hne (by rw [e]))]
    simp only [ite2_eq, cnd_eq, Bool.and_true, cond_true, cond_false, bne_iff_ne, ne_eq, bne_eq_false_iff_eq, true_and, Bool.cond_true_right, Bool.cond_false_left, Bool.not_false, Bool.true_and]
    refine ⟨fun _ => ⟨fun h1 => ⟨hdif fun e => h1 (by rw [e]), rfl⟩, fun h1 => ⟨fun h2 => ⟨hdif fun e => h2 (by rw [e]), rfl⟩, fun h2 => ⟨fun h3 => ⟨hdif fun e => h3 (by rw [e]), rfl⟩, fun h3 => ?_⟩⟩⟩, fun h => by cases h⟩
    have heq : A.getD i fr0 = B.getD i fr0 := by
      cases h : A.getD i fr0; cases h' : B.getD i fr0
      rw [h, h'] at h1 h2 h3
      simp_all
    refine ⟨i + 1, ⟨Inv.up_lt (by omega), by rw [Inv.upTo_int]; omega, fun j hj => ?_⟩, ?_⟩
    · rcases Nat.lt_or_ge j i with h | h
      · exact hsame j h
      · obtain rfl : j = i := by omega
        exact heq
    · have hw2 : wr .i64 ((i : Int) + 1) = ((i + 1 : Nat) : Int) := by rw [wr_of (by omega) (by omega)]; rfl
      rw [hw2]
      repeat' apply And.intro
      all_goals first | rfl | trivial | exact ra | exact rb
  · rw [ltI_no (by omega)]
    have : A = B := by
      apply List.ext_getElem hlen
      intro j h1 h2
      have := hsame j (by omega)
      rw [List.getD_eq_getElem?_getD, List.getD_eq_getElem?_getD, List.getElem?_eq_getElem h1, List.getElem?_eq_getElem h2] at this
      exact this
    rw [decide_eq_true this]
    exact ⟨rfl, rfl⟩
noncomputable def F3 : Ctr Try.E := F2.add 14 (fun
    | [.vecr _ 3 n f, .vecr _ 3 m g] => some (isFrs n f && isFrs m g, .ret (.bool (decide (frsOf n f = frsOf m g))) [])
    | _ => none) (by
      intro args pre out h hp
      split at h
      · simp only [Option.some.injEq, Prod.mk.injEq] at h
        obtain ⟨rfl, rfl⟩ := h
        simp only [Bool.and_eq_true] at hp
        obtain ⟨hn, A, rfl, hA⟩ := isFrs_iff.1 hp.1
        obtain ⟨_, B, rfl, hB⟩ := isFrs_iff.1 hp.2
        rw [frsOf_eq A rfl hA, frsOf_eq B rfl hB]
        have := fsame_c false false A B hn
        refine HCall.args this rfl fun ρ I w vs r => ?_
        obtain ⟨x, xs, rfl, k1, k2⟩ := RV_cons.1 r
        obtain ⟨y, ys, rfl, k3, k4⟩ := RV_cons.1 k2
        exact RV_cons.2 ⟨x, _, rfl, leV_vecr (by simp) (fun i hi => leR.of_eq (frs_leR A i).ok (hA i hi)) _ _ _ _ k1, RV_cons.2 ⟨y, ys, rfl, leV_vecr (by simp) (fun i hi => leR.of_eq (frs_leR B i).ok (hB i hi)) _ _ _ _ k3, k4⟩⟩
      · simp at h)
/-- The loop of FrameBack: what was encoded so far. -/
noncomputable def backL (F : List Fr) : LPlan := .mv [0, 1, 5, 20, 21] [21] Nat Inv.upTo Inv.up (fun s => [s.t.getD 6 .any]) (fun n i => [(22, .int .i64 ((i : Nat) : Int)), (6, .sl n 0 1 (encs F i).length)]) (fun _ _ => []) (fun i => [.grow8 (encs F i) []])
end Go.Proofs.Ytfpladpbnbpehaa
