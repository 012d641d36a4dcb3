import Derived.Test.YtdipeoacmapehaaDoorBlaB
import Derived.Test.YtdipeoacmapehaaDoorNums
set_option linter.unusedSimpArgs false
set_option linter.unusedVariables false
namespace Go.Proofs.YtdipeoacmapehaaDoor
open Go Go.V Go.Cha Go.Bla
set_option maxRecDepth 100000

theorem le_sqT (h : List UInt32) (held : List UInt8) (n len : Int) (last : Bool) (k : Int) (m : List UInt32) : leS 3 ⟨sqT h held n len last k, sqH h held n len m⟩ (sqT h held n len last k) (sqH h held n len m) :=
  ⟨rfl, rfl, rfl, rfl, rfl, rfl, rfl, rfl, rfl, trivial⟩
theorem le_sqU (h : List UInt32) (held : List UInt8) (n len : Int) (last : Bool) (k : Int) (m v : List UInt32) : leS 4 ⟨sqU h held n len last k, sqI h held n len m v⟩ (sqU h held n len last k) (sqI h held n len m v) :=
  ⟨rfl, rfl, rfl, rfl, rfl, rfl, rfl, rfl, rfl, rfl, rfl, rfl, trivial⟩

theorem word_steps (held : List UInt8) (a : Nat) (ha : a < 16) : wordT held a 0 a (wordT held a 1 a (wordT held a 2 a (wordT held a 3 a (wordsB held a)))) = wordsB held (a + 1) := by
  have hl := length_wordsB held a
  have h0 := words_get held (Nat.le_refl a)
  have ix : ∀ k : Nat, k ≤ 3 → Int.toNat (wr .i64 (wr .i64 (4 * (a : Int)) + (k : Int))) = 4 * a + k := fun k hk => by
    rw [wr_of (z := 4 * (a : Int)) (by omega) (by omega), wr_of (by omega) (by omega)]; omega
  rw [← words_succ]
  unfold wordT wordB
  rw [h0, show (3 : Int) = ((3 : Nat) : Int) from rfl, show (2 : Int) = ((2 : Nat) : Int) from rfl, show (1 : Int) = ((1 : Nat) : Int) from rfl, show (0 : Int) = ((0 : Nat) : Int) from rfl, ix 3 (by decide), ix 2 (by decide), ix 1 (by decide), ix 0 (by decide)]
  rw [getD_set_same (by first | (simp only [List.length_set]; omega) | omega), List.set_set, getD_set_same (by first | (simp only [List.length_set]; omega) | omega), List.set_set, getD_set_same (by first | (simp only [List.length_set]; omega) | omega), List.set_set]
  rfl
theorem wordC_ok {a k : Nat} (ha : a < 16) (hk : k ≤ 3) : wordC a k = true := by
  unfold wordC
  rw [wr_of (z := 4 * (a : Int)) (by omega) (by omega), wr_of (by omega) (by omega)]
  exact inB_of (by omega) (by omega)

theorem sq_law (h : List UInt32) (held : List UInt8) (n len : Int) (last : Bool) :
    ((∃ a : Nat, a ≤ 16 ∧ leS 3 ⟨sqT h held n len last 0, sqH h held n len [0, 0, 0, 0, 0, 0, 0, 0, 0, 0, 0, 0, 0, 0, 0, 0]⟩ (sqT h held n len last (a : Int)) (sqH h held n len (wordsB held a))) ∧
     (∀ a : Nat, a < 16 → (∃ b : Nat, (16 - b < 16 - a ∧ b ≤ 16) ∧ leS 3 ⟨sqT h held n len last (wr .i64 ((a : Int) + 1)), sqH h held n len (wordT held a 0 a (wordT held a 1 a (wordT held a 2 a (wordT held a 3 a (wordsB held a)))))⟩ (sqT h held n len last (b : Int)) (sqH h held n len (wordsB held b)))) ∧
     (∀ m v : List UInt32, ∃ r : Nat, r ≤ 10 ∧ leS 4 ⟨sqU h held n len last 0, sqI h held n len m v⟩ (sqU h held n len last (r : Int)) (sqI h held n len m (roundsB m v r))) ∧
     (∀ (m v : List UInt32) (r : Nat), r < 10 → (∃ b : Nat, (10 - b < 10 - r ∧ b ≤ 10) ∧ leS 4 ⟨sqU h held n len last (wr .i64 ((r : Int) + 1)), sqI h held n len m (roundB m r (roundsB m v r))⟩ (sqU h held n len last (b : Int)) (sqI h held n len m (roundsB m v b))))) := by
  refine ⟨⟨0, by omega, ?_⟩, fun a ha => ⟨a + 1, ⟨by omega, by omega⟩, ?_⟩, fun m v => ⟨0, by omega, ?_⟩, fun m v r hr => ⟨r + 1, ⟨by omega, by omega⟩, ?_⟩⟩
  · rw [words_zero]; exact le_sqT ..
  · rw [word_steps held a ha, wr_of (by omega) (by omega)]; exact le_sqT ..
  · rw [Bla.rounds_zero]; exact le_sqU ..
  · rw [Bla.rounds_succ, wr_of (by omega) (by omega)]; exact le_sqU ..

theorem sq_go (h : List UInt32) (held : List UInt8) (n len : Int) (last : Bool) : ∀ K : AV → Heap → Prop, K (.w32 8 (squeezeS h held len last)) [] → sqP h held n len last K := by
  obtain ⟨p1, p2, p3, p4⟩ := sq_law h held n len last
  intro K hK
  refine ⟨p1, fun a ha => ?_⟩
  rcases Nat.lt_or_ge a 16 with h1 | h1
  · rw [ltI_of (by omega), inB_of (by omega) (by omega), show wordC a 3 = true from wordC_ok (k := 3) h1 (by decide), show wordC a 2 = true from wordC_ok (k := 2) h1 (by decide), show wordC a 1 = true from wordC_ok (k := 1) h1 (by decide), show wordC a 0 = true from wordC_ok (k := 0) h1 (by decide)]
    exact p2 a h1
  · obtain rfl : a = 16 := by omega
    rw [ltI_no (by omega)]
    refine ⟨p3 _ _, fun r hr => ?_⟩
    rcases Nat.lt_or_ge r 10 with h2 | h2
    · rw [ltI_of (by omega), inB_of (by omega) (by omega)]
      have c := fun i hi => cB_ok (i := i) h2 hi
      rw [c 0 (by decide), c 1 (by decide), c 2 (by decide), c 3 (by decide), c 4 (by decide), c 5 (by decide), c 6 (by decide), c 7 (by decide), c 8 (by decide), c 9 (by decide), c 10 (by decide), c 11 (by decide), c 12 (by decide), c 13 (by decide), c 14 (by decide), c 15 (by decide)]
      exact p4 _ _ r h2
    · obtain rfl : r = 10 := by omega
      rw [ltI_no (by omega)]
      rw [squeezeS_eq] at hK
      unfold squeezeF at hK
      rw [← wordsB_eq, ← roundsB_eq] at hK
      exact ite2_iff.2 ⟨fun h => Bool.noConfusion h, fun _ => hK⟩
theorem squeeze_cT (h : List UInt32) (held : List UInt8) (n len : Int) : HCall Tryd.E 22 [.agg [.w32 8 h, .b8 64 held, .int .i64 n, .int .i64 len], .bool true] (.ret (.w32 8 (squeezeS h held len true)) []) := by
  refine HCall.of_walk (R := RS) (T := T1) (squeezeL held (startB h len true)) 5 rfl rfl ?_
  exact Eq.mpr (squeezeT_w h held n len _) (sq_go h held n len true _ has_refl)
theorem squeeze_cF (h : List UInt32) (held : List UInt8) (n len : Int) : HCall Tryd.E 22 [.agg [.w32 8 h, .b8 64 held, .int .i64 n, .int .i64 len], .bool false] (.ret (.w32 8 (squeezeS h held len false)) []) := by
  refine HCall.of_walk (R := RS) (T := T1) (squeezeL held (startB h len false)) 5 rfl rfl ?_
  exact Eq.mpr (squeezeF_w h held n len _) (sq_go h held n len false _ has_refl)
theorem squeeze_c (h : List UInt32) (held : List UInt8) (n len : Int) : ∀ last : Bool, HCall Tryd.E 22 [.agg [.w32 8 h, .b8 64 held, .int .i64 n, .int .i64 len], .bool last] (.ret (.w32 8 (squeezeS h held len last)) [])
  | true => squeeze_cT h held n len
  | false => squeeze_cF h held n len
noncomputable def B1 : Ctr Tryd.E := T1.add 22 (fun
    | [.agg [.w32 8 h, .b8 64 held, .int .i64 _, .int .i64 len], .bool last] => some (true, .ret (.w32 8 (squeezeS h held len last)) [])
    | _ => none) (by
      intro args pre out h hp
      split at h
      · simp only [Option.some.injEq, Prod.mk.injEq] at h
        obtain ⟨rfl, rfl⟩ := h
        exact squeeze_c ..
      · simp at h)
end Go.Proofs.YtdipeoacmapehaaDoor
