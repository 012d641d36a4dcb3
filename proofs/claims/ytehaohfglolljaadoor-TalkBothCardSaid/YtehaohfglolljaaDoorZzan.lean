import Derived.Test.YtehaohfglolljaaDoorZzal
set_option linter.unusedSimpArgs false
set_option linter.unusedVariables false
namespace Go.Proofs.YtehaohfglolljaaDoor
open Go Go.V Go.Fld Go.Pol Go.Cha Go.Bla Go.Rat Go.Pin
set_option maxRecDepth 100000
set_option maxHeartbeats 4000000
theorem isKps_nil {r : Rt} (h : r.kept = []) : (leB r.kept.length 1000000000 && isKps r.kept.length (kcs r.kept)) = true := by
 rw [isKps_kcs, h]; rfl
theorem out_true {b : Bool} (h : b = true) : (Out.ret (.bool true) []).has (.bool b) [] := by subst h; exact ⟨rfl, rfl⟩
theorem talkBoth_c (root : Int) (_n0 : -9223372036854775808 ≤ root ∧ root ≤ 9223372036854775807) (a : Int) (_n1 : -9223372036854775808 ≤ a ∧ a ≤ 9223372036854775807) (b : Int) (_n2 : -9223372036854775808 ≤ b ∧ b ≤ 9223372036854775807) (l : List Raw3) (_hl : l.length ≤ maxLen ∧ ∀ r ∈ l, r.ok) :
  HCall Tryd.E 3 [.int .i64 root, .int .i64 a, .int .i64 b, .vecr false 4 l.length (rawsF l)] (.ret (.bool true) []) := by
 refine HCall.of_walk (R := RF) (T := W4) bothL 4 rfl rfl ?_
 rw [tboth_eq]
 dsimp only [iK, b8K, z8K, smK, q1K, q2K, nK, rvK, sO]
 refine ⟨⟨(0, xR root a b, yR root b), okB_iff.2 ⟨⟨by omega, by omega⟩, rfl, .inl (first_LF (length_keyS a) (length_keyS b) (olds_key a 0) (olds_key b 0))⟩, ?_⟩, fun w hw => ?_⟩
 ·(repeat' first | exact rfl | trivial | apply And.intro | (intro _ _; first | exact rfl | exact leR.refl rfl))
 obtain ⟨i, x, y⟩ := w
 obtain ⟨⟨hi1, hi2⟩, hx, hlf⟩ := okB_iff.1 hw
 dsimp only at hi1 hx hlf
 dsimp only
 refine ite2_iff.2 ⟨fun hlt => ?_, fun hlt => ?_⟩
 ·have hlt := (ltI_iff _ _).1 hlt
  have hi8 : i < 8 := by omega
  rw [inB_of (by omega) (by omega), Int.toNat_natCast]
  have hw1 : wr .i64 (((i : Nat) : Int) + 1) = ((i + 1 : Nat) : Int) := by rw [wr_of (by omega) (by omega)]; rfl
  rw [hw1]
  generalize l.getD i raw0 = r
  have hm := Int.emod_nonneg r.a (show (3 : Int) ≠ 0 by decide)
  have hm2 := Int.emod_lt_of_pos r.a (show (0 : Int) < 3 by decide)
  have hw2 : wr .i64 (1 + r.a % 3) = 1 + r.a % 3 := wr_of (by omega) (by omega)
  rw [hw2]
  generalize hc : 1 + r.a % 3 = c at *
  have hc1 : 1 ≤ c ∧ c ≤ 3 := by omega
  have nat0 : Int.toNat ((i : Nat) : Int) = i := Int.toNat_natCast i
  refine ite2_iff.2 ⟨fun b1 => ite2_iff.2 ⟨fun b2 => ?_, fun b2 => ?_⟩, fun b1 => ?_⟩
  ·have b2' : y.can = true := b2
   have hst : ((0 : Nat) = 0 ∧ LF (3 * (i : Int) + ((0 : Nat) : Int)) (oldsI i) y x) ∨ LF (3 * (i : Int) + ((0 : Nat) : Int)) (oldsI (i + 1)) x y := by
    rcases hlf with h | h
    ·exact .inr (h.mono (by omega) (olds_mono (Nat.le_succ i)))
    ·exact .inl ⟨rfl, h.mono (by omega) fun _ h => h⟩
   refine ⟨⟨(0, y, x), okC_iff.2 ⟨⟨by omega, by omega, hc1.1, hc1.2, by show (0 : Int) ≤ c; omega⟩, b2', by rw [nat0]; exact hst⟩, ?_⟩, fun w hw => ?_⟩
   ·(repeat' first | exact rfl | trivial | apply And.intro | (intro _ _; first | exact rfl | exact leR.refl rfl))
   obtain ⟨k, s, t⟩ := w
   obtain ⟨⟨_, _, _, _, hk⟩, hs, hst⟩ := okC_iff.1 hw
   rw [nat0] at hst
   dsimp only at hk hs hst
   dsimp only
   refine ite2_iff.2 ⟨fun hlt2 => ?_, fun hlt2 => ?_⟩
   ·have hlt2 := (ltI_iff _ _).1 hlt2
    have hw3 : wr .i64 (((k : Nat) : Int) + 1) = ((k + 1 : Nat) : Int) := by rw [wr_of (by omega) (by omega)]; rfl
    rw [hw3]
    have hk3 : k ≤ 3 := by omega
    obtain ⟨s', t', hd, cx, q1, q2, q3, q4, q5, q6, q7, q8, q9, q10, q11, q12⟩ := both_round hi8 hs hk3 hst (List.take 10 r.text ++ List.take 1 (List.drop 0 [UInt8.ofNat (Int.toNat (((k : Nat) : Int) % 256))])) (take10 _ _)
    generalize hS1 : sK _ _ _ = sl1
    have e1 : sl1 = (s', hd, cx, 0) := by rw [← hS1, sK_eq]; exact q1
    generalize hS2 : sK _ _ _ = sl2
    have e2 : sl2 = (s', hd, cx, 0) := by rw [← hS2, sK_eq]; exact q1
    clear hS1 hS2
    subst e1
    subst e2
    dsimp only
    generalize hO1 : oK _ _ _ _ _ _ _ = o1
    have e1 : o1 = (t', List.take 10 r.text ++ List.take 1 (List.drop 0 [UInt8.ofNat (Int.toNat (((k : Nat) : Int) % 256))]), 0) := by rw [← hO1, oK_eq]; exact q2
    generalize hO2 : oK _ _ _ _ _ _ _ = o2
    have e2 : o2 = (t', List.take 10 r.text ++ List.take 1 (List.drop 0 [UInt8.ofNat (Int.toNat (((k : Nat) : Int) % 256))]), 0) := by rw [← hO2, oK_eq]; exact q2
    clear hO1 hO2
    subst e1
    subst e2
    dsimp only
    refine body_ok ?_ ?_ ?_ rfl rfl ?_ (isKps_nil q11) ?_ (isKps_nil q12) ?_ ?_
    ·rw [ltB_iff, List.length_take]; omega
    ·rw [isKps_nil q7]; rfl
    ·rw [isKps_nil q8, leB_of (by omega), q6]; rfl
    ·exact bne_self_eq_false _
    ·rw [kps_rv, q9]; rfl
    ·rw [kps_rv, q10]; rfl
    ·refine ⟨(k + 1, s', t'), ⟨Inv.up_lt (by omega), okC_iff.2 ⟨⟨by omega, by omega, hc1.1, hc1.2, by show ((k + 1 : Nat) : Int) ≤ c; omega⟩, q4, .inr (by rw [nat0]; exact q3)⟩⟩, ?_⟩
     (repeat' first | exact rfl | trivial | apply And.intro | (intro _ _; first | exact rfl | exact leR.refl rfl))
   ·have hge : ¬ ((k : Nat) : Int) < c := ltI_ge hlt2
    have hl : LF (3 * (i : Int) + (k : Int)) (oldsI (i + 1)) t s := hst.resolve_left fun h => by omega
    refine ite2_iff.2 ⟨fun _ => ?_, fun h => ?_⟩
    ·refine ⟨(i + 1, t, s), ⟨Inv.up_lt (by omega), okB_iff.2 ⟨⟨by show ((i + 1 : Nat) : Int) ≤ _; omega, hi2⟩, hl.can, .inl (hl.mono (by show _ ≤ 3 * ((i + 1 : Nat) : Int); omega) fun _ h => h)⟩⟩, ?_⟩
     (repeat' first | exact rfl | trivial | apply And.intro | (intro _ _; first | exact rfl | exact leR.refl rfl))
    ·rw [b2'] at h; exact absurd h (by decide)
  ·have b2' : y.can = false := b2
   have hst : ((0 : Nat) = 0 ∧ LF (3 * (i : Int) + ((0 : Nat) : Int)) (oldsI i) x y) ∨ LF (3 * (i : Int) + ((0 : Nat) : Int)) (oldsI (i + 1)) y x := by
    rcases hlf with h | h
    ·exact .inl ⟨rfl, h.mono (by omega) fun _ h => h⟩
    ·exact .inr (h.mono (by omega) (olds_mono (Nat.le_succ i)))
   refine ⟨⟨(0, x, y), okC_iff.2 ⟨⟨by omega, by omega, hc1.1, hc1.2, by show (0 : Int) ≤ c; omega⟩, hx, by rw [nat0]; exact hst⟩, ?_⟩, fun w hw => ?_⟩
   ·(repeat' first | exact rfl | trivial | apply And.intro | (intro _ _; first | exact rfl | exact leR.refl rfl))
   obtain ⟨k, s, t⟩ := w
   obtain ⟨⟨_, _, _, _, hk⟩, hs, hst⟩ := okC_iff.1 hw
   rw [nat0] at hst
   dsimp only at hk hs hst
   dsimp only
   refine ite2_iff.2 ⟨fun hlt2 => ?_, fun hlt2 => ?_⟩
   ·have hlt2 := (ltI_iff _ _).1 hlt2
    have hw3 : wr .i64 (((k : Nat) : Int) + 1) = ((k + 1 : Nat) : Int) := by rw [wr_of (by omega) (by omega)]; rfl
    rw [hw3]
    have hk3 : k ≤ 3 := by omega
    obtain ⟨s', t', hd, cx, q1, q2, q3, q4, q5, q6, q7, q8, q9, q10, q11, q12⟩ := both_round hi8 hs hk3 hst (List.take 10 r.text ++ List.take 1 (List.drop 0 [UInt8.ofNat (Int.toNat (((k : Nat) : Int) % 256))])) (take10 _ _)
    generalize hS1 : sK _ _ _ = sl1
    have e1 : sl1 = (s', hd, cx, 0) := by rw [← hS1, sK_eq]; exact q1
    generalize hS2 : sK _ _ _ = sl2
    have e2 : sl2 = (s', hd, cx, 0) := by rw [← hS2, sK_eq]; exact q1
    clear hS1 hS2
    subst e1
    subst e2
    dsimp only
    generalize hO1 : oK _ _ _ _ _ _ _ = o1
    have e1 : o1 = (t', List.take 10 r.text ++ List.take 1 (List.drop 0 [UInt8.ofNat (Int.toNat (((k : Nat) : Int) % 256))]), 0) := by rw [← hO1, oK_eq]; exact q2
    generalize hO2 : oK _ _ _ _ _ _ _ = o2
    have e2 : o2 = (t', List.take 10 r.text ++ List.take 1 (List.drop 0 [UInt8.ofNat (Int.toNat (((k : Nat) : Int) % 256))]), 0) := by rw [← hO2, oK_eq]; exact q2
    clear hO1 hO2
    subst e1
    subst e2
    dsimp only
    refine body_ok ?_ ?_ ?_ rfl rfl ?_ (isKps_nil q11) ?_ (isKps_nil q12) ?_ ?_
    ·rw [ltB_iff, List.length_take]; omega
    ·rw [isKps_nil q7]; rfl
    ·rw [isKps_nil q8, leB_of (by omega), q6]; rfl
    ·exact bne_self_eq_false _
    ·rw [kps_rv, q9]; rfl
    ·rw [kps_rv, q10]; rfl
    ·refine ⟨(k + 1, s', t'), ⟨Inv.up_lt (by omega), okC_iff.2 ⟨⟨by omega, by omega, hc1.1, hc1.2, by show ((k + 1 : Nat) : Int) ≤ c; omega⟩, q4, .inr (by rw [nat0]; exact q3)⟩⟩, ?_⟩
     (repeat' first | exact rfl | trivial | apply And.intro | (intro _ _; first | exact rfl | exact leR.refl rfl))
   ·have hge : ¬ ((k : Nat) : Int) < c := ltI_ge hlt2
    have hl : LF (3 * (i : Int) + (k : Int)) (oldsI (i + 1)) t s := hst.resolve_left fun h => by omega
    refine ite2_iff.2 ⟨fun h => ?_, fun _ => ?_⟩
    ·rw [b2'] at h; exact absurd h (by decide)
    ·refine ⟨(i + 1, s, t), ⟨Inv.up_lt (by omega), okB_iff.2 ⟨⟨by show ((i + 1 : Nat) : Int) ≤ _; omega, hi2⟩, hs, .inr (hl.mono (by show _ ≤ 3 * ((i + 1 : Nat) : Int); omega) fun _ h => h)⟩⟩, ?_⟩
     (repeat' first | exact rfl | trivial | apply And.intro | (intro _ _; first | exact rfl | exact leR.refl rfl))
  ·have hst : ((0 : Nat) = 0 ∧ LF (3 * (i : Int) + ((0 : Nat) : Int)) (oldsI i) x y) ∨ LF (3 * (i : Int) + ((0 : Nat) : Int)) (oldsI (i + 1)) y x := by
    rcases hlf with h | h
    ·exact .inl ⟨rfl, h.mono (by omega) fun _ h => h⟩
    ·exact .inr (h.mono (by omega) (olds_mono (Nat.le_succ i)))
   refine ⟨⟨(0, x, y), okC_iff.2 ⟨⟨by omega, by omega, hc1.1, hc1.2, by show (0 : Int) ≤ c; omega⟩, hx, by rw [nat0]; exact hst⟩, ?_⟩, fun w hw => ?_⟩
   ·(repeat' first | exact rfl | trivial | apply And.intro | (intro _ _; first | exact rfl | exact leR.refl rfl))
   obtain ⟨k, s, t⟩ := w
   obtain ⟨⟨_, _, _, _, hk⟩, hs, hst⟩ := okC_iff.1 hw
   rw [nat0] at hst
   dsimp only at hk hs hst
   dsimp only
   refine ite2_iff.2 ⟨fun hlt2 => ?_, fun hlt2 => ?_⟩
   ·have hlt2 := (ltI_iff _ _).1 hlt2
    have hw3 : wr .i64 (((k : Nat) : Int) + 1) = ((k + 1 : Nat) : Int) := by rw [wr_of (by omega) (by omega)]; rfl
    rw [hw3]
    have hk3 : k ≤ 3 := by omega
    obtain ⟨s', t', hd, cx, q1, q2, q3, q4, q5, q6, q7, q8, q9, q10, q11, q12⟩ := both_round hi8 hs hk3 hst (List.take 10 r.text ++ List.take 1 (List.drop 0 [UInt8.ofNat (Int.toNat (((k : Nat) : Int) % 256))])) (take10 _ _)
    generalize hS1 : sK _ _ _ = sl1
    have e1 : sl1 = (s', hd, cx, 0) := by rw [← hS1, sK_eq]; exact q1
    generalize hS2 : sK _ _ _ = sl2
    have e2 : sl2 = (s', hd, cx, 0) := by rw [← hS2, sK_eq]; exact q1
    clear hS1 hS2
    subst e1
    subst e2
    dsimp only
    generalize hO1 : oK _ _ _ _ _ _ _ = o1
    have e1 : o1 = (t', List.take 10 r.text ++ List.take 1 (List.drop 0 [UInt8.ofNat (Int.toNat (((k : Nat) : Int) % 256))]), 0) := by rw [← hO1, oK_eq]; exact q2
    generalize hO2 : oK _ _ _ _ _ _ _ = o2
    have e2 : o2 = (t', List.take 10 r.text ++ List.take 1 (List.drop 0 [UInt8.ofNat (Int.toNat (((k : Nat) : Int) % 256))]), 0) := by rw [← hO2, oK_eq]; exact q2
    clear hO1 hO2
    subst e1
    subst e2
    dsimp only
    refine body_ok ?_ ?_ ?_ rfl rfl ?_ (isKps_nil q11) ?_ (isKps_nil q12) ?_ ?_
    ·rw [ltB_iff, List.length_take]; omega
    ·rw [isKps_nil q7]; rfl
    ·rw [isKps_nil q8, leB_of (by omega), q6]; rfl
    ·exact bne_self_eq_false _
    ·rw [kps_rv, q9]; rfl
    ·rw [kps_rv, q10]; rfl
    ·refine ⟨(k + 1, s', t'), ⟨Inv.up_lt (by omega), okC_iff.2 ⟨⟨by omega, by omega, hc1.1, hc1.2, by show ((k + 1 : Nat) : Int) ≤ c; omega⟩, q4, .inr (by rw [nat0]; exact q3)⟩⟩, ?_⟩
     (repeat' first | exact rfl | trivial | apply And.intro | (intro _ _; first | exact rfl | exact leR.refl rfl))
   ·have hge : ¬ ((k : Nat) : Int) < c := ltI_ge hlt2
    have hl : LF (3 * (i : Int) + (k : Int)) (oldsI (i + 1)) t s := hst.resolve_left fun h => by omega
    refine ⟨(i + 1, s, t), ⟨Inv.up_lt (by omega), okB_iff.2 ⟨⟨by show ((i + 1 : Nat) : Int) ≤ _; omega, hi2⟩, hs, .inr (hl.mono (by show _ ≤ 3 * ((i + 1 : Nat) : Int); omega) fun _ h => h)⟩⟩, ?_⟩
    (repeat' first | exact rfl | trivial | apply And.intro | (intro _ _; first | exact rfl | exact leR.refl rfl))
 ·rw [ite2_iff]
  have hg : ¬ ((i : Nat) : Int) < ((min l.length 8 : Nat) : Int) := ltI_ge hlt
  obtain ⟨hxn, hyn, hxk, hyk⟩ : NumOk (3 * (i : Int)) x ∧ NumOk (3 * (i : Int)) y ∧ x.kept = [] ∧ y.kept = [] := by
   rcases hlf with h | h
   ·exact ⟨h.ln, h.fn, h.lk, h.fk⟩
   ·exact ⟨h.fn, h.ln, h.fk, h.lk⟩
  have hck := chk_nil hxn (by omega) hxk
  refine ⟨fun _ => cnd_iff.2 ⟨isKps_nil hxk, ite2_iff.2 ⟨fun _ => out_true ?_, fun h => ?_⟩⟩, fun h => ?_⟩
  ·rw [hxk, hyk]; rfl
  ·rw [kps_rv, hck] at h; exact absurd h (by decide)
  ·rw [hx] at h; exact absurd h (by decide)
end Go.Proofs.YtehaohfglolljaaDoor