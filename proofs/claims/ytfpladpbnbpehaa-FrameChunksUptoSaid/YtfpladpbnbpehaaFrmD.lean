import Derived.Test.YtfpladpbnbpehaaGFrmC
set_option linter.unusedSimpArgs false
set_option linter.unusedVariables false
namespace Go.Proofs.Ytfpladpbnbpehaa
open Go Go.V Go.Frm
set_option maxRecDepth 100000
noncomputable def feedO (h b : List UInt8) : Out := .ret (.tup [.vecr false 3 (feedS h b).fs.length (frs (feedS h b).fs), .vec8 false (feedS h b).rest, .int .i64 (feedS h b).e]) []
theorem feed_bad {h b : List UInt8} {e : Int} (hf : feedS h b = fd0 e) : okOut (feedO h b) (.tup [.vec8 true [], .vec8 true [], .int .i64 e]) [] := by
  unfold feedO
  rw [hf]
  exact okOut.cold (v' := .tup [.vec8 true [], .vec8 true [], .int .i64 e]) rfl (leV_tup (leRV_cons (leV_nil rfl) (leRV_cons (leV_nil8 rfl) (leRV_cons (leV.refl _) leRV_nil)))) rfl ⟨rfl, rfl⟩
theorem feed_end {h b D X : List UInt8} {done : List Fr} {n : Nat} (hf : feedS h b = ⟨done, D, 0⟩) (hX : X = D) (hn : n = X.length) : okOut (feedO h b) (.tup [.slv 0 3 done.length (frs done), .sl 1 0 1 n, .int .i64 0]) [.tail 3 done.length, .grow8 X []] := by
  subst hX
  unfold feedO
  rw [hf]
  refine okOut.cold (v' := .tup [.vecr false 3 done.length (frs done), .vec8 false X, .int .i64 0]) (u := [(1, .grow8 X [(0, n)])]) ?_ (leV.refl _) rfl ⟨rfl, rfl⟩
  have := coldA_sl' (H := updH [.tail 3 done.length, .grow8 X []] []) (id := 1) rfl hn
  simp only [coldT, coldL, coldA] at this ⊢
  simp only [this]
  rfl
theorem ffeed_c (fa fb : Bool) (h b : List UInt8) (hs : h.length + b.length ≤ 1000000000) : HCall Try.E 12 [.vec8 fa h, .vec8 fb b] (feedO h b) := by
  refine HCall.of_walkC (R := R0) (T := F1) (fun _ _ => feedL (h ++ b)) 5 rfl rfl ?_
  rw [ffeed_eq]
  dsimp only
  rw [faultS_eq]
  have hlen : (h ++ b).length = h.length + b.length := List.length_append
  have hfeed : feedS h b = bif ltB 903 h.length then fd0 9 else fdF (h ++ b) := by rw [feedS_eq]; rfl
  rw [ite2_eq]
  refine ⟨fun h9 => feed_bad (by rw [hfeed, show ltB 903 h.length = true from h9]; rfl), fun h9 => ?_⟩
  rw [show ltB 903 h.length = false from h9, cond_false] at hfeed
  rw [beq_self_eq_true, leB_of (by omega), leB_of (by omega)]
  rw [← hlen]
  generalize h ++ b = L at *
  refine ⟨⟨(0, []), ⟨Nat.zero_le _, Nat.le_refl _, (pre_nil _).symm⟩, ?_⟩, fun w hw => ?_⟩
  · repeat' apply And.intro
    all_goals first | rfl | trivial
  obtain ⟨o, done⟩ := w
  obtain ⟨h1, h2, h3⟩ := hw
  dsimp only at h1 h2 h3 ⊢
  have hD : (L.drop o).length = L.length - o := List.length_drop
  have hget : ∀ j : Nat, L.getD (ofs o (j : Int)) 0 = (L.drop o).getD j 0 := fun j => by
    rw [ofs_eq, Int.toNat_natCast, List.getD_eq_getElem?_getD, List.getD_eq_getElem?_getD, List.getElem?_drop]
  have e0 := hget 0; have e1 := hget 1; have e2 := hget 2; have e3 := hget 3
  simp only [Int.ofNat_zero, Int.ofNat_one] at e0 e1
  rw [show ((2 : Nat) : Int) = 2 from rfl] at e2
  rw [show ((3 : Nat) : Int) = 3 from rfl] at e3
  rw [e0, e1, e2, e3, or256]
  rw [fdF_step (L.drop o)] at h3
  have htk : List.take (L.length - o) (L.drop o) = L.drop o := by rw [← hD, List.take_length]
  rw [htk]
  have stop : ∀ d : Fed, fdStep (L.drop o) = .inl d → feedS h b = d.pre done := fun d hd => by rw [hfeed, h3, hd]
  have hpre0 : ∀ l : List UInt8, Fed.pre done ⟨[], l, 0⟩ = ⟨done, l, 0⟩ := fun l => by simp [Fed.pre]
  have hend : (L.drop o).length < 4 ∨ True → ∀ (hd : fdStep (L.drop o) = .inl ⟨[], L.drop o, 0⟩), okOut (feedO h b) (.tup [.slv 0 3 done.length (frs done), .sl 1 0 1 (L.drop o).length, .int .i64 0]) [.tail 3 done.length, .grow8 (L.drop o) []] := fun _ hd =>
    feed_end (by rw [stop _ hd, hpre0]) rfl rfl
  have hbad : ∀ e : Int, e ≠ 0 → fdStep (L.drop o) = .inl (fd0 e) → okOut (feedO h b) (.tup [.vec8 true [], .vec8 true [], .int .i64 e]) [] := fun e he hd =>
    feed_bad (by rw [stop _ hd]; unfold Fed.pre fd0; rw [beq_false_of_ne he]; rfl)
  rw [ite2_eq]
  refine ⟨fun h4 => ?_, fun h4 => ?_⟩
  case refine_2 =>
    have h4 : (L.drop o).length < 4 := by
      have := of_ltI (by simpa using h4)
      omega
    rw [leB_of (by omega), leB_of (by omega)]
    exact hend (.inl h4) (fdStep_short h4)
  have h4 : 4 ≤ (L.drop o).length := by
    have := of_ltI_no (by simpa using h4)
    omega
  rw [inB_of (by omega) (by omega), inB_of (by omega) (by omega), inB_of (by omega) (by omega), inB_of (by omega) (by omega), leB_of (a := o + (L.length - o)) (by omega)]
  obtain ⟨S, hS⟩ : ∃ S, fdStep (L.drop o) = S := ⟨_, rfl⟩
  have hstep := hS
  unfold fdStep at hstep
  rw [if_neg (by omega)] at hstep
  have hk0 := ((L.drop o).getD 0 0).toNat_lt
  have hk2 := ((L.drop o).getD 2 0).toNat_lt
  have hk3 := ((L.drop o).getD 3 0).toNat_lt
  have hn : lenOf (L.drop o) = ((L.drop o).getD 2 0).toNat * 256 + ((L.drop o).getD 3 0).toNat := rfl
  rw [← hn]
  have hn2 : lenOf (L.drop o) ≤ 65535 := by omega
  generalize lenOf (L.drop o) = n at *
  generalize ((L.drop o).getD 0 0).toNat = k at *
  generalize ((L.drop o).getD 1 0).toNat = i at *
  have hw4 : wr .i64 (4 + ((n : Nat) : Int)) = ((4 + n : Nat) : Int) := by rw [wr_of (by omega) (by omega)]; rfl
  rw [hw4]
  cases hf : fault k i [] != 0 with
  | true =>
    have hf' : fault k i [] ≠ 0 := by simpa using hf
    rw [if_pos hf'] at hstep
    exact hbad _ hf' (hS.trans hstep.symm)
  | false =>
    have hf' : fault k i [] = 0 := by simpa using hf
    rw [if_neg (by simpa using hf')] at hstep
    rw [ite2_false]
    cases h9 : ltI 900 ((n : Nat) : Int) with
    | true =>
      have := of_ltI h9
      rw [if_pos (by omega)] at hstep
      exact hbad _ (by decide) (hS.trans hstep.symm)
    | false =>
      have h9' := of_ltI_no h9
      rw [ite2_false]
      rw [if_neg (by omega)] at hstep
      rw [ite2_eq]
      refine ⟨fun h5 => ?_, fun h5 => ?_⟩
      · rw [cond_true, ite2_eq]
        have h5' : (k : Int) = 5 := by simpa using h5
        refine ⟨fun h6 => ?_, fun h6 => ?_⟩
        · have := of_ltI h6
          rw [if_pos (by omega)] at hstep
          exact hbad _ (by decide) (hS.trans hstep.symm)
        · have := of_ltI_no h6
          have hno : ¬ (k = 5 ∧ 0 < n) := by omega
          rw [ite2_eq]
          refine ⟨fun h7 => ?_, fun h7 => ?_⟩
          · have h7 := of_ltI h7
            rw [if_neg hno, if_pos (by omega)] at hstep
            rw [leB_of (a := (L.drop o).length * 1) (by omega)]
            exact hend (.inr trivial) (hS.trans hstep.symm)
          · have h7 := of_ltI_no h7
            rw [if_neg hno, if_neg (by omega)] at hstep
            have hhi : hiN (L.length - o) (some ((4 + n : Nat) : Int)) - 4 = n := by show 4 + n - 4 = n; omega
            have hlo : loN (some ((4 + n : Nat) : Int)) = 4 + n := Int.toNat_natCast _
            have s1 : sliceOk (some 4) (some ((4 + n : Nat) : Int)) (L.length - o) = true := by
              show ((nnB _ && leB (Int.toNat _) (Int.toNat _)) && (nnB _ && leB (Int.toNat _) _)) = true
              rw [nnB_iff.2 (by omega), nnB_iff.2 (by omega), leB_of (by omega), leB_of (by omega)]; rfl
            have s2 : sliceOk (some ((4 + n : Nat) : Int)) none (L.length - o) = true := by
              show (nnB _ && leB (Int.toNat _) _) = true
              rw [nnB_iff.2 (by omega), leB_of (by omega)]; rfl
            have hbody : List.take n (List.drop (o + 4) L) = ((L.drop o).drop 4).take n := by rw [List.drop_drop]
            have hbl : (((L.drop o).drop 4).take n).length = n := by rw [List.length_take, List.length_drop]; omega
            rw [hhi, hlo, s1, s2, hbody, hbl, leB_of (a := o + 4 + n) (by omega), leB_of (a := n * 1) (by omega), leB_of (a := 0 + n) (by omega), beq_self_eq_true, leB_of (a := (done.length + 1) * 40) (by omega)]
            refine ⟨(o + (4 + n), done ++ [⟨k, i, ((L.drop o).drop 4).take n⟩]), ⟨by show L.length - (o + (4 + n)) < L.length - o; omega, by show o + (4 + n) ≤ L.length; omega, by show (done ++ _).length ≤ _; rw [List.length_append]; show done.length + 1 ≤ o + (4 + n); omega, ?_⟩, ?_⟩
            · rw [h3, hS, ← hstep]
              show Fed.pre done (Fed.pre [_] _) = _
              rw [pre_pre, show List.drop (4 + n) (List.drop o L) = List.drop (o + (4 + n)) L from List.drop_drop]
            · rw [Nat.mul_one, beq_self_eq_true]
              repeat' apply And.intro
              all_goals first
                | rfl
                | trivial
                | omega
                | (show L.length - o - (4 + n) = L.length - (o + (4 + n)); omega)
                | (show done.length + 1 = (done ++ _).length; rw [List.length_append]; rfl)
                | (intro x hx
                   refine rows_app (i := done.length) (g := frs (done ++ [_])) (fun y hy => ?_) ?_ x (by rw [List.length_append] at hx; exact hx)
                   · exact leR.of_eq rfl (frs_app1 hy).symm
                   · have := frs_app2 (a := done) (b := [⟨k, i, ((L.drop o).drop 4).take n⟩]) (x := 0)
                     rw [Nat.add_zero] at this
                     rw [this]
                     refine leR.of_eq rfl ?_
                     show [AV.int .i64 k, AV.int .i64 i, AV.vec8 false _] = [AV.int .i64 k, AV.int .i64 i, AV.vec8 false _]
                     rw [List.drop_zero, List.take_of_length_le (by omega)]; rfl)
      · have h5' : ¬ (k : Int) = 5 := by simpa using h5
        have hno : ¬ (k = 5 ∧ 0 < n) := by omega
        rw [ite2_eq]
        refine ⟨fun h7 => ?_, fun h7 => ?_⟩
        · have h7 := of_ltI h7
          rw [if_neg hno, if_pos (by omega)] at hstep
          rw [leB_of (a := (L.drop o).length * 1) (by omega)]
          exact hend (.inr trivial) (hS.trans hstep.symm)
        · have h7 := of_ltI_no h7
          rw [if_neg hno, if_neg (by omega)] at hstep
          have hhi : hiN (L.length - o) (some ((4 + n : Nat) : Int)) - 4 = n := by show 4 + n - 4 = n; omega
          have hlo : loN (some ((4 + n : Nat) : Int)) = 4 + n := Int.toNat_natCast _
          have s1 : sliceOk (some 4) (some ((4 + n : Nat) : Int)) (L.length - o) = true := by
            show ((nnB _ && leB (Int.toNat _) (Int.toNat _)) && (nnB _ && leB (Int.toNat _) _)) = true
            rw [nnB_iff.2 (by omega), nnB_iff.2 (by omega), leB_of (by omega), leB_of (by omega)]; rfl
          have s2 : sliceOk (some ((4 + n : Nat) : Int)) none (L.length - o) = true := by
            show (nnB _ && leB (Int.toNat _) _) = true
            rw [nnB_iff.2 (by omega), leB_of (by omega)]; rfl
          have hbody : List.take n (List.drop (o + 4) L) = ((L.drop o).drop 4).take n := by rw [List.drop_drop]
          have hbl : (((L.drop o).drop 4).take n).length = n := by rw [List.length_take, List.length_drop]; omega
          rw [hhi, hlo, s1, s2, hbody, hbl, leB_of (a := o + 4 + n) (by omega), leB_of (a := n * 1) (by omega), leB_of (a := 0 + n) (by omega), beq_self_eq_true, leB_of (a := (done.length + 1) * 40) (by omega)]
          refine ⟨(o + (4 + n), done ++ [⟨k, i, ((L.drop o).drop 4).take n⟩]), ⟨by show L.length - (o + (4 + n)) < L.length - o; omega, by show o + (4 + n) ≤ L.length; omega, by show (done ++ _).length ≤ _; rw [List.length_append]; show done.length + 1 ≤ o + (4 + n); omega, ?_⟩, ?_⟩
          · rw [h3, hS, ← hstep]
            show Fed.pre done (Fed.pre [_] _) = _
            rw [pre_pre, show List.drop (4 + n) (List.drop o L) = List.drop (o + (4 + n)) L from List.drop_drop]
          · rw [Nat.mul_one, beq_self_eq_true]
            repeat' apply And.intro
            all_goals first
              | rfl
              | trivial
              | omega
              | (show L.length - o - (4 + n) = L.length - (o + (4 + n)); omega)
              | (show done.length + 1 = (done ++ _).length; rw [List.length_append]; rfl)
              | (intro x hx
                 refine rows_app (i := done.length) (g := frs (done ++ [_])) (fun y hy => ?_) ?_ x (by rw [List.length_append] at hx; exact hx)
                 · exact leR.of_eq rfl (frs_app1 hy).symm
                 · have := frs_app2 (a := done) (b := [⟨k, i, ((L.drop o).drop 4).take n⟩]) (x := 0)
                   rw [Nat.add_zero] at this
                   rw [this]
                   refine leR.of_eq rfl ?_
                   show [AV.int .i64 k, AV.int .i64 i, AV.vec8 false _] = [AV.int .i64 k, AV.int .i64 i, AV.vec8 false _]
                   rw [List.drop_zero, List.take_of_length_le (by omega)]; rfl)
end Go.Proofs.Ytfpladpbnbpehaa
