import Derived.Test.YtcnnogimaikicaaZzai
import Derived.Test.YtcnnogimaikicaaZzaj
set_option linter.unusedSimpArgs false
set_option linter.unusedVariables false
namespace Go.Proofs.Ytcnnogimaikicaa
open Go Go.V Go.Tm
set_option maxRecDepth 100000
theorem rw_all (l : List Raw3) : isRw l.length (rawsF l) = true ∧ rwOf l.length (rawsF l) = l := ⟨isRw_iff.2 ⟨l, rfl, fun _ _ => rfl⟩, rwOf_eq l rfl fun _ _ => rfl⟩
theorem rw_cut (l : List Raw3) (k : Nat) : isRw (min l.length k) (rawsF l) = true ∧ rwOf (min l.length k) (rawsF l) = l.take k := by
  have hl : min l.length k = (l.take k).length := by rw [List.length_take]; omega
  have hf : ∀ i, i < min l.length k → rawsF l i = rawsF (l.take k) i := by
    intro i hi
    unfold rawsF
    rw [List.getD_eq_getElem?_getD, List.getD_eq_getElem?_getD, List.getElem?_take, if_pos (by omega)]
  exact ⟨isRw_iff.2 ⟨_, hl, hf⟩, rwOf_eq _ hl hf⟩
theorem cat_ok {a b : List Tm} {n m : Nat} {f g : Nat → List AV} (hn : n = a.length) (hm : m = b.length) (hs : n + m ≤ 1000) (hf : ∀ i, i < n → okC (f i) = true ∧ rdL (f i) = a.getD i tm0) (hg : ∀ i, i < m → okC (g i) = true ∧ rdL (g i) = b.getD i tm0) :
    okTS (.vecr false 4 (n + m) (catF n f g)) = true ∧ rdTS (.vecr false 4 (n + m) (catF n f g)) = a ++ b := by
  subst hn; subst hm
  have key : ∀ i, i < a.length + b.length → okC (catF a.length f g i) = true ∧ rdL (catF a.length f g i) = (a ++ b).getD i tm0 := by
    intro i hi
    unfold catF
    rcases Nat.lt_or_ge i a.length with h | h
    · rw [ltB_iff.2 h, List.getD_eq_getElem?_getD, List.getElem?_append_left h, ← List.getD_eq_getElem?_getD]; exact hf i h
    · rw [ltB_no (by omega), List.getD_eq_getElem?_getD, List.getElem?_append_right h, ← List.getD_eq_getElem?_getD]; exact hg _ (by omega)
  rw [okTS_eq, rdTS_eq]
  exact ⟨okT_rows hs fun i hi => (key i hi).1, rdT_rows _ (by rw [List.length_append]) fun i hi => (key i hi).2⟩
theorem tells_ok : okTS (.vec false 4 [.agg [.int .i64 1, .int .i64 1, .int .i64 0, .vec true 4 []]]) = true ∧ rdTS (.vec false 4 [.agg [.int .i64 1, .int .i64 1, .int .i64 0, .vec true 4 []]]) = [atomT 1] := by
  rw [okTS_eq, rdTS_eq]; exact ⟨rfl, rfl⟩
theorem knowsMore_c (l : List Raw3) (_hl : l.length ≤ maxLen ∧ ∀ r ∈ l, r.ok) (m : List Raw3) (_hm : m.length ≤ maxLen ∧ ∀ r ∈ m, r.ok) (x : List Raw3) (_hx : x.length ≤ maxLen ∧ ∀ r ∈ x, r.ok) : HCall Try.E 3 [.vecr false 4 l.length (rawsF l), .vecr false 4 m.length (rawsF m), .vecr false 4 x.length (rawsF x)] (.ret (.bool true) []) := by
  refine HCall.of_walk (R := R1) (T := T10) (fun _ _ => .unroll 2) 4 rfl rfl ?_
  rw [lmore_eq]
  dsimp only
  have z6 : (6 : Int).toNat = 6 := rfl
  obtain ⟨gl1, gl2, gl3⟩ := terms_good l 6
  obtain ⟨gm1, gm2, gm3⟩ := terms_good m 4
  obtain ⟨gx1, gx2⟩ := term_good x
  rw [← termsS_eq] at gl1 gl2 gl3 gm1 gm2 gm3
  rw [← termS_eq] at gx1 gx2
  have sl : Tm.smL (termsS l 6) = true := smL_iff.2 fun t ht => (gl1 t ht).2.2
  have sm : Tm.smL (termsS m 4) = true := smL_iff.2 fun t ht => (gm1 t ht).2.2
  simp only [z6, (rw_all l).1, (rw_all l).2, (rw_all m).1, (rw_all m).2, (rw_cut x 6).1, (rw_cut x 6).2]
  generalize termsS l 6 = L at *
  generalize termsS m 4 = M at *
  generalize (termS (x.take 6) 0).1 = t at *
  have hcat := cat_ok (a := L) (b := M) rfl rfl (by omega) (f := tmF L) (g := tmF M) (fun i hi => ⟨okC_K (sm_get sl hi), rdL_K _⟩) (fun i hi => ⟨okC_K (sm_get sm hi), rdL_K _⟩)
  have hk1 := knows_good gl1 (by omega) gx1 (by omega)
  have hk2 := knows_good (L := L ++ M) (t := t) (fun u hu => by
    rcases List.mem_append.1 hu with h | h
    · exact gl1 u h
    · exact gm1 u h) (by rw [tmSzL_append]; omega) gx1 (by omega)
  have hc := check_good gx1 (by omega)
  rw [← knowsS_eq] at hk1 hk2
  rw [← checkS_eq] at hc
  have hy : knowsS [atomT 1] (atomT 1) = (true, 0) := by rw [knowsS_eq]; exact tells_yes
  have hn : knowsS [atomT 1] (.mk 1 2 0 []) = (false, 0) := by rw [knowsS_eq]; exact tells_no
  have hy' : knowsS [atomT 1] (.mk 1 1 0 []) = (true, 0) := hy
  simp only [okTS_F (show L.length ≤ 1000 by omega) sl, rdTS_F, okCS_K1 gx1.2.2, rdCS_K1, hcat.1, hcat.2, tells_ok.1, tells_ok.2, okCS_nil, rdCS_nil, hy', hn, hk1.1, hk2.1, hc, leB_of (show L.length * 48 ≤ 140737488355328 by omega), leB_of (show (L.length + M.length) * 48 ≤ 140737488355328 by omega), yes_of True.intro, yes_of (rfl : t = t), beq_self_eq_true, Bool.and_self, Bool.and_true, Bool.true_and, cond_true, cond_false, Bool.not_false, Bool.not_true, ite2_true, ite2_false, cnd_eq, true_and]
  have hmore := fun h => knows_more (t := t) hk2.2 (fun u hu => List.mem_append_left M hu) h
  refine ite2_iff.2 ⟨fun _ => ⟨rfl, rfl⟩, fun h => ?_⟩
  rw [hmore (by simpa using h)]
  exact ⟨rfl, rfl⟩
theorem knowsAll_c (l : List Raw3) (_hl : l.length ≤ maxLen ∧ ∀ r ∈ l, r.ok) (x : List Raw3) (_hx : x.length ≤ maxLen ∧ ∀ r ∈ x, r.ok) (y : List Raw3) (_hy : y.length ≤ maxLen ∧ ∀ r ∈ y, r.ok) : HCall Try.E 4 [.vecr false 4 l.length (rawsF l), .vecr false 4 x.length (rawsF x), .vecr false 4 y.length (rawsF y)] (.ret (.bool true) []) := by
  refine HCall.of_walk (R := R1) (T := T10) (fun _ _ => .unroll 2) 4 rfl rfl ?_
  rw [lall_eq]
  dsimp only
  have z6 : (6 : Int).toNat = 6 := rfl
  obtain ⟨gl1, gl2, gl3⟩ := terms_good l 6
  obtain ⟨gx1, gx2⟩ := term_good x
  obtain ⟨gy1, gy2⟩ := term_good y
  rw [← termsS_eq] at gl1 gl2 gl3
  rw [← termS_eq] at gx1 gx2 gy1 gy2
  have sl : Tm.smL (termsS l 6) = true := smL_iff.2 fun t ht => (gl1 t ht).2.2
  simp only [z6, (rw_all l).1, (rw_all l).2, (rw_cut x 6).1, (rw_cut x 6).2, (rw_cut y 6).1, (rw_cut y 6).2]
  generalize termsS l 6 = L at *
  generalize (termS (x.take 6) 0).1 = t at *
  generalize (termS (y.take 6) 0).1 = u at *
  have hcat := cat_ok (a := L) (b := [t]) (m := 1) rfl rfl (by omega) (f := tmF L) (g := rowF [AV.agg (tmK1 t)]) (fun i hi => ⟨okC_K (sm_get sl hi), rdL_K _⟩) (fun i hi => by
    obtain rfl : i = 0 := by omega
    exact ⟨okC_K1 gx1.2.2, rdL_K1 t⟩)
  have hk1 := knows_good gl1 (by omega) gx1 (by omega)
  have hk2 := knows_good gl1 (by omega) gy1 (by omega)
  have hk3 := knows_good (L := L ++ [t]) (t := u) (fun v hv => by
    rcases List.mem_append.1 hv with h | h
    · exact gl1 v h
    · rw [List.mem_singleton] at h; rw [h]; exact gx1) (by rw [tmSzL_append, tmSzL, tmSzL]; omega) gy1 (by omega)
  rw [← knowsS_eq] at hk1 hk2 hk3
  have hy : knowsS [atomT 1] (.mk 1 1 0 []) = (true, 0) := by rw [knowsS_eq]; exact tells_yes
  have hn : knowsS [atomT 1] (.mk 1 2 0 []) = (false, 0) := by rw [knowsS_eq]; exact tells_no
  have hcat1 : okTS (.vecr false 4 (L.length + 1) (catF L.length (tmF L) (rowF [AV.agg [.int .i64 t.kind, .int .i64 t.id, .int .i64 t.other, .vecr false 4 t.args.length (tmF t.args)]]))) = true := hcat.1
  have hcat2 : rdTS (.vecr false 4 (L.length + 1) (catF L.length (tmF L) (rowF [AV.agg [.int .i64 t.kind, .int .i64 t.id, .int .i64 t.other, .vecr false 4 t.args.length (tmF t.args)]]))) = L ++ [t] := hcat.2
  simp only [okTS_F (show L.length ≤ 1000 by omega) sl, rdTS_F, okCS_K1 gx1.2.2, okCS_K1 gy1.2.2, rdCS_K1, hcat1, hcat2, tells_ok.1, tells_ok.2, okCS_nil, rdCS_nil, hy, hn, hk1.1, hk2.1, hk3.1, leB_of (show L.length * 48 ≤ 140737488355328 by omega), leB_of (show (L.length + 1) * 48 ≤ 140737488355328 by omega), beq_self_eq_true, Bool.and_self, Bool.and_true, Bool.true_and, cond_true, cond_false, Bool.not_false, Bool.not_true, ite2_true, ite2_false, cnd_eq, true_and]
  refine ite2_iff.2 ⟨fun _ => ⟨rfl, rfl⟩, fun h => ?_⟩
  rw [knows_all (u := u) hk1.2 hk3.2 (by simpa using h), beq_self_eq_true]
  exact ⟨rfl, rfl⟩
end Go.Proofs.Ytcnnogimaikicaa
