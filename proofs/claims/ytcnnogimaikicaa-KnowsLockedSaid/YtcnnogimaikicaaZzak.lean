import Derived.Test.YtcnnogimaikicaaZzai
import Derived.Test.YtcnnogimaikicaaZzaj
set_option linter.unusedSimpArgs false
set_option linter.unusedVariables false
namespace Go.Proofs.Ytcnnogimaikicaa
open Go Go.V Go.Tm
set_option maxRecDepth 100000
theorem rw_all (l : List Raw3) : isRw l.length (rawsF l) = true ∧ rwOf l.length (rawsF l) = l := ⟨isRw_iff.2 ⟨l, rfl, fun _ _ => rfl⟩, rwOf_eq l rfl fun _ _ => rfl⟩
theorem rw_cut (l : List Raw3) (k : Nat) : isRw (min l.length k) (rawsF l) = true ∧ rwOf (min l.length k) (rawsF l) = l.take k := by
  have hl : min l.length k = (l.take k).length := by rw [List.length_take]; omega
  have hf : ∀ i, i < min l.length k → rawsF l i = rawsF (l.take k) i := by
    intro i hi
    unfold rawsF
    rw [List.getD_eq_getElem?_getD, List.getD_eq_getElem?_getD, List.getElem?_take, if_pos (by omega)]
  exact ⟨isRw_iff.2 ⟨_, hl, hf⟩, rwOf_eq _ hl hf⟩
theorem cat_ok {a b : List Tm} {n m : Nat} {f g : Nat → List AV} (hn : n = a.length) (hm : m = b.length) (hs : n + m ≤ 1000) (hf : ∀ i, i < n → okC (f i) = true ∧ rdL (f i) = a.getD i tm0) (hg : ∀ i, i < m → okC (g i) = true ∧ rdL (g i) = b.getD i tm0) :
    okTS (.vecr false 4 (n + m) (catF n f g)) = true ∧ rdTS (.vecr false 4 (n + m) (catF n f g)) = a ++ b := by
  subst hn; subst hm
  have key : ∀ i, i < a.length + b.length → okC (catF a.length f g i) = true ∧ rdL (catF a.length f g i) = (a ++ b).getD i tm0 := by
    intro i hi
    unfold catF
    rcases Nat.lt_or_ge i a.length with h | h
    · rw [ltB_iff.2 h, List.getD_eq_getElem?_getD, List.getElem?_append_left h, ← List.getD_eq_getElem?_getD]; exact hf i h
    · rw [ltB_no (by omega), List.getD_eq_getElem?_getD, List.getElem?_append_right h, ← List.getD_eq_getElem?_getD]; exact hg _ (by omega)
  rw [okTS_eq, rdTS_eq]
  exact ⟨okT_rows hs fun i hi => (key i hi).1, rdT_rows _ (by rw [List.length_append]) fun i hi => (key i hi).2⟩
theorem tells_ok : okTS (.vec false 4 [.agg [.int .i64 1, .int .i64 1, .int .i64 0, .vec true 4 []]]) = true ∧ rdTS (.vec false 4 [.agg [.int .i64 1, .int .i64 1, .int .i64 0, .vec true 4 []]]) = [atomT 1] := by
  rw [okTS_eq, rdTS_eq]; exact ⟨rfl, rfl⟩
theorem knowsMore_c (l : List Raw3) (_hl : l.length ≤ maxLen ∧ ∀ r ∈ l, r.ok) (m : List Raw3) (_hm : m.length ≤ maxLen ∧ ∀ r ∈ m, r.ok) (x : List Raw3) (_hx : x.length ≤ maxLen ∧ ∀ r ∈ x, r.ok) : HCall Try.E 3 [.vecr false 4 l.length (rawsF l), .vecr false 4 m.length (rawsF m), .vecr false 4 x.length (rawsF x)] (.ret (.bool true) []) := by
  refine HCall.of_walk (R := R1) (T := T10) (fun _ _ => .unroll 2) 4 rfl rfl ?_
  rw [lmore_eq]
  dsimp only
  have z6 : (6 : Int).toNat = 6 := rfl
  obtain ⟨gl1, gl2, gl3⟩ := terms_good l 6
  obtain ⟨gm1, gm2, gm3⟩ := terms_good m 4
  obtain ⟨gx1, gx2⟩ := term_good x
  rw [← termsS_eq] at gl1 gl2 gl3 gm1 gm2 gm3
  rw [← termS_eq] at gx1 gx2
  have sl : Tm.smL (termsS l 6) = true := smL_iff.2 fun t ht => (gl1 t ht).2.2
  have sm : Tm.smL (termsS m 4) = true := smL_iff.2 fun t ht => (gm1 t ht).2.2
  simp only [z6, (rw_all l).1, (rw_all l).2, (rw_all m).1, (rw_all m).2, (rw_cut x 6).1, (rw_cut x 6).2]
  generalize termsS l 6 = L at *
  generalize termsS m 4 = M at *
  generalize (termS (x.take 6) 0).1 = t at *
  have hcat := cat_ok (a := L) (b := M) rfl rfl (by omega) (f := tmF L) (g := tmF M) (fun i hi => ⟨okC_K (sm_get sl hi), rdL_K _⟩) (fun i hi => ⟨okC_K (sm_get sm hi), rdL_K _⟩)
  have hk1 := knows_good gl1 (by omega) gx1 (by omega)
  have hk2 := knows_good (L := L ++ M) (t := t) (fun u hu => by
    rcases List.mem_append.1 hu with h | h
    · exact gl1 u h
    · exact gm1 u h) (by rw [tmSzL_append]; omega) gx1 (by omega)
  have hc := check_good gx1 (by omega)
  rw [← knowsS_eq] at hk1 hk2
  rw [← checkS_eq] at hc
  have hy : knowsS [atomT 1] (atomT 1) = (true, 0) := by rw [knowsS_eq]; exact tells_yes
  have hn : knowsS [atomT 1] (.mk 1 2 0 []) = (false, 0) := by rw [knowsS_eq]; exact tells_no
  have hy' : knowsS [atomT 1] (.mk 1 1 0 []) = (true, 0) := hy
  simp only [okTS_F (show L.length ≤ 1000 by omega) sl, rdTS_F, okCS_K1 gx1.2.2, rdCS_K1, hcat.1, hcat.2, tells_ok.1, tells_ok.2, okCS_nil, rdCS_nil, hy', hn, hk1.1, hk2.1, hc, leB_of (show L.length * 48 ≤ 140737488355328 by omega), leB_of (show (L.length + M.length) * 48 ≤ 140737488355328 by omega), yes_of True.intro, yes_of (rfl : t = t), beq_self_eq_true, Bool.and_self, Bool.and_true, Bool.true_and, cond_true, cond_false, Bool.not_false, Bool.not_true, ite2_true, ite2_false, cnd_eq, true_and]
  have hmore := fun h => knows_more (t := t) hk2.2 (fun u hu => List.mem_append_left M hu) h
  refine ite2_iff.2 ⟨fun _ => ⟨rfl, rfl⟩, fun h => ?_⟩
  rw [hmore (by simpa using h)]
  exact ⟨rfl, rfl⟩
theorem knowsAll_c (l : List Raw3) (_hl : l.length ≤ maxLen ∧ ∀ r ∈ l, r.ok) (x : List Raw3) (_hx : x.length ≤ maxLen ∧ ∀ r ∈ x, r.ok) (y : List Raw3) (_hy : y.length ≤ maxLen ∧ ∀ r ∈ y, r.ok) : HCall Try.E 4 [.vecr false 4 l.length (rawsF l), .vecr false 4 x.length (rawsF x), .vecr false 4 y.length (rawsF y)] (.ret (.bool true) []) := by
  refine HCall.of_walk (R := R1) (T := T10) (fun _ _ => .unroll 2) 4 rfl rfl ?_
  rw [lall_eq]
  dsimp only
  have z6 : (6 : Int).toNat = 6 := rfl
  obtain ⟨gl1, gl2, gl3⟩ := terms_good l 6
  obtain ⟨gx1, gx2⟩ := term_good x
  obtain ⟨gy1, gy2⟩ := term_good y
  rw [← termsS_eq] at gl1 gl2 gl3
  rw [← termS_eq] at gx1 gx2 gy1 gy2
  have sl : Tm.smL (termsS l 6) = true := smL_iff.2 fun t ht => (gl1 t ht).2.2
  simp only [z6, (rw_all l).1, (rw_all l).2, (rw_cut x 6).1, (rw_cut x 6).2, (rw_cut y 6).1, (rw_cut y 6).2]
  generalize termsS l 6 = L at *
  generalize (termS (x.take 6) 0).1 = t at *
  generalize (termS (y.take 6) 0).1 = u at *
  have hcat := cat_ok (a := L) (b := [t]) (m := 1) rfl rfl (by omega) (f := tmF L) (g := rowF [AV.agg (tmK1 t)]) (fun i hi => ⟨okC_K (sm_get sl hi), rdL_K _⟩) (fun i hi => by
    obtain rfl : i = 0 := by omega
    exact ⟨okC_K1 gx1.2.2, rdL_K1 t⟩)
  have hk1 := knows_good gl1 (by omega) gx1 (by omega)
  have hk2 := knows_good gl1 (by omega) gy1 (by omega)
  have hk3 := knows_good (L := L ++ [t]) (t := u) (fun v hv => by
    rcases List.mem_append.1 hv with h | h
    · exact gl1 v h
    · rw [List.mem_singleton] at h; rw [h]; exact gx1) (by rw [tmSzL_append, tmSzL, tmSzL]; omega) gy1 (by omega)
  rw [← knowsS_eq] at hk1 hk2 hk3
  have hy : knowsS [atomT 1] (.mk 1 1 0 []) = (true, 0) := by rw [knowsS_eq]; exact tells_yes
  have hn : knowsS [atomT 1] (.mk 1 2 0 []) = (false, 0) := by rw [knowsS_eq]; exact tells_no
  have hcat1 : okTS (.vecr false 4 (L.length + 1) (catF L.length (tmF L) (rowF [AV.agg [.int .i64 t.kind, .int .i64 t.id, .int .i64 t.other, .vecr false 4 t.args.length (tmF t.args)]]))) = true := hcat.1
  have hcat2 : rdTS (.vecr false 4 (L.length + 1) (catF L.length (tmF L) (rowF [AV.agg [.int .i64 t.kind, .int .i64 t.id, .int .i64 t.other, .vecr false 4 t.args.length (tmF t.args)]]))) = L ++ [t] := hcat.2
  simp only [okTS_F (show L.length ≤ 1000 by omega) sl, rdTS_F, okCS_K1 gx1.2.2, okCS_K1 gy1.2.2, rdCS_K1, hcat1, hcat2, tells_ok.1, tells_ok.2, okCS_nil, rdCS_nil, hy, hn, hk1.1, hk2.1, hk3.1, leB_of (show L.length * 48 ≤ 140737488355328 by omega), leB_of (show (L.length + 1) * 48 ≤ 140737488355328 by omega), beq_self_eq_true, Bool.and_self, Bool.and_true, Bool.true_and, cond_true, cond_false, Bool.not_false, Bool.not_true, ite2_true, ite2_false, cnd_eq, true_and]
  refine ite2_iff.2 ⟨fun _ => ⟨rfl, rfl⟩, fun h => ?_⟩
  rw [knows_all (u := u) hk1.2 hk3.2 (by simpa using h), beq_self_eq_true]
  exact ⟨rfl, rfl⟩
end Go.Proofs.Ytcnnogimaikicaa

set_option linter.unusedSimpArgs false
set_option linter.unusedVariables false
namespace Go.Proofs.Ytcnnogimaikicaa
open Go Go.V Go.Tm
set_option maxHeartbeats 0
set_option maxRecDepth 100000

theorem lparts_eq (l x y : List Raw3) (i j : Int) (K : AV → Heap → Prop) : walk Try.E R1 T10.C (fun _ _ => .unroll 2) 4 5 [.vecr false 4 l.length (rawsF l), .vecr false 4 x.length (rawsF x), .vecr false 4 y.length (rawsF y), .int .i64 i, .int .i64 j] K = (
 let x0 : Nat := (List.length l)
 let x1 : Nat := (List.length x)
 let x2 : Nat := (List.length y)
 let x3 : List Tm := (Tm.termsS (Tm.rwOf x0 (rawsF l)) 6)
 let x4 : Bool := (Tm.okTS (AV.vecr Bool.false 4 (List.length x3) (Tm.tmF x3)))
 let x5 : Nat := (Int.toNat 5)
 let x6 : List Tm := (Tm.Tm.args (Prod.fst (Tm.termS (Tm.rwOf (Min.min x1 x5) (rawsF x)) 0)))
 let x7 : List AV := [AV.int IntKind.i64 (Tm.Tm.kind (Prod.fst (Tm.termS (Tm.rwOf (Min.min x1 x5) (rawsF x)) 0))), AV.int IntKind.i64 (Tm.Tm.id (Prod.fst (Tm.termS (Tm.rwOf (Min.min x1 x5) (rawsF x)) 0))), AV.int IntKind.i64 (Tm.Tm.other (Prod.fst (Tm.termS (Tm.rwOf (Min.min x1 x5) (rawsF x)) 0))), AV.vecr Bool.false 4 (List.length x6) (Tm.tmF x6)]
 let x8 : List Tm := (Tm.Tm.args (Prod.fst (Tm.termS (Tm.rwOf (Min.min x2 x5) (rawsF y)) 0)))
 let x9 : List AV := [AV.int IntKind.i64 (Tm.Tm.kind (Prod.fst (Tm.termS (Tm.rwOf (Min.min x2 x5) (rawsF y)) 0))), AV.int IntKind.i64 (Tm.Tm.id (Prod.fst (Tm.termS (Tm.rwOf (Min.min x2 x5) (rawsF y)) 0))), AV.int IntKind.i64 (Tm.Tm.other (Prod.fst (Tm.termS (Tm.rwOf (Min.min x2 x5) (rawsF y)) 0))), AV.vecr Bool.false 4 (List.length x8) (Tm.tmF x8)]
 let x10 : List AV := [AV.int IntKind.i64 4, AV.int IntKind.i64 0, AV.int IntKind.i64 0, AV.vec Bool.false 4 [AV.agg x7, AV.agg x9]]
 let x11 : List AV := [AV.int IntKind.i64 1, AV.int IntKind.i64 (i % 5), AV.int IntKind.i64 0, AV.vec Bool.true 4 []]
 let x12 : List AV := [AV.int IntKind.i64 2, AV.int IntKind.i64 (j % 5), AV.int IntKind.i64 0, AV.vec Bool.true 4 []]
 let x13 : Int := (Max.max (i % 5) (j % 5))
 let x14 : Int := (Min.min (i % 5) (j % 5))
 let x15 : List AV := [AV.int IntKind.i64 3, AV.int IntKind.i64 (cond Bool.false x13 x14), AV.int IntKind.i64 (cond Bool.true x13 x14), AV.vec Bool.true 4 []]
 let x16 : List AV := [AV.int IntKind.i64 1, AV.int IntKind.i64 1, AV.int IntKind.i64 0, AV.vec Bool.true 4 []]
 let x17 : Bool := (Tm.okTS (AV.vec Bool.false 4 [AV.agg x16]))
 let x18 : List AV := [AV.int IntKind.i64 1, AV.int IntKind.i64 2, AV.int IntKind.i64 0, AV.vec Bool.true 4 []]
 let x19 : List Tm := (Tm.rdTS (AV.vec Bool.false 4 [AV.agg x16]))
 let x20 : List Tm := (Tm.rdTS (AV.vecr Bool.false 4 (List.length x3) (Tm.tmF x3)))
 let x21 : Bool := (Prod.fst (Tm.knowsS x20 (Tm.rdCS x10)))
 cnd ((Tm.isRw x0 (rawsF l)) && Bool.true)
 (cnd ((Tm.isRw (Min.min x1 5) (rawsF x)) && Bool.true)
 (cnd ((Tm.isRw (Min.min x2 5) (rawsF y)) && Bool.true)
 (cnd (x4 && ((Tm.okCS x7) && Bool.true))
 (cnd (x4 && ((Tm.okCS x9) && Bool.true))
 (cnd (x4 && ((Tm.okCS x10) && Bool.true))
 (cnd (x4 && ((Tm.okCS x11) && Bool.true))
 (cnd (x4 && ((Tm.okCS x12) && Bool.true))
 (cnd (x4 && ((Tm.okCS x15) && Bool.true))
 (cnd (x17 && ((Tm.okCS x16) && Bool.true))
 (cnd (x17 && ((Tm.okCS x18) && Bool.true))
 (ite2 ((Prod.snd (Tm.knowsS x19 (Tm.rdCS x16))) == 0)
 -- THEN
 (ite2 (cond Bool.true ((Prod.snd (Tm.knowsS x19 (Tm.rdCS x18))) == 0) Bool.false)
 -- THEN
 (ite2 (cond Bool.true (Prod.fst (Tm.knowsS x19 (Tm.rdCS x16))) Bool.false)
 -- THEN
 (ite2 (cond Bool.true (Bool.not (Prod.fst (Tm.knowsS x19 (Tm.rdCS x18)))) Bool.false)
 -- THEN
 (ite2 (cond Bool.true ((Prod.snd (Tm.knowsS x20 (Tm.rdCS x7))) == 0) Bool.false)
 -- THEN
 (ite2 (cond Bool.true ((Prod.snd (Tm.knowsS x20 (Tm.rdCS x9))) == 0) Bool.false)
 -- THEN
 (ite2 (cond Bool.true ((Prod.snd (Tm.knowsS x20 (Tm.rdCS x10))) == 0) Bool.false)
 -- THEN
 (ite2 (cond Bool.true ((Prod.snd (Tm.knowsS x20 (Tm.rdCS x11))) == 0) Bool.false)
 -- THEN
 (ite2 (cond Bool.true ((Prod.snd (Tm.knowsS x20 (Tm.rdCS x12))) == 0) Bool.false)
 -- THEN
 (ite2 (cond Bool.true ((Prod.snd (Tm.knowsS x20 (Tm.rdCS x15))) == 0) Bool.false)
 -- THEN
 (ite2 (Prod.fst (Tm.knowsS x20 (Tm.rdCS x7)))
 -- THEN
 (ite2 (cond Bool.true (x21 == (cond Bool.true (Prod.fst (Tm.knowsS x20 (Tm.rdCS x9))) Bool.false)) Bool.false)
 -- THEN
 (ite2 (Bool.not (Prod.fst (Tm.knowsS x20 (Tm.rdCS x11))))
 -- THEN
 (K (AV.bool Bool.true) [])
 -- ELSE
 (ite2 (cond Bool.false Bool.true (Bool.not (Prod.fst (Tm.knowsS x20 (Tm.rdCS x12)))))
 -- THEN
 (K (AV.bool Bool.true) [])
 -- ELSE
 (K (AV.bool (cond Bool.true (cond Bool.false Bool.true (Prod.fst (Tm.knowsS x20 (Tm.rdCS x15)))) Bool.false)) [])))
 -- ELSE
 (K (AV.bool Bool.false) []))
 -- ELSE
 (ite2 (cond Bool.true (x21 == Bool.false) Bool.false)
 -- THEN
 (ite2 (Bool.not (Prod.fst (Tm.knowsS x20 (Tm.rdCS x11))))
 -- THEN
 (K (AV.bool Bool.true) [])
 -- ELSE
 (ite2 (cond Bool.false Bool.true (Bool.not (Prod.fst (Tm.knowsS x20 (Tm.rdCS x12)))))
 -- THEN
 (K (AV.bool Bool.true) [])
 -- ELSE
 (K (AV.bool (cond Bool.true (cond Bool.false Bool.true (Prod.fst (Tm.knowsS x20 (Tm.rdCS x15)))) Bool.false)) [])))
 -- ELSE
 (K (AV.bool Bool.false) [])))
 -- ELSE
 (K (AV.bool Bool.false) []))
 -- ELSE
 (K (AV.bool Bool.false) []))
 -- ELSE
 (K (AV.bool Bool.false) []))
 -- ELSE
 (K (AV.bool Bool.false) []))
 -- ELSE
 (K (AV.bool Bool.false) []))
 -- ELSE
 (K (AV.bool Bool.false) []))
 -- ELSE
 (K (AV.bool Bool.false) []))
 -- ELSE
 (K (AV.bool Bool.false) []))
 -- ELSE
 (K (AV.bool Bool.false) []))
 -- ELSE
 (K (AV.bool Bool.false) []))))))))))))) := by kernel_rfl

theorem llock_eq (l x : List Raw3) (K : AV → Heap → Prop) : walk Try.E R1 T10.C (fun _ _ => .unroll 2) 4 6 [.vecr false 4 l.length (rawsF l), .vecr false 4 x.length (rawsF x)] K = (
 let x0 : Nat := (List.length l)
 let x1 : Nat := (List.length x)
 let x2 : List Tm := (Tm.termsS (Tm.rwOf x0 (rawsF l)) 5)
 let x3 : Nat := (List.length x2)
 let x4 : List Tm := (Tm.Tm.args (Prod.fst (Tm.termS (Tm.rwOf (Min.min x1 (Int.toNat 6)) (rawsF x)) 0)))
 let x5 : List AV := [AV.int IntKind.i64 (Tm.Tm.kind (Prod.fst (Tm.termS (Tm.rwOf (Min.min x1 (Int.toNat 6)) (rawsF x)) 0))), AV.int IntKind.i64 (Tm.Tm.id (Prod.fst (Tm.termS (Tm.rwOf (Min.min x1 (Int.toNat 6)) (rawsF x)) 0))), AV.int IntKind.i64 (Tm.Tm.other (Prod.fst (Tm.termS (Tm.rwOf (Min.min x1 (Int.toNat 6)) (rawsF x)) 0))), AV.vecr Bool.false 4 (List.length x4) (Tm.tmF x4)]
 let x6 : Nat := 140737488355328
 let x7 : List AV := [AV.int IntKind.i64 1, AV.int IntKind.i64 99, AV.int IntKind.i64 0, AV.vec Bool.true 4 []]
 let x8 : List AV := [AV.int IntKind.i64 1, AV.int IntKind.i64 1, AV.int IntKind.i64 0, AV.vec Bool.true 4 []]
 let x9 : Bool := (Tm.okTS (AV.vec Bool.false 4 [AV.agg x8]))
 let x10 : List AV := [AV.int IntKind.i64 1, AV.int IntKind.i64 2, AV.int IntKind.i64 0, AV.vec Bool.true 4 []]
 let x11 : List Tm := (Tm.rdTS (AV.vec Bool.false 4 [AV.agg x8]))
 cnd ((Tm.isRw x0 (rawsF l)) && Bool.true)
 (cnd ((Tm.isRw (Min.min x1 6) (rawsF x)) && Bool.true)
 (cnd ((Tm.okTS (AV.vecr Bool.false 4 x3 (Tm.tmF x2))) && ((Tm.okCS x5) && Bool.true))
 (cnd (leB (x3 * 48) x6)
 (cnd (x3 == x3)
 (cnd (leB ((x3 + 1) * 48) x6)
 (cnd ((Tm.okTS (AV.vecr Bool.false 4 (x3 + 1) (catF x3 (Tm.tmF x2) (rowF [AV.agg [AV.int IntKind.i64 7, AV.int IntKind.i64 0, AV.int IntKind.i64 0, AV.vec Bool.false 4 [AV.agg x5, AV.agg [AV.int IntKind.i64 1, AV.int IntKind.i64 0, AV.int IntKind.i64 0, AV.vec Bool.true 4 []], AV.agg x7]]])))) && ((Tm.okCS x7) && Bool.true))
 (cnd (x9 && ((Tm.okCS x8) && Bool.true))
 (cnd (x9 && ((Tm.okCS x10) && Bool.true))
 (ite2 ((Prod.snd (Tm.knowsS x11 (Tm.rdCS x8))) == 0)
 -- THEN
 (ite2 (cond Bool.true ((Prod.snd (Tm.knowsS x11 (Tm.rdCS x10))) == 0) Bool.false)
 -- THEN
 (ite2 (cond Bool.true (Prod.fst (Tm.knowsS x11 (Tm.rdCS x8))) Bool.false)
 -- THEN
 (ite2 (cond Bool.true (Bool.not (Prod.fst (Tm.knowsS x11 (Tm.rdCS x10)))) Bool.false)
 -- THEN
 (ite2 (cond Bool.true ((Prod.snd (Tm.knowsS (Tm.rdTS (AV.vecr Bool.false 4 x3 (Tm.tmF x2))) (Tm.rdCS x5))) == 0) Bool.false)
 -- THEN
 (ite2 (cond Bool.true ((Prod.snd (Tm.knowsS (Tm.rdTS (AV.vecr Bool.false 4 (x3 + 1) (catF x3 (Tm.tmF x2) (rowF [AV.agg [AV.int IntKind.i64 7, AV.int IntKind.i64 0, AV.int IntKind.i64 0, AV.vec Bool.false 4 [AV.agg x5, AV.agg [AV.int IntKind.i64 1, AV.int IntKind.i64 0, AV.int IntKind.i64 0, AV.vec Bool.true 4 []], AV.agg x7]]])))) (Tm.rdCS x7))) == 0) Bool.false)
 -- THEN
 (K (AV.bool (cond Bool.true ((Prod.fst (Tm.knowsS (Tm.rdTS (AV.vecr Bool.false 4 (x3 + 1) (catF x3 (Tm.tmF x2) (rowF [AV.agg [AV.int IntKind.i64 7, AV.int IntKind.i64 0, AV.int IntKind.i64 0, AV.vec Bool.false 4 [AV.agg x5, AV.agg [AV.int IntKind.i64 1, AV.int IntKind.i64 0, AV.int IntKind.i64 0, AV.vec Bool.true 4 []], AV.agg x7]]])))) (Tm.rdCS x7))) == (Prod.fst (Tm.knowsS (Tm.rdTS (AV.vecr Bool.false 4 x3 (Tm.tmF x2))) (Tm.rdCS x5)))) Bool.false)) [])
 -- ELSE
 (K (AV.bool Bool.false) []))
 -- ELSE
 (K (AV.bool Bool.false) []))
 -- ELSE
 (K (AV.bool Bool.false) []))
 -- ELSE
 (K (AV.bool Bool.false) []))
 -- ELSE
 (K (AV.bool Bool.false) []))
 -- ELSE
 (K (AV.bool Bool.false) []))))))))))) := by kernel_rfl

end Go.Proofs.Ytcnnogimaikicaa

set_option linter.unusedSimpArgs false
set_option linter.unusedVariables false
namespace Go.Proofs.Ytcnnogimaikicaa
open Go Go.V Go.Tm
set_option maxRecDepth 100000
theorem term_goodK (x : List Raw3) (k : Nat) (hk : k ≤ 6) : good (termF (x.take k) 0).1 ∧ tmSz (termF (x.take k) 0).1 ≤ 19 := by
  have h := termF_size _ (x.take k) (Nat.le_refl _) 0
  have : (x.take k).length ≤ 6 := by rw [List.length_take]; omega
  exact ⟨termF_good _, by omega⟩
theorem parts_ok (k i o : Int) (es : List Tm) (hl : es.length ≤ 1000) (h : ∀ t ∈ es, smT t = true) : okCS [.int .i64 k, .int .i64 i, .int .i64 o, .vec false 4 (es.map fun t => AV.agg (tmK1 t))] = true ∧ rdCS [.int .i64 k, .int .i64 i, .int .i64 o, .vec false 4 (es.map fun t => AV.agg (tmK1 t))] = .mk k i o es := by
  obtain ⟨h1, h2⟩ := okR_map es h
  constructor
  · rw [okCS_eq]
    simp only [okC, okC1, okC2, okC3, okE, okI, okT, h1, List.length_map, leB_of hl, beq_self_eq_true, Bool.and_self]
  · rw [rdCS_eq]
    simp only [rdL, rd1, rd2, rd3, rdI, rdA, h2]
theorem good_dp {t : Tm} {l : List Raw3} (h : t = (termF l 0).1) : dpT t ≤ 6 := by
  have := (termF_form _ l (Nat.le_refl _) 0 (by omega) (by omega)).2
  rw [h]; omega
theorem knowsParts_c (l : List Raw3) (_hl : l.length ≤ maxLen ∧ ∀ r ∈ l, r.ok) (x : List Raw3) (_hx : x.length ≤ maxLen ∧ ∀ r ∈ x, r.ok) (y : List Raw3) (_hy : y.length ≤ maxLen ∧ ∀ r ∈ y, r.ok) (i : Int) (_hi : -9223372036854775808 ≤ i ∧ i ≤ 9223372036854775807) (j : Int) (_hj : -9223372036854775808 ≤ j ∧ j ≤ 9223372036854775807) :
    HCall Try.E 5 [.vecr false 4 l.length (rawsF l), .vecr false 4 x.length (rawsF x), .vecr false 4 y.length (rawsF y), .int .i64 i, .int .i64 j] (.ret (.bool true) []) := by
  refine HCall.of_walk (R := R1) (T := T10) (fun _ _ => .unroll 2) 4 rfl rfl ?_
  rw [lparts_eq]
  dsimp only
  have z5 : (5 : Int).toNat = 5 := rfl
  obtain ⟨gl1, gl2, gl3⟩ := terms_good l 6
  obtain ⟨gx1, gx2⟩ := term_goodK x 5 (by decide)
  obtain ⟨gy1, gy2⟩ := term_goodK y 5 (by decide)
  have dx := good_dp (l := x.take 5) rfl
  have dy := good_dp (l := y.take 5) rfl
  rw [← termsS_eq] at gl1 gl2 gl3
  rw [← termS_eq] at gx1 gx2 gy1 gy2 dx dy
  have sl : Tm.smL (termsS l 6) = true := smL_iff.2 fun t ht => (gl1 t ht).2.2
  simp only [z5, (rw_all l).1, (rw_all l).2, (rw_cut x 5).1, (rw_cut x 5).2, (rw_cut y 5).1, (rw_cut y 5).2]
  generalize termsS l 6 = L at *
  generalize (termS (x.take 5) 0).1 = t at *
  generalize (termS (y.take 5) 0).1 = u at *
  have hi5 := Int.emod_nonneg i (show (5 : Int) ≠ 0 by decide)
  have hj5 := Int.emod_nonneg j (show (5 : Int) ≠ 0 by decide)
  generalize i % 5 = m at *
  generalize j % 5 = n at *
  have gp : good (.mk 4 0 0 [t, u]) := ⟨form_mk (by omega) (ok_pair _ rfl) (by simp [gx1.1, gy1.1]), by rw [dpT]; have : dpL [t, u] ≤ 6 := dpL_le.2 (by simp [dx, dy]); omega, smT_mk (by simp) (by simp [gx1.2.2, gy1.2.2])⟩
  have sp : tmSz (.mk 4 0 0 [t, u]) ≤ 300 := by simp only [tmSz, tmSzL]; omega
  obtain ⟨ga, sa⟩ := good_atom hi5
  have gb : good (pubT n) := ⟨form_pub hj5, by simp [pubT, dpT, dpL], rfl⟩
  have sb : tmSz (pubT n) ≤ 300 := by simp [pubT, tmSz, tmSzL]
  have gd : good (.mk 3 (min m n) (max m n) []) := ⟨form_dh (by omega) (by omega), by simp [dpT, dpL], rfl⟩
  have sd : tmSz (.mk 3 (min m n) (max m n) []) ≤ 300 := by simp [tmSz, tmSzL]
  have k1 := knows_good gl1 (by omega) gx1 (by omega)
  have k2 := knows_good gl1 (by omega) gy1 (by omega)
  have k3 := knows_good gl1 (by omega) gp sp
  have k4 := knows_good gl1 (by omega) ga (by omega)
  have k5 := knows_good gl1 (by omega) gb sb
  have k6 := knows_good gl1 (by omega) gd sd
  have hP := knows_pair k1.2 (t := t) (u := u)
  have hD := fun a b => knows_dh (B := fullT L) (m := m) (n := n) a b
  rw [hP] at k3
  rw [← knowsS_eq] at k1 k2 k3 k4 k5 k6
  have k4' : knowsS L (.mk 1 m 0 []) = (makesT (fullT L) (atomT m), 0) := k4.1
  have k5' : knowsS L (.mk 2 n 0 []) = (makesT (fullT L) (pubT n), 0) := k5.1
  have hy : knowsS [atomT 1] (.mk 1 1 0 []) = (true, 0) := by rw [knowsS_eq]; exact tells_yes
  have hn : knowsS [atomT 1] (.mk 1 2 0 []) = (false, 0) := by rw [knowsS_eq]; exact tells_no
  have pk := parts_ok 4 0 0 [t, u] (by simp) (by simp [gx1.2.2, gy1.2.2])
  have pk1 : okCS [.int .i64 4, .int .i64 0, .int .i64 0, .vec false 4 [.agg [.int .i64 t.kind, .int .i64 t.id, .int .i64 t.other, .vecr false 4 t.args.length (tmF t.args)], .agg [.int .i64 u.kind, .int .i64 u.id, .int .i64 u.other, .vecr false 4 u.args.length (tmF u.args)]]] = true := pk.1
  have pk2 : rdCS [.int .i64 4, .int .i64 0, .int .i64 0, .vec false 4 [.agg [.int .i64 t.kind, .int .i64 t.id, .int .i64 t.other, .vecr false 4 t.args.length (tmF t.args)], .agg [.int .i64 u.kind, .int .i64 u.id, .int .i64 u.other, .vecr false 4 u.args.length (tmF u.args)]]] = .mk 4 0 0 [t, u] := pk.2
  simp only [okTS_F (show L.length ≤ 1000 by omega) sl, rdTS_F, okCS_K1 gx1.2.2, okCS_K1 gy1.2.2, rdCS_K1, pk1, pk2, tells_ok.1, tells_ok.2, okCS_nil, rdCS_nil, hy, hn, k1.1, k2.1, k3.1, k4', k5', k6.1, beq_self_eq_true, Bool.and_self, Bool.and_true, Bool.true_and, cond_true, cond_false, Bool.not_false, Bool.not_true, ite2_true, ite2_false, cnd_eq, true_and]
  generalize makesT (fullT L) t = a at *
  generalize makesT (fullT L) u = b at *
  cases a <;> cases b <;> simp only [Bool.and_self, Bool.and_false, Bool.false_and, Bool.and_true, Bool.true_and, beq_self_eq_true, ite2_true, ite2_false]
  all_goals
    refine ite2_iff.2 ⟨fun _ => ⟨rfl, rfl⟩, fun h1 => ite2_iff.2 ⟨fun _ => ⟨rfl, rfl⟩, fun h2 => ?_⟩⟩
    rw [hD (by simpa using h1) (by simpa using h2)]
    exact ⟨rfl, rfl⟩
end Go.Proofs.Ytcnnogimaikicaa

set_option linter.unusedSimpArgs false
set_option linter.unusedVariables false
namespace Go.Proofs.Ytcnnogimaikicaa
open Go Go.V Go.Tm
set_option maxRecDepth 100000
theorem nil_K1 (i : Int) : okC [.int .i64 1, .int .i64 i, .int .i64 0, .vec true 4 []] = true ∧ rdL [.int .i64 1, .int .i64 i, .int .i64 0, .vec true 4 []] = atomT i := ⟨rfl, rfl⟩
theorem box_ok {t : Tm} (h : smT t = true) : okC [.int .i64 7, .int .i64 0, .int .i64 0, .vec false 4 [.agg (tmK1 t), .agg [.int .i64 1, .int .i64 0, .int .i64 0, .vec true 4 []], .agg [.int .i64 1, .int .i64 99, .int .i64 0, .vec true 4 []]]] = true ∧
    rdL [.int .i64 7, .int .i64 0, .int .i64 0, .vec false 4 [.agg (tmK1 t), .agg [.int .i64 1, .int .i64 0, .int .i64 0, .vec true 4 []], .agg [.int .i64 1, .int .i64 99, .int .i64 0, .vec true 4 []]]] = boxT t := by
  have l3 : leB 3 1000 = true := rfl
  constructor
  · simp only [okC, okC1, okC2, okC3, okE, okI, okT, okR, okG1, okC_K1 h, List.length_cons, List.length_nil, leB_of (show 0 + 1 + 1 + 1 ≤ 1000 by decide), leB_of (show 0 ≤ 1000 by decide), beq_self_eq_true, Bool.and_self]
  · simp only [rdL, rd1, rd2, rd3, rdI, rdA, rdR, rdG, rdL_K1]; rfl
theorem knowsLocked_c (l : List Raw3) (_hl : l.length ≤ maxLen ∧ ∀ r ∈ l, r.ok) (x : List Raw3) (_hx : x.length ≤ maxLen ∧ ∀ r ∈ x, r.ok) :
    HCall Try.E 6 [.vecr false 4 l.length (rawsF l), .vecr false 4 x.length (rawsF x)] (.ret (.bool true) []) := by
  refine HCall.of_walk (R := R1) (T := T10) (fun _ _ => .unroll 2) 4 rfl rfl ?_
  rw [llock_eq]
  dsimp only
  have z6 : (6 : Int).toNat = 6 := rfl
  obtain ⟨gl1, gl2, gl3⟩ := terms_good l 5
  obtain ⟨gx1, gx2⟩ := term_goodK x 6 (by decide)
  have dx := good_dp (l := x.take 6) rfl
  have cL : ∀ u ∈ termsT l 5, cl u = true := termsN_cl 5 _
  have cx := termF_cl _ (x.take 6) (Nat.le_refl _) 0 (by decide)
  rw [← termsS_eq] at gl1 gl2 gl3 cL
  rw [← termS_eq] at gx1 gx2 dx cx
  have sl : Tm.smL (termsS l 5) = true := smL_iff.2 fun t ht => (gl1 t ht).2.2
  simp only [z6, (rw_all l).1, (rw_all l).2, (rw_cut x 6).1, (rw_cut x 6).2]
  generalize termsS l 5 = L at *
  generalize (termS (x.take 6) 0).1 = t at *
  have gb : good (boxT t) := ⟨form_mk (by omega) (ok_lock _ rfl) (by simp [gx1.1, (good_atom (i := 0) (by decide)).1.1, (good_atom (i := 99) (by decide)).1.1]), by
    unfold boxT
    rw [dpT]
    have : dpL [t, atomT 0, atomT 99] ≤ 6 := dpL_le.2 (by simp [dx, atomT, dpT, dpL])
    omega, smT_mk (by simp) (by simp [gx1.2.2, (good_atom (i := 0) (by decide)).1.2.2, (good_atom (i := 99) (by decide)).1.2.2])⟩
  have sb : tmSz (boxT t) ≤ 30 := by unfold boxT; simp only [tmSz, tmSzL, atomT]; omega
  obtain ⟨g9, s9⟩ := good_atom (i := 99) (by decide)
  have hb := box_ok gx1.2.2
  have hcat := cat_ok (a := L) (b := [boxT t]) (m := 1) rfl rfl (by omega) (f := tmF L) (g := rowF [AV.agg [.int .i64 7, .int .i64 0, .int .i64 0, .vec false 4 [.agg (tmK1 t), .agg [.int .i64 1, .int .i64 0, .int .i64 0, .vec true 4 []], .agg [.int .i64 1, .int .i64 99, .int .i64 0, .vec true 4 []]]]]) (fun i hi => ⟨okC_K (sm_get sl hi), rdL_K _⟩) (fun i hi => by
    obtain rfl : i = 0 := by omega
    exact hb)
  have k1 := knows_good gl1 (by omega) gx1 (by omega)
  have k2 := knows_good (L := L ++ [boxT t]) (t := atomT 99) (fun v hv => by
    rcases List.mem_append.1 hv with h | h
    · exact gl1 v h
    · rw [List.mem_singleton] at h; rw [h]; exact gb) (by rw [tmSzL_append, tmSzL, tmSzL]; omega) g9 (by omega)
  have hK := knows_locked k1.2 k2.2 cL cx
  rw [hK] at k2
  rw [← knowsS_eq] at k1 k2
  have k2' : knowsS (L ++ [boxT t]) (.mk 1 99 0 []) = (makesT (fullT L) t, 0) := k2.1
  have hy : knowsS [atomT 1] (.mk 1 1 0 []) = (true, 0) := by rw [knowsS_eq]; exact tells_yes
  have hn : knowsS [atomT 1] (.mk 1 2 0 []) = (false, 0) := by rw [knowsS_eq]; exact tells_no
  have hcat1 : okTS (.vecr false 4 (L.length + 1) (catF L.length (tmF L) (rowF [AV.agg [.int .i64 7, .int .i64 0, .int .i64 0, .vec false 4 [.agg [.int .i64 t.kind, .int .i64 t.id, .int .i64 t.other, .vecr false 4 t.args.length (tmF t.args)], .agg [.int .i64 1, .int .i64 0, .int .i64 0, .vec true 4 []], .agg [.int .i64 1, .int .i64 99, .int .i64 0, .vec true 4 []]]]]))) = true := hcat.1
  have hcat2 : rdTS (.vecr false 4 (L.length + 1) (catF L.length (tmF L) (rowF [AV.agg [.int .i64 7, .int .i64 0, .int .i64 0, .vec false 4 [.agg [.int .i64 t.kind, .int .i64 t.id, .int .i64 t.other, .vecr false 4 t.args.length (tmF t.args)], .agg [.int .i64 1, .int .i64 0, .int .i64 0, .vec true 4 []], .agg [.int .i64 1, .int .i64 99, .int .i64 0, .vec true 4 []]]]]))) = L ++ [boxT t] := hcat.2
  simp only [okTS_F (show L.length ≤ 1000 by omega) sl, rdTS_F, okCS_K1 gx1.2.2, rdCS_K1, hcat1, hcat2, tells_ok.1, tells_ok.2, okCS_nil, rdCS_nil, hy, hn, k1.1, k2', leB_of (show L.length * 48 ≤ 140737488355328 by omega), leB_of (show (L.length + 1) * 48 ≤ 140737488355328 by omega), beq_self_eq_true, Bool.and_self, Bool.and_true, Bool.true_and, cond_true, cond_false, Bool.not_false, Bool.not_true, ite2_true, ite2_false, cnd_eq, true_and]
  exact ⟨rfl, rfl⟩
end Go.Proofs.Ytcnnogimaikicaa
