import Derived.Test.YtdipeoacmapehaaDoorGBlaD
set_option linter.unusedSimpArgs false
set_option linter.unusedVariables false
namespace Go.Proofs.YtdipeoacmapehaaDoor
open Go Go.V Go.Cha Go.Bla
set_option maxRecDepth 100000

theorem bbegin_w (K : AV → Heap → Prop) : walk Tryd.E RS B1.C (fun _ l => .unroll 17) 5 7 [] K = K (.agg [.w32 8 (iv.set 0 1795745351), .b8 64 zero64, .int .i64 0, .int .i64 0]) [] := by kernel_rfl
theorem bbegin_c : HCall Tryd.E 7 [] (.ret (.agg [.w32 8 startS.h, .b8 64 startS.held, .int .i64 ((startS.n : Nat) : Int), .int .i64 ((startS.len : Nat) : Int)]) []) := by
  refine HCall.of_walk (R := RS) (T := B1) (fun _ _ => .unroll 17) 5 rfl rfl ?_
  rw [bbegin_w]
  exact ⟨rfl, rfl⟩

theorem eqF_refl : ∀ x : List (Nat × Nat), eqF x x = true
  | [] => rfl
  | (a, b) :: r => by simp [eqF, eqF_refl r]

theorem bcheck_c (h : List UInt32) (held : List UInt8) (n len : Int) (o : okP held n len) : HCall Tryd.E 21 [.agg [.w32 8 h, .b8 64 held, .int .i64 n, .int .i64 len]] (.ret (.int .i64 0) []) := by
  refine HCall.of_lens rfl rfl fun hl => ?_
  have hh : held.length = 64 := hl (.agg _) (List.mem_cons_self ..) (.b8 64 held) (by simp)
  clear hl
  refine HCall.of_walk (R := ROps.frz Tryd.E) (T := B1) (fun _ l => bif l == 4 then Inv.count [47, 48] 48 49 else .unroll 17) 5 rfl rfl ?_
  rw [bcheck_eq]
  obtain ⟨p1, p2, p3, p4, p5, p6, p7⟩ := o
  have e5 : sliceOk (some n) none 64 = true := by
    show (nnB _ && leB (Int.toNat _) _) = true
    rw [nnB_iff.2 p1, leB_of (by omega)]; rfl
  have e6 : sliceL (some n) none held = held.drop n.toNat := rfl
  have e7 : (Int.tmod (wr .i64 (subI len n)) 64 != 0) = false := by
    rw [subI_eq, wr_of (by omega) (by omega), Int.tmod_eq_emod_of_nonneg (by omega), p5]; rfl
  dsimp only
  rw [e5, e6, e7, ltI_no (x := n) (by omega), ltI_no (x := 64) (by omega), ltI_no (x := len) (by omega), ltI_no (x := 1073741824) (by omega), eqF_refl]
  have hl : (held.drop n.toNat).length = 64 - n.toNat := by rw [List.length_drop, hh]
  have hz : ∀ i, (held.drop n.toNat).getD i 0 = 0 := fun i => by
    rw [List.getD_eq_getElem?_getD, List.getElem?_drop, ← List.getD_eq_getElem?_getD]
    exact p7 _ (by omega)
  generalize held.drop n.toNat = l at *
  have go : (∃ w0 : Nat, Inv.upTo [AV.int .i64 ((l.length : Nat) : Int)] w0 ∧ ((AV.vec8 false l = AV.vec8 false l) ∧ ((AV.int .i64 ((l.length : Nat) : Int) = AV.int .i64 ((l.length : Nat) : Int)) ∧ ((AV.int .i64 0 = AV.int .i64 ((w0 : Nat) : Int)) ∧ cnd true ((AV.w32 8 h = AV.w32 8 h) ∧ ((AV.b8 64 held = AV.b8 64 held) ∧ ((AV.int .i64 n = AV.int .i64 n) ∧ ((AV.int .i64 len = AV.int .i64 len) ∧ True)))))))) ∧ (∀ w1 : Nat, (Inv.upTo [AV.int .i64 ((l.length : Nat) : Int)] w1 → ite2 (ltI ((w1 : Nat) : Int) ((l.length : Nat) : Int))
 (cnd ((inB ((w1 : Nat) : Int) l.length) && true)
 (cnd (leB (0 + l.length) l.length)
 (ite2 ((((UInt8.toNat (List.getD l (ofs 0 ((w1 : Nat) : Int)) 0)) : Nat) : Int) != 0)
 ((Out.ret (AV.int .i64 0) []).has (AV.int .i64 9) [])
 ((∃ w2 : Nat, (((Inv.up w2) < (Inv.up w1)) ∧ (Inv.upTo [AV.int .i64 ((l.length : Nat) : Int)] w2)) ∧ ((AV.vec8 false l = AV.vec8 false l) ∧ ((AV.int .i64 ((l.length : Nat) : Int) = AV.int .i64 ((l.length : Nat) : Int)) ∧ ((AV.int .i64 (wr .i64 (((w1 : Nat) : Int) + 1)) = AV.int .i64 ((w2 : Nat) : Int)) ∧ cnd true ((AV.w32 8 h = AV.w32 8 h) ∧ ((AV.b8 64 held = AV.b8 64 held) ∧ ((AV.int .i64 n = AV.int .i64 n) ∧ ((AV.int .i64 len = AV.int .i64 len) ∧ True))))))))))))
 ((Out.ret (AV.int .i64 0) []).has (AV.int .i64 0) []))) := by
    refine ⟨⟨0, by rw [Inv.upTo_int]; omega, rfl, rfl, rfl, rfl, rfl, rfl, rfl, trivial⟩, fun w1 hi => ?_⟩
    rw [Inv.upTo_int] at hi
    rcases Nat.lt_or_ge w1 l.length with h1 | h1
    · rw [ltI_of (by omega), inB_of (by omega) (by omega), leB_of (by omega), hz, wr_of (by omega) (by omega)]
      exact ⟨w1 + 1, ⟨Inv.up_lt (by omega), by rw [Inv.upTo_int]; omega⟩, rfl, rfl, rfl, rfl, rfl, rfl, rfl, trivial⟩
    · rw [ltI_no (by omega)]
      exact ite2_iff.2 ⟨fun h => Bool.noConfusion h, fun _ => ⟨rfl, rfl⟩⟩
  by_cases hn : n = 0
  · subst hn
    have := p6 rfl
    subst this
    exact go
  · have : (n == 0) = false := beq_eq_false_iff_ne.2 hn
    rw [this]
    exact go
noncomputable def B2 : Ctr Tryd.E := (B1.add 7 (fun
    | [] => some (true, .ret (.agg [.w32 8 startS.h, .b8 64 startS.held, .int .i64 ((startS.n : Nat) : Int), .int .i64 ((startS.len : Nat) : Int)]) [])
    | _ => none) (by
      intro args pre out h hp
      split at h
      · simp only [Option.some.injEq, Prod.mk.injEq] at h
        obtain ⟨rfl, rfl⟩ := h
        exact bbegin_c
      · simp at h)).add 21 (fun
    | [.agg [.w32 8 _, .b8 64 held, .int .i64 n, .int .i64 len]] => some (okS held n len, .ret (.int .i64 0) [])
    | _ => none) (by
      intro args pre out h hp
      split at h
      · simp only [Option.some.injEq, Prod.mk.injEq] at h
        obtain ⟨rfl, rfl⟩ := h
        exact bcheck_c _ _ _ _ (okS_iff.1 hp)
      · simp at h)
end Go.Proofs.YtdipeoacmapehaaDoor
