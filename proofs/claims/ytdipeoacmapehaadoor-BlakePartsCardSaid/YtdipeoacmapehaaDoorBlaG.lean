import Derived.Test.YtdipeoacmapehaaDoorGBlaE
set_option linter.unusedSimpArgs false
set_option linter.unusedVariables false
namespace Go.Proofs.YtdipeoacmapehaaDoor
open Go Go.V Go.Cha Go.Bla
set_option maxRecDepth 100000

theorem badd_s (s : BS) (full : Bool) (b : List UInt8) (o : s.ok) (hb : s.len + b.length ≤ 1073741824) :
    HCall Tryd.E 8 [.agg [.w32 8 s.h, .b8 64 s.held, .int .i64 ((s.n : Nat) : Int), .int .i64 ((s.len : Nat) : Int)], .vec8 full b]
      (.ret (.tup [.agg [.w32 8 (addB s b).h, .b8 64 (addB s b).held, .int .i64 (((addB s b).n : Nat) : Int), .int .i64 (((addB s b).len : Nat) : Int)], .int .i64 0]) []) := by
  refine HCall.of_walk (R := RS) (T := B2) (fun _ _ => baddL s b) 5 rfl rfl ?_
  rw [badd_eq]
  dsimp only
  rw [o.s, subI_eq, wr_of (z := 1073741824 - ((s.len : Nat) : Int)) (by omega) (by omega), ltI_no (x := 1073741824 - ((s.len : Nat) : Int)) (by omega)]
  refine ⟨⟨0, by rw [Inv.upTo_int]; omega, ?_⟩, fun i hi => ?_⟩
  · rw [List.take_zero, addB_nil]
    exact ⟨rfl, rfl, rfl, rfl, rfl, rfl, rfl, rfl, rfl, rfl, rfl, trivial⟩
  · rw [Inv.upTo_int] at hi
    have hlt : (b.take i).length = i := by rw [List.length_take]; omega
    obtain ⟨os, ol⟩ := addB_ok (b := b.take i) o (by omega)
    rw [hlt] at ol
    have hn := os.n
    rcases Nat.lt_or_ge i b.length with h | h
    · have hstep := take_addB (s := s) h
      generalize hS : addB s (b.take i) = S at *
      rw [ltI_of (by omega), inB_of (by omega) (by omega), leB_of (by omega)]
      show ite2 (((S.n : Nat) : Int) == 64) _ _
      rw [wr_of (z := (i : Int) + 1) (by omega) (by omega), wr_of (z := ((S.n : Nat) : Int) + 1) (by omega) (by omega), wr_of (z := ((S.len : Nat) : Int) + 1) (by omega) (by omega), show ofs 0 ((i : Nat) : Int) = i from rfl, Int.toNat_natCast]
      unfold stepB at hstep
      by_cases e : S.n = 64
      · rw [if_pos e] at hstep
        refine ite2_iff.2 ⟨fun _ => ⟨i + 1, ⟨Inv.up_lt (by omega), by rw [Inv.upTo_int]; omega⟩, ?_⟩, fun h => ?_⟩
        · rw [hstep]
          exact ⟨rfl, rfl, rfl, rfl, rfl, rfl, rfl, rfl, rfl, rfl, rfl, trivial⟩
        · rw [e] at h; exact absurd h (by decide)
      · rw [if_neg e] at hstep
        refine ite2_iff.2 ⟨fun h => ?_, fun _ => ?_⟩
        · have : ((S.n : Nat) : Int) = 64 := eq_of_beq h
          omega
        · rw [inB_of (by omega) (by omega)]
          refine ⟨i + 1, ⟨Inv.up_lt (by omega), by rw [Inv.upTo_int]; omega⟩, ?_⟩
          rw [hstep]
          exact ⟨rfl, rfl, rfl, rfl, rfl, rfl, rfl, rfl, rfl, rfl, rfl, trivial⟩
    · rw [ltI_no (by omega), List.take_of_length_le h]
      exact ite2_iff.2 ⟨fun h => Bool.noConfusion h, fun _ => ⟨rfl, rfl⟩⟩

theorem bend_w (s : BS) (K : AV → Heap → Prop) : walk Tryd.E RS B2.C (fun _ _ => .unroll 33) 5 9 [.agg [.w32 8 s.h, .b8 64 s.held, .int .i64 ((s.n : Nat) : Int), .int .i64 ((s.len : Nat) : Int)]] K =
  cnd (okS s.held ((s.n : Nat) : Int) ((s.len : Nat) : Int)) (K (.tup [.b8 32 (bytesB (squeezeS s.h s.held ((s.len : Nat) : Int) true)), .int .i64 0]) []) := by kernel_rfl
theorem bend_s (s : BS) (o : s.ok) : HCall Tryd.E 9 [.agg [.w32 8 s.h, .b8 64 s.held, .int .i64 ((s.n : Nat) : Int), .int .i64 ((s.len : Nat) : Int)]] (.ret (.tup [.b8 32 (endB s), .int .i64 0]) []) := by
  refine HCall.of_walk (R := RS) (T := B2) (fun _ _ => .unroll 33) 5 rfl rfl ?_
  rw [bend_w, o.s, endB_eq]
  unfold endF
  exact ⟨rfl, rfl⟩

theorem BS.of {h : List UInt32} {held : List UInt8} {n len : Int} (hh : held.length = 64) (ok : okP held n len) : BS.ok ⟨h, held, n.toNat, len.toNat⟩ ∧ ((n.toNat : Nat) : Int) = n ∧ ((len.toNat : Nat) : Int) = len := by
  have e1 : ((n.toNat : Nat) : Int) = n := by have := ok.1; omega
  have e2 : ((len.toNat : Nat) : Int) = len := by have := ok.1; have := ok.2.2.1; omega
  exact ⟨⟨hh, by show okP held ((n.toNat : Nat) : Int) ((len.toNat : Nat) : Int); rw [e1, e2]; exact ok⟩, e1, e2⟩

noncomputable def bsO (h : List UInt32) (held : List UInt8) (n len : Int) (b : List UInt8) : BS := addB ⟨h, held, n.toNat, len.toNat⟩ b
theorem badd_c (h : List UInt32) (held : List UInt8) (n len : Int) (full : Bool) (b : List UInt8) (ok : okP held n len) (hb : len.toNat + b.length ≤ 1073741824) :
    HCall Tryd.E 8 [.agg [.w32 8 h, .b8 64 held, .int .i64 n, .int .i64 len], .vec8 full b]
      (.ret (.tup [.agg [.w32 8 (bsO h held n len b).h, .b8 64 (bsO h held n len b).held, .int .i64 (((bsO h held n len b).n : Nat) : Int), .int .i64 (((bsO h held n len b).len : Nat) : Int)], .int .i64 0]) []) := by
  refine HCall.of_lens rfl rfl fun hl => ?_
  have hh : held.length = 64 := hl (.agg _) (List.mem_cons_self ..) (.b8 64 held) (by simp)
  obtain ⟨o, e1, e2⟩ := BS.of (h := h) hh ok
  have := badd_s ⟨h, held, n.toNat, len.toNat⟩ full b o hb
  dsimp only at this
  rw [e1, e2] at this
  exact this
theorem bend_c (h : List UInt32) (held : List UInt8) (n len : Int) (ok : okP held n len) :
    HCall Tryd.E 9 [.agg [.w32 8 h, .b8 64 held, .int .i64 n, .int .i64 len]] (.ret (.tup [.b8 32 (endB ⟨h, held, n.toNat, len.toNat⟩), .int .i64 0]) []) := by
  refine HCall.of_lens rfl rfl fun hl => ?_
  have hh : held.length = 64 := hl (.agg _) (List.mem_cons_self ..) (.b8 64 held) (by simp)
  obtain ⟨o, e1, e2⟩ := BS.of (h := h) hh ok
  have := bend_s ⟨h, held, n.toNat, len.toNat⟩ o
  dsimp only at this
  rw [e1, e2] at this
  exact this
noncomputable def B3 : Ctr Tryd.E := (B2.add 8 (fun
    | [.agg [.w32 8 h, .b8 64 held, .int .i64 n, .int .i64 len], .vec8 _ b] => some (okS held n len && leB (len.toNat + b.length) 1073741824, .ret (.tup [.agg [.w32 8 (bsO h held n len b).h, .b8 64 (bsO h held n len b).held, .int .i64 (((bsO h held n len b).n : Nat) : Int), .int .i64 (((bsO h held n len b).len : Nat) : Int)], .int .i64 0]) [])
    | _ => none) (by
      intro args pre out h hp
      split at h
      · simp only [Option.some.injEq, Prod.mk.injEq] at h
        obtain ⟨rfl, rfl⟩ := h
        simp only [Bool.and_eq_true, leB_iff] at hp
        exact badd_c _ _ _ _ _ _ (okS_iff.1 hp.1) hp.2
      · simp at h)).add 9 (fun
    | [.agg [.w32 8 h, .b8 64 held, .int .i64 n, .int .i64 len]] => some (okS held n len, .ret (.tup [.b8 32 (endB ⟨h, held, n.toNat, len.toNat⟩), .int .i64 0]) [])
    | _ => none) (by
      intro args pre out h hp
      split at h
      · simp only [Option.some.injEq, Prod.mk.injEq] at h
        obtain ⟨rfl, rfl⟩ := h
        exact bend_c _ _ _ _ (okS_iff.1 hp)
      · simp at h)
end Go.Proofs.YtdipeoacmapehaaDoor
