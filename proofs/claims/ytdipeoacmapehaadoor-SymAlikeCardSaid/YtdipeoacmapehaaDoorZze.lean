import Derived.Test.YtdipeoacmapehaaDoorZzd
import Derived.Test.YtdipeoacmapehaaDoorZzc
import Derived.Test.YtdipeoacmapehaaDoorZza
import Derived.ProofKit
import Derived.OpenShut
import Derived.Carry
import Derived.Deep.DeepHandedRow
import Derived.Lib.LaidTab
import Derived.Deep.Slices
import Derived.ChangeMaps5
set_option linter.unusedSimpArgs false
set_option linter.unusedVariables false
namespace Go.Proofs.YtdipeoacmapehaaDoor
open Go Go.V Go.Fld Go.Pol
set_option maxRecDepth 100000

theorem soak_c (r p a : List UInt64) (h : List UInt8) (n : Int) (hr : v2 r < 21267647932558653966460912964485513216) (ha : v3 a < q) (h0 : 0 ≤ n) (h1 : n ≤ 16) :
    HCall Tryd.E 51 [.agg [.w64 2 r, .w64 2 p, .w64 3 a, .b8 16 h, .int .i64 n]] (.ret (.agg [.w64 2 r, .w64 2 p, .w64 3 (w3 (soakN (v2 r) (v3 a) h n.toNat)), .b8 16 zeros, .int .i64 0]) []) := by
  refine HCall.of_lens rfl rfl fun hl => ?_
  have hh : h.length = 16 := hl (.agg _) (List.mem_cons_self ..) (.b8 16 h) (by simp)
  clear hl
  obtain ⟨m, rfl⟩ : ∃ m : Nat, n = m := ⟨n.toNat, by omega⟩
  refine HCall.of_walk (R := RS) (T := P2) (fun _ _ => .unroll 17) 5 rfl rfl ?_
  rw [soak_eq]
  intro x0 x1 x2 x3 x4 x5 x6 x7 x8 x9 x10
  have l0 : x0.length = 8 := by show (List.take 8 h).length = 8; rw [List.length_take]; omega
  have l1 : x1.length = 8 := by show (List.drop 8 h).length = 8; rw [List.length_drop]; omega
  have hp := part_lt h (n := m) (by omega)
  have hp16 := part_lt h (n := 16) (by omega)
  have e2 : x2 = ((m / 8 : Nat) : Int) := by
    show wr .i64 (Int.tdiv (m : Int) 8) = _
    rw [show Int.tdiv (m : Int) 8 = ((m / 8 : Nat) : Int) from rfl, wr_of (by omega) (by omega)]
  have e3 : x3 = ((8 * (m % 8) : Nat) : Int) := by
    show wr .i64 (8 * (Int.tmod (m : Int) 8)) = _
    rw [show Int.tmod (m : Int) 8 = ((m % 8 : Nat) : Int) from rfl, wr_of (by omega) (by omega)]
    omega
  have eq1 : x4 = rowsF h := rfl
  have e8 : x8 = true := ltQ_of hr
  have hq : q = 1361129467683753853853498429727072845819 := rfl
  rw [l0, l1]
  clear_value x2 x3
  subst e2 e3
  rw [cnd_eq, cnd_eq]
  refine ⟨rfl, rfl, ?_⟩
  rcases Nat.lt_or_ge m 16 with hm | hm
  · rw [ltI_of (by omega)]
    have e6 : x6 = v3 a + Pol.part h m := by
      rw [part_eq]; unfold partF
      rw [if_pos hm]
      show v3 (w3 (v3 a + v3 _)) = _
      rw [v3_w3']
      · rfl
      · have : v3 (List.set x5 (ofs 0 ((m / 8 : Nat) : Int)) (List.getD x5 (ofs 0 ((m / 8 : Nat) : Int)) 0 ||| shl64 1 (Int.toNat ((8 * (m % 8) : Nat) : Int)))) = Pol.part h m := by
          rw [part_eq]; unfold partF
          rw [if_pos hm]; rfl
        rw [this]
        omega
    clear_value x6
    subst e6
    have e9 : ltQ (v3 a + Pol.part h m) x7 = true := ltQ_of (show v3 a + Pol.part h m < 2722258935367507707706996859454145691648 by omega)
    rw [e9, e8, inB_of (by omega) (by omega), nnB_iff.2 (by omega)]
    refine ⟨?_, rfl⟩
    rfl
  · have hm : m = 16 := by omega
    subst hm
    rw [ltI_no (by omega)]
    have e6 : x10 = v3 a + Pol.part h 16 := by
      rw [part_eq]; unfold partF
      rw [if_neg (by omega)]
      show v3 (w3 (v3 a + v3 _)) = _
      rw [v3_w3']
      · rfl
      · have : v3 x4 = Pol.part h 16 := by
          rw [part_eq]; unfold partF
          rw [if_neg (by omega)]
          rfl
        rw [this]
        omega
    clear_value x10
    subst e6
    have e9 : ltQ (v3 a + Pol.part h 16) x7 = true := ltQ_of (show v3 a + Pol.part h 16 < 2722258935367507707706996859454145691648 by omega)
    rw [e9, e8]
    refine ⟨?_, rfl⟩
    rfl

noncomputable def rOf (k : List UInt8) : List UInt64 := List.set (List.set [0, 0] 0 (halfS (List.take 8 k) &&& 1152921487695413247)) 1 (halfS (List.take 8 (List.drop 8 k)) &&& 1152921487695413244)
noncomputable def padOf (k : List UInt8) : List UInt64 := List.set (List.set [0, 0] 0 (halfS (List.take 8 (List.drop 16 k)))) 1 (halfS (List.drop 24 k))

theorem w3_zero : w3 0 = [0, 0, 0] := by rw [w3_eq]; rfl

theorem begin_c (k : List UInt8) : HCall Tryd.E 47 [.b8 32 k] (.ret (.agg [.w64 2 (rOf k), .w64 2 (padOf k), .w64 3 (w3 0), .b8 16 zeros, .int .i64 0]) []) := by
  refine HCall.of_len rfl rfl fun hl => ?_
  have hk : k.length = 32 := hl _ (List.mem_cons_self ..)
  refine HCall.of_walk (R := RS) (T := P2) (fun _ _ => .unroll 17) 5 rfl rfl ?_
  rw [begin_eq, w3_zero]
  dsimp only
  simp only [List.length_take, List.length_drop, hk]
  exact ⟨rfl, rfl⟩

theorem chk_of {r a : List UInt64} {h : List UInt8} {n : Int} (o : okP r a h n) (E O : Prop) (hO : O) :
  (let x0 : Int := (((UInt64.toNat (List.getD a 2 0)) : Nat) : Int)
ite2 ((((UInt64.toNat ((List.getD r 0 0) &&& 17293822586014138368)) : Nat) : Int) != 0)
 E
 (ite2 (cond Bool.false Bool.true ((((UInt64.toNat ((List.getD r 1 0) &&& 17293822586014138371)) : Nat) : Int) != 0))
 E
 (ite2 (cond Bool.false Bool.true (ltI 3 x0))
 E
 (ite2 (x0 == 3)
 (ite2 (cond Bool.true ((((UInt64.toNat (List.getD a 1 0)) : Nat) : Int) == 18446744073709551615) Bool.false)
 (ite2 (cond Bool.false Bool.true (cond Bool.true (Bool.not (ltI (((UInt64.toNat (List.getD a 0 0)) : Nat) : Int) 18446744073709551611)) Bool.false))
 E
 O)
 O)
 O)))) := by
  intro x0
  obtain ⟨o1, o2, o3, _⟩ := o
  rw [v3_eq] at o3
  unfold v3F q at o3
  have hA : ltI 3 x0 = false := ltI_no (show ((List.getD a 2 0).toNat : Int) ≤ 3 by omega)
  rw [o1, o2, hA]
  show ite2 (x0 == 3) _ O
  rw [ite2_eq]
  refine ⟨fun h3 => ?_, fun _ => hO⟩
  rw [ite2_eq]
  refine ⟨fun h4 => ?_, fun _ => hO⟩
  have h3 : (((List.getD a 2 0).toNat : Nat) : Int) = 3 := eq_of_beq h3
  have h4 : (((List.getD a 1 0).toNat : Nat) : Int) = 18446744073709551615 := eq_of_beq h4
  rw [ltI_of (show (((List.getD a 0 0).toNat : Nat) : Int) < 18446744073709551611 by omega)]
  exact hO

theorem check_c (r p a : List UInt64) (h : List UInt8) (n : Int) (o : okP r a h n) : HCall Tryd.E 50 [.agg [.w64 2 r, .w64 2 p, .w64 3 a, .b8 16 h, .int .i64 n]] (.ret (.int .i64 0) []) := by
  refine HCall.of_lens rfl rfl fun hl => ?_
  have hh : h.length = 16 := hl (.agg _) (List.mem_cons_self ..) (.b8 16 h) (by simp)
  clear hl
  have h0 := o.2.2.2.1
  have h1 := o.2.2.2.2.1
  have z := o.2.2.2.2.2
  have he := eta16 hh
  obtain ⟨m, rfl⟩ : ∃ m : Nat, n = m := ⟨n.toNat, by omega⟩
  have z : ∀ i, m ≤ i → h.getD i 0 = 0 := fun i hi => z i (by simpa using hi)
  have hm : m < 16 := by omega
  clear h0 h1 hh
  match m, hm with
  | 0, _ =>
    rw [z 0 (by decide), z 1 (by decide), z 2 (by decide), z 3 (by decide), z 4 (by decide), z 5 (by decide), z 6 (by decide), z 7 (by decide), z 8 (by decide), z 9 (by decide), z 10 (by decide), z 11 (by decide), z 12 (by decide), z 13 (by decide), z 14 (by decide), z 15 (by decide)] at he
    generalize o' : o = oo; clear o'
    rw [he]
    refine HCall.of_walk (R := RS) (T := P2) (fun _ _ => .unroll 17) 5 rfl rfl ?_
    have e := check0_eq r p a 
    exact (e _).symm ▸ chk_of oo _ _ ⟨rfl, rfl⟩
  | 1, _ =>
    rw [z 1 (by decide), z 2 (by decide), z 3 (by decide), z 4 (by decide), z 5 (by decide), z 6 (by decide), z 7 (by decide), z 8 (by decide), z 9 (by decide), z 10 (by decide), z 11 (by decide), z 12 (by decide), z 13 (by decide), z 14 (by decide), z 15 (by decide)] at he
    generalize o' : o = oo; clear o'
    rw [he]
    refine HCall.of_walk (R := RS) (T := P2) (fun _ _ => .unroll 17) 5 rfl rfl ?_
    have e := check1_eq r p a (h.getD 0 0)
    exact (e _).symm ▸ chk_of oo _ _ ⟨rfl, rfl⟩
  | 2, _ =>
    rw [z 2 (by decide), z 3 (by decide), z 4 (by decide), z 5 (by decide), z 6 (by decide), z 7 (by decide), z 8 (by decide), z 9 (by decide), z 10 (by decide), z 11 (by decide), z 12 (by decide), z 13 (by decide), z 14 (by decide), z 15 (by decide)] at he
    generalize o' : o = oo; clear o'
    rw [he]
    refine HCall.of_walk (R := RS) (T := P2) (fun _ _ => .unroll 17) 5 rfl rfl ?_
    have e := check2_eq r p a (h.getD 0 0) (h.getD 1 0)
    exact (e _).symm ▸ chk_of oo _ _ ⟨rfl, rfl⟩
  | 3, _ =>
    rw [z 3 (by decide), z 4 (by decide), z 5 (by decide), z 6 (by decide), z 7 (by decide), z 8 (by decide), z 9 (by decide), z 10 (by decide), z 11 (by decide), z 12 (by decide), z 13 (by decide), z 14 (by decide), z 15 (by decide)] at he
    generalize o' : o = oo; clear o'
    rw [he]
    refine HCall.of_walk (R := RS) (T := P2) (fun _ _ => .unroll 17) 5 rfl rfl ?_
    have e := check3_eq r p a (h.getD 0 0) (h.getD 1 0) (h.getD 2 0)
    exact (e _).symm ▸ chk_of oo _ _ ⟨rfl, rfl⟩
  | 4, _ =>
    rw [z 4 (by decide), z 5 (by decide), z 6 (by decide), z 7 (by decide), z 8 (by decide), z 9 (by decide), z 10 (by decide), z 11 (by decide), z 12 (by decide), z 13 (by decide), z 14 (by decide), z 15 (by decide)] at he
    generalize o' : o = oo; clear o'
    rw [he]
    refine HCall.of_walk (R := RS) (T := P2) (fun _ _ => .unroll 17) 5 rfl rfl ?_
    have e := check4_eq r p a (h.getD 0 0) (h.getD 1 0) (h.getD 2 0) (h.getD 3 0)
    exact (e _).symm ▸ chk_of oo _ _ ⟨rfl, rfl⟩
  | 5, _ =>
    rw [z 5 (by decide), z 6 (by decide), z 7 (by decide), z 8 (by decide), z 9 (by decide), z 10 (by decide), z 11 (by decide), z 12 (by decide), z 13 (by decide), z 14 (by decide), z 15 (by decide)] at he
    generalize o' : o = oo; clear o'
    rw [he]
    refine HCall.of_walk (R := RS) (T := P2) (fun _ _ => .unroll 17) 5 rfl rfl ?_
    have e := check5_eq r p a (h.getD 0 0) (h.getD 1 0) (h.getD 2 0) (h.getD 3 0) (h.getD 4 0)
    exact (e _).symm ▸ chk_of oo _ _ ⟨rfl, rfl⟩
  | 6, _ =>
    rw [z 6 (by decide), z 7 (by decide), z 8 (by decide), z 9 (by decide), z 10 (by decide), z 11 (by decide), z 12 (by decide), z 13 (by decide), z 14 (by decide), z 15 (by decide)] at he
    generalize o' : o = oo; clear o'
    rw [he]
    refine HCall.of_walk (R := RS) (T := P2) (fun _ _ => .unroll 17) 5 rfl rfl ?_
    have e := check6_eq r p a (h.getD 0 0) (h.getD 1 0) (h.getD 2 0) (h.getD 3 0) (h.getD 4 0) (h.getD 5 0)
    exact (e _).symm ▸ chk_of oo _ _ ⟨rfl, rfl⟩
  | 7, _ =>
    rw [z 7 (by decide), z 8 (by decide), z 9 (by decide), z 10 (by decide), z 11 (by decide), z 12 (by decide), z 13 (by decide), z 14 (by decide), z 15 (by decide)] at he
    generalize o' : o = oo; clear o'
    rw [he]
    refine HCall.of_walk (R := RS) (T := P2) (fun _ _ => .unroll 17) 5 rfl rfl ?_
    have e := check7_eq r p a (h.getD 0 0) (h.getD 1 0) (h.getD 2 0) (h.getD 3 0) (h.getD 4 0) (h.getD 5 0) (h.getD 6 0)
    exact (e _).symm ▸ chk_of oo _ _ ⟨rfl, rfl⟩
  | 8, _ =>
    rw [z 8 (by decide), z 9 (by decide), z 10 (by decide), z 11 (by decide), z 12 (by decide), z 13 (by decide), z 14 (by decide), z 15 (by decide)] at he
    generalize o' : o = oo; clear o'
    rw [he]
    refine HCall.of_walk (R := RS) (T := P2) (fun _ _ => .unroll 17) 5 rfl rfl ?_
    have e := check8_eq r p a (h.getD 0 0) (h.getD 1 0) (h.getD 2 0) (h.getD 3 0) (h.getD 4 0) (h.getD 5 0) (h.getD 6 0) (h.getD 7 0)
    exact (e _).symm ▸ chk_of oo _ _ ⟨rfl, rfl⟩
  | 9, _ =>
    rw [z 9 (by decide), z 10 (by decide), z 11 (by decide), z 12 (by decide), z 13 (by decide), z 14 (by decide), z 15 (by decide)] at he
    generalize o' : o = oo; clear o'
    rw [he]
    refine HCall.of_walk (R := RS) (T := P2) (fun _ _ => .unroll 17) 5 rfl rfl ?_
    have e := check9_eq r p a (h.getD 0 0) (h.getD 1 0) (h.getD 2 0) (h.getD 3 0) (h.getD 4 0) (h.getD 5 0) (h.getD 6 0) (h.getD 7 0) (h.getD 8 0)
    exact (e _).symm ▸ chk_of oo _ _ ⟨rfl, rfl⟩
  | 10, _ =>
    rw [z 10 (by decide), z 11 (by decide), z 12 (by decide), z 13 (by decide), z 14 (by decide), z 15 (by decide)] at he
    generalize o' : o = oo; clear o'
    rw [he]
    refine HCall.of_walk (R := RS) (T := P2) (fun _ _ => .unroll 17) 5 rfl rfl ?_
    have e := check10_eq r p a (h.getD 0 0) (h.getD 1 0) (h.getD 2 0) (h.getD 3 0) (h.getD 4 0) (h.getD 5 0) (h.getD 6 0) (h.getD 7 0) (h.getD 8 0) (h.getD 9 0)
    exact (e _).symm ▸ chk_of oo _ _ ⟨rfl, rfl⟩
  | 11, _ =>
    rw [z 11 (by decide), z 12 (by decide), z 13 (by decide), z 14 (by decide), z 15 (by decide)] at he
    generalize o' : o = oo; clear o'
    rw [he]
    refine HCall.of_walk (R := RS) (T := P2) (fun _ _ => .unroll 17) 5 rfl rfl ?_
    have e := check11_eq r p a (h.getD 0 0) (h.getD 1 0) (h.getD 2 0) (h.getD 3 0) (h.getD 4 0) (h.getD 5 0) (h.getD 6 0) (h.getD 7 0) (h.getD 8 0) (h.getD 9 0) (h.getD 10 0)
    exact (e _).symm ▸ chk_of oo _ _ ⟨rfl, rfl⟩
  | 12, _ =>
    rw [z 12 (by decide), z 13 (by decide), z 14 (by decide), z 15 (by decide)] at he
    generalize o' : o = oo; clear o'
    rw [he]
    refine HCall.of_walk (R := RS) (T := P2) (fun _ _ => .unroll 17) 5 rfl rfl ?_
    have e := check12_eq r p a (h.getD 0 0) (h.getD 1 0) (h.getD 2 0) (h.getD 3 0) (h.getD 4 0) (h.getD 5 0) (h.getD 6 0) (h.getD 7 0) (h.getD 8 0) (h.getD 9 0) (h.getD 10 0) (h.getD 11 0)
    exact (e _).symm ▸ chk_of oo _ _ ⟨rfl, rfl⟩
  | 13, _ =>
    rw [z 13 (by decide), z 14 (by decide), z 15 (by decide)] at he
    generalize o' : o = oo; clear o'
    rw [he]
    refine HCall.of_walk (R := RS) (T := P2) (fun _ _ => .unroll 17) 5 rfl rfl ?_
    have e := check13_eq r p a (h.getD 0 0) (h.getD 1 0) (h.getD 2 0) (h.getD 3 0) (h.getD 4 0) (h.getD 5 0) (h.getD 6 0) (h.getD 7 0) (h.getD 8 0) (h.getD 9 0) (h.getD 10 0) (h.getD 11 0) (h.getD 12 0)
    exact (e _).symm ▸ chk_of oo _ _ ⟨rfl, rfl⟩
  | 14, _ =>
    rw [z 14 (by decide), z 15 (by decide)] at he
    generalize o' : o = oo; clear o'
    rw [he]
    refine HCall.of_walk (R := RS) (T := P2) (fun _ _ => .unroll 17) 5 rfl rfl ?_
    have e := check14_eq r p a (h.getD 0 0) (h.getD 1 0) (h.getD 2 0) (h.getD 3 0) (h.getD 4 0) (h.getD 5 0) (h.getD 6 0) (h.getD 7 0) (h.getD 8 0) (h.getD 9 0) (h.getD 10 0) (h.getD 11 0) (h.getD 12 0) (h.getD 13 0)
    exact (e _).symm ▸ chk_of oo _ _ ⟨rfl, rfl⟩
  | 15, _ =>
    rw [z 15 (by decide)] at he
    generalize o' : o = oo; clear o'
    rw [he]
    refine HCall.of_walk (R := RS) (T := P2) (fun _ _ => .unroll 17) 5 rfl rfl ?_
    have e := check15_eq r p a (h.getD 0 0) (h.getD 1 0) (h.getD 2 0) (h.getD 3 0) (h.getD 4 0) (h.getD 5 0) (h.getD 6 0) (h.getD 7 0) (h.getD 8 0) (h.getD 9 0) (h.getD 10 0) (h.getD 11 0) (h.getD 12 0) (h.getD 13 0) (h.getD 14 0)
    exact (e _).symm ▸ chk_of oo _ _ ⟨rfl, rfl⟩

theorem check16_c (r p a : List UInt64) (h : List UInt8) : HCall Tryd.E 50 [.agg [.w64 2 r, .w64 2 p, .w64 3 a, .b8 16 h, .int .i64 16]] (.ret (.int .i64 9) []) := by
  refine HCall.of_walk (R := RS) (T := P2) (fun _ _ => .unroll 17) 5 rfl rfl ?_
  rw [check16_eq]
  simp only [ite2_eq, has_ret, and_self, implies_true]

noncomputable def P3 : Ctr Tryd.E := ((P2.add 51 (fun
    | [.agg [.w64 2 r, .w64 2 p, .w64 3 a, .b8 16 h, .int .i64 n]] => some (ltQ (v2 r) 21267647932558653966460912964485513216 && (ltQ (v3 a) q && inB n 17), .ret (.agg [.w64 2 r, .w64 2 p, .w64 3 (w3 (soakN (v2 r) (v3 a) h n.toNat)), .b8 16 zeros, .int .i64 0]) [])
    | _ => none) (by
      intro args pre out h hp
      split at h
      · simp only [Option.some.injEq, Prod.mk.injEq] at h
        obtain ⟨rfl, rfl⟩ := h
        simp only [Bool.and_eq_true, ltQ_iff, inB_iff] at hp
        exact soak_c _ _ _ _ _ hp.1 hp.2.1 (by omega) (by omega)
      · simp at h)).add 47 (fun
    | [.b8 32 k] => some (true, .ret (.agg [.w64 2 (rOf k), .w64 2 (padOf k), .w64 3 (w3 0), .b8 16 zeros, .int .i64 0]) [])
    | _ => none) (by
      intro args pre out h hp
      split at h
      · simp only [Option.some.injEq, Prod.mk.injEq] at h
        obtain ⟨rfl, rfl⟩ := h
        exact begin_c _
      · simp at h)).add 50 (fun
    | [.agg [.w64 2 r, .w64 2 p, .w64 3 a, .b8 16 h, .int .i64 n]] => some (n == 16 || okS r a h n, .alt (n == 16) (.ret (.int .i64 9) []) (.ret (.int .i64 0) []))
    | _ => none) (by
      intro args pre out h hp
      split at h
      · simp only [Option.some.injEq, Prod.mk.injEq] at h
        obtain ⟨rfl, rfl⟩ := h
        simp only [Bool.or_eq_true, okS_iff, beq_iff_eq] at hp
        rename_i r p a h n
        by_cases e : n = 16
        · subst e
          exact HCall.alt_l rfl rfl (check16_c _ _ _ _)
        · exact HCall.alt_r (by simpa using e) rfl (check_c _ _ _ _ _ (hp.resolve_left e))
      · simp at h)
end Go.Proofs.YtdipeoacmapehaaDoor

set_option linter.unusedSimpArgs false
set_option linter.unusedVariables false
namespace Go.Proofs.YtdipeoacmapehaaDoor
open Go Go.V Go.Fld Go.Pol
/-- Bytes put to a sum. -/
noncomputable def addS : Nat → PS → List UInt8 → PS := (sealed addP).val
theorem addS_eq (r : Nat) (s : PS) (b : List UInt8) : addS r s b = addP r s b := by rw [addS, (sealed addP).property]
noncomputable def psB (r p : List UInt64) (s : PS) : AV := .agg [.w64 2 r, .w64 2 p, .w64 3 (w3 s.a), .b8 16 s.h, .int .i64 ((s.n : Nat) : Int)]
noncomputable def addL (r p : List UInt64) (s : PS) (b : List UInt8) : LPlan := .rel [2, 4, 15, 16, 17] [16] Nat Inv.upTo Inv.up (fun i => [(17, .int .i64 (i : Nat))])
  (fun i => [(0, .blk [.w64 2 r, .w64 2 p, .w64 3 (w3 (addS (v2 r) s (b.take i)).a), .b8 16 (addS (v2 r) s (b.take i)).h, .int .i64 (((addS (v2 r) s (b.take i)).n : Nat) : Int)] [])])
end Go.Proofs.YtdipeoacmapehaaDoor

set_option linter.unusedSimpArgs false
set_option linter.unusedVariables false
namespace Go.Proofs.YtdipeoacmapehaaDoor
open Go Go.V Go.Fld Go.Pol
set_option maxHeartbeats 0
set_option maxRecDepth 100000

theorem add_eq (r p : List UInt64) (s : PS) (full : Bool) (b : List UInt8) (K : AV → Heap → Prop) : walk Tryd.E RS P3.C (fun _ _ => addL r p s b) 5 46 [.agg [.w64 2 r, .w64 2 p, .w64 3 (w3 s.a), .b8 16 s.h, .int .i64 ((s.n : Nat) : Int)], .vec8 full b] K = (
let x0 : Int := (((Pol.PS.n s) : Nat) : Int)
let x1 : List UInt64 := (Pol.w3 (Pol.PS.a s))
let x2 : Nat := (List.length b)
let x3 : Int := ((x2 : Nat) : Int)
cnd ((x0 == 16) || (Pol.okS r x1 (Pol.PS.h s) x0))
 (ite2 (x0 == 16)
 -- THEN
 (K (AV.tup [AV.agg [AV.w64 2 [0, 0], AV.w64 2 [0, 0], AV.w64 3 [0, 0, 0], AV.b8 16 [0, 0, 0, 0, 0, 0, 0, 0, 0, 0, 0, 0, 0, 0, 0, 0], AV.int IntKind.i64 0], AV.int IntKind.i64 9]) [])
 -- ELSE
 ((∃ w0 : Nat, (Inv.upTo [AV.int IntKind.i64 x3] w0) ∧ ((AV.vec8 full b = AV.vec8 full b) ∧ ((AV.int IntKind.i64 x3 = AV.int IntKind.i64 x3) ∧ ((AV.int IntKind.i64 0 = AV.int IntKind.i64 ((w0 : Nat) : Int)) ∧ ((AV.w64 2 r = AV.w64 2 r) ∧ ((AV.w64 2 p = AV.w64 2 p) ∧ ((AV.w64 3 x1 = AV.w64 3 (Pol.w3 (Pol.PS.a (addS (Pol.v2 r) s (List.take w0 b))))) ∧ ((AV.b8 16 (Pol.PS.h s) = AV.b8 16 (Pol.PS.h (addS (Pol.v2 r) s (List.take w0 b)))) ∧ ((AV.int IntKind.i64 x0 = AV.int IntKind.i64 (((Pol.PS.n (addS (Pol.v2 r) s (List.take w0 b))) : Nat) : Int)) ∧ ((AV.w64 2 [0, 0] = AV.w64 2 [0, 0]) ∧ ((AV.w64 2 [0, 0] = AV.w64 2 [0, 0]) ∧ ((AV.w64 3 [0, 0, 0] = AV.w64 3 [0, 0, 0]) ∧ ((AV.b8 16 [0, 0, 0, 0, 0, 0, 0, 0, 0, 0, 0, 0, 0, 0, 0, 0] = AV.b8 16 [0, 0, 0, 0, 0, 0, 0, 0, 0, 0, 0, 0, 0, 0, 0, 0]) ∧ ((AV.int IntKind.i64 0 = AV.int IntKind.i64 0) ∧ True)))))))))))))) ∧ (∀ w1 : Nat, (Inv.upTo [AV.int IntKind.i64 x3] w1 → ite2 (ltI ((w1 : Nat) : Int) x3)
 -- THEN
 (cnd ((inB ((w1 : Nat) : Int) x2) && Bool.true)
 (cnd (leB (0 + x2) x2)
 (cnd (inB (((Pol.PS.n (addS (Pol.v2 r) s (List.take w1 b))) : Nat) : Int) 16)
 (ite2 ((wr IntKind.i64 ((((Pol.PS.n (addS (Pol.v2 r) s (List.take w1 b))) : Nat) : Int) + 1)) == 16)
 -- THEN
 (cnd ((Pol.ltQ (Pol.v2 r) 21267647932558653966460912964485513216) && ((Pol.ltQ (Pol.v3 (Pol.w3 (Pol.PS.a (addS (Pol.v2 r) s (List.take w1 b))))) 1361129467683753853853498429727072845819) && (inB (wr IntKind.i64 ((((Pol.PS.n (addS (Pol.v2 r) s (List.take w1 b))) : Nat) : Int) + 1)) 17)))
 ((∃ w2 : Nat, (((Inv.up w2) < (Inv.up w1)) ∧ (Inv.upTo [AV.int IntKind.i64 x3] w2)) ∧ ((AV.vec8 full b = AV.vec8 full b) ∧ ((AV.int IntKind.i64 x3 = AV.int IntKind.i64 x3) ∧ ((AV.int IntKind.i64 (wr IntKind.i64 (((w1 : Nat) : Int) + 1)) = AV.int IntKind.i64 ((w2 : Nat) : Int)) ∧ ((AV.w64 2 r = AV.w64 2 r) ∧ ((AV.w64 2 p = AV.w64 2 p) ∧ ((AV.w64 3 (Pol.w3 (Pol.soakN (Pol.v2 r) (Pol.v3 (Pol.w3 (Pol.PS.a (addS (Pol.v2 r) s (List.take w1 b))))) (List.set (Pol.PS.h (addS (Pol.v2 r) s (List.take w1 b))) (Int.toNat (((Pol.PS.n (addS (Pol.v2 r) s (List.take w1 b))) : Nat) : Int)) (List.getD b (ofs 0 ((w1 : Nat) : Int)) 0)) (Int.toNat (wr IntKind.i64 ((((Pol.PS.n (addS (Pol.v2 r) s (List.take w1 b))) : Nat) : Int) + 1))))) = AV.w64 3 (Pol.w3 (Pol.PS.a (addS (Pol.v2 r) s (List.take w2 b))))) ∧ ((AV.b8 16 Pol.zeros = AV.b8 16 (Pol.PS.h (addS (Pol.v2 r) s (List.take w2 b)))) ∧ ((AV.int IntKind.i64 0 = AV.int IntKind.i64 (((Pol.PS.n (addS (Pol.v2 r) s (List.take w2 b))) : Nat) : Int)) ∧ ((AV.w64 2 [0, 0] = AV.w64 2 [0, 0]) ∧ ((AV.w64 2 [0, 0] = AV.w64 2 [0, 0]) ∧ ((AV.w64 3 [0, 0, 0] = AV.w64 3 [0, 0, 0]) ∧ ((AV.b8 16 [0, 0, 0, 0, 0, 0, 0, 0, 0, 0, 0, 0, 0, 0, 0, 0] = AV.b8 16 [0, 0, 0, 0, 0, 0, 0, 0, 0, 0, 0, 0, 0, 0, 0, 0]) ∧ ((AV.int IntKind.i64 0 = AV.int IntKind.i64 0) ∧ True))))))))))))))))
 -- ELSE
 ((∃ w3 : Nat, (((Inv.up w3) < (Inv.up w1)) ∧ (Inv.upTo [AV.int IntKind.i64 x3] w3)) ∧ ((AV.vec8 full b = AV.vec8 full b) ∧ ((AV.int IntKind.i64 x3 = AV.int IntKind.i64 x3) ∧ ((AV.int IntKind.i64 (wr IntKind.i64 (((w1 : Nat) : Int) + 1)) = AV.int IntKind.i64 ((w3 : Nat) : Int)) ∧ ((AV.w64 2 r = AV.w64 2 r) ∧ ((AV.w64 2 p = AV.w64 2 p) ∧ ((AV.w64 3 (Pol.w3 (Pol.PS.a (addS (Pol.v2 r) s (List.take w1 b)))) = AV.w64 3 (Pol.w3 (Pol.PS.a (addS (Pol.v2 r) s (List.take w3 b))))) ∧ ((AV.b8 16 (List.set (Pol.PS.h (addS (Pol.v2 r) s (List.take w1 b))) (Int.toNat (((Pol.PS.n (addS (Pol.v2 r) s (List.take w1 b))) : Nat) : Int)) (List.getD b (ofs 0 ((w1 : Nat) : Int)) 0)) = AV.b8 16 (Pol.PS.h (addS (Pol.v2 r) s (List.take w3 b)))) ∧ ((AV.int IntKind.i64 (wr IntKind.i64 ((((Pol.PS.n (addS (Pol.v2 r) s (List.take w1 b))) : Nat) : Int) + 1)) = AV.int IntKind.i64 (((Pol.PS.n (addS (Pol.v2 r) s (List.take w3 b))) : Nat) : Int)) ∧ ((AV.w64 2 [0, 0] = AV.w64 2 [0, 0]) ∧ ((AV.w64 2 [0, 0] = AV.w64 2 [0, 0]) ∧ ((AV.w64 3 [0, 0, 0] = AV.w64 3 [0, 0, 0]) ∧ ((AV.b8 16 [0, 0, 0, 0, 0, 0, 0, 0, 0, 0, 0, 0, 0, 0, 0, 0] = AV.b8 16 [0, 0, 0, 0, 0, 0, 0, 0, 0, 0, 0, 0, 0, 0, 0, 0]) ∧ ((AV.int IntKind.i64 0 = AV.int IntKind.i64 0) ∧ True)))))))))))))))))))
 -- ELSE
 (K (AV.tup [AV.agg [AV.w64 2 r, AV.w64 2 p, AV.w64 3 (Pol.w3 (Pol.PS.a (addS (Pol.v2 r) s (List.take w1 b)))), AV.b8 16 (Pol.PS.h (addS (Pol.v2 r) s (List.take w1 b))), AV.int IntKind.i64 (((Pol.PS.n (addS (Pol.v2 r) s (List.take w1 b))) : Nat) : Int)], AV.int IntKind.i64 0]) [])))))) := by kernel_rfl

theorem theend_eq (r p : List UInt64) (s : PS) (K : AV → Heap → Prop) : walk Tryd.E RS P3.C (fun _ _ => .unroll 17) 5 48 [.agg [.w64 2 r, .w64 2 p, .w64 3 (w3 s.a), .b8 16 s.h, .int .i64 ((s.n : Nat) : Int)]] K = (
let x0 : Int := (((Pol.PS.n s) : Nat) : Int)
let x1 : List UInt64 := (Pol.w3 (Pol.PS.a s))
let x2 : List UInt8 := [0, 0, 0, 0, 0, 0, 0, 0, 0, 0, 0, 0, 0, 0, 0, 0]
let x3 : List UInt64 := (Pol.w3 (Pol.soakN (Pol.v2 r) (Pol.v3 x1) (Pol.PS.h s) (Int.toNat x0)))
let x4 : UInt64 := (List.getD x3 0 0)
let x5 : UInt64 := (List.getD p 0 0)
let x6 : UInt64 := (carry64 x4 x5 0)
let x7 : UInt64 := ((x4 + x5) + 0)
let x8 : UInt64 := (List.getD p 1 0)
let x9 : UInt64 := (((List.getD x3 1 0) + x8) + x6)
let x10 : UInt64 := (List.getD x1 0 0)
let x11 : UInt64 := (carry64 x10 x5 0)
let x12 : UInt64 := ((x10 + x5) + 0)
let x13 : UInt64 := (((List.getD x1 1 0) + x8) + x11)
cnd ((x0 == 16) || (Pol.okS r x1 (Pol.PS.h s) x0))
 (ite2 (x0 == 16)
 -- THEN
 (K (AV.tup [AV.b8 16 x2, AV.int IntKind.i64 9]) [])
 -- ELSE
 (ite2 (ltI 0 x0)
 -- THEN
 (cnd ((Pol.ltQ (Pol.v2 r) 21267647932558653966460912964485513216) && ((Pol.ltQ (Pol.v3 x1) 1361129467683753853853498429727072845819) && (inB x0 17)))
 (cnd (bit1 x6)
 (K (AV.tup [AV.b8 16 (List.set (List.set (List.set (List.set (List.set (List.set (List.set (List.set (List.set (List.set (List.set (List.set (List.set (List.set (List.set (List.set x2 0 (UInt64.toUInt8 (shr64 x7 0))) 8 (UInt64.toUInt8 (shr64 x9 0))) 1 (UInt64.toUInt8 (shr64 x7 8))) 9 (UInt64.toUInt8 (shr64 x9 8))) 2 (UInt64.toUInt8 (shr64 x7 16))) 10 (UInt64.toUInt8 (shr64 x9 16))) 3 (UInt64.toUInt8 (shr64 x7 24))) 11 (UInt64.toUInt8 (shr64 x9 24))) 4 (UInt64.toUInt8 (shr64 x7 32))) 12 (UInt64.toUInt8 (shr64 x9 32))) 5 (UInt64.toUInt8 (shr64 x7 40))) 13 (UInt64.toUInt8 (shr64 x9 40))) 6 (UInt64.toUInt8 (shr64 x7 48))) 14 (UInt64.toUInt8 (shr64 x9 48))) 7 (UInt64.toUInt8 (shr64 x7 56))) 15 (UInt64.toUInt8 (shr64 x9 56))), AV.int IntKind.i64 0]) [])))
 -- ELSE
 (cnd (bit1 x11)
 (K (AV.tup [AV.b8 16 (List.set (List.set (List.set (List.set (List.set (List.set (List.set (List.set (List.set (List.set (List.set (List.set (List.set (List.set (List.set (List.set x2 0 (UInt64.toUInt8 (shr64 x12 0))) 8 (UInt64.toUInt8 (shr64 x13 0))) 1 (UInt64.toUInt8 (shr64 x12 8))) 9 (UInt64.toUInt8 (shr64 x13 8))) 2 (UInt64.toUInt8 (shr64 x12 16))) 10 (UInt64.toUInt8 (shr64 x13 16))) 3 (UInt64.toUInt8 (shr64 x12 24))) 11 (UInt64.toUInt8 (shr64 x13 24))) 4 (UInt64.toUInt8 (shr64 x12 32))) 12 (UInt64.toUInt8 (shr64 x13 32))) 5 (UInt64.toUInt8 (shr64 x12 40))) 13 (UInt64.toUInt8 (shr64 x13 40))) 6 (UInt64.toUInt8 (shr64 x12 48))) 14 (UInt64.toUInt8 (shr64 x13 48))) 7 (UInt64.toUInt8 (shr64 x12 56))) 15 (UInt64.toUInt8 (shr64 x13 56))), AV.int IntKind.i64 0]) []))))) := by kernel_rfl

end Go.Proofs.YtdipeoacmapehaaDoor

set_option linter.unusedSimpArgs false
set_option linter.unusedVariables false
namespace Go.Proofs.YtdipeoacmapehaaDoor
open Go Go.V Go.Fld Go.Pol
set_option maxRecDepth 100000

theorem take_addS {r : Nat} {s : PS} {b : List UInt8} {i : Nat} (h : i < b.length) : addS r s (b.take (i + 1)) = stepP r (addS r s (b.take i)) (b.getD i 0) := by
  rw [addS_eq, addS_eq]
  have : b.take (i + 1) = b.take i ++ [b.getD i 0] := by
    rw [List.take_succ_eq_append_getElem h, List.getD_eq_getElem?_getD, List.getElem?_eq_getElem h]; rfl
  rw [this, addP_append]
  rfl
theorem addS_ok {r : Nat} {s : PS} (o : s.ok) (b : List UInt8) : (addS r s b).ok := by rw [addS_eq]; exact addP_ok o

theorem add_s (r p : List UInt64) (s : PS) (full : Bool) (b : List UInt8) (o : s.ok) (hb : b.length < 4611686018427387904) (hr : v2 r < 21267647932558653966460912964485513216) (ho : okS r (w3 s.a) s.h ((s.n : Nat) : Int) = true) :
    HCall Tryd.E 46 [.agg [.w64 2 r, .w64 2 p, .w64 3 (w3 s.a), .b8 16 s.h, .int .i64 ((s.n : Nat) : Int)], .vec8 full b]
      (.ret (.tup [.agg [.w64 2 r, .w64 2 p, .w64 3 (w3 (addS (v2 r) s b).a), .b8 16 (addS (v2 r) s b).h, .int .i64 (((addS (v2 r) s b).n : Nat) : Int)], .int .i64 0]) []) := by
  refine HCall.of_walk (R := RS) (T := P3) (fun _ _ => addL r p s b) 5 rfl rfl ?_
  rw [add_eq]
  have hn := o.n
  have e0 : (((s.n : Nat) : Int) == 16) = false := by rw [beq_eq_false_iff_ne]; omega
  dsimp only
  rw [e0, ho]
  simp only [Bool.false_or, cnd_true, ite2_false]
  refine ⟨⟨0, by rw [Inv.upTo_int]; omega, ?_⟩, ?_⟩
  · have e : addS (v2 r) s (b.take 0) = s := by rw [addS_eq]; rfl
    rw [e]
    simp only [true_and, and_true]
    rfl
  · intro i hi
    rw [Inv.upTo_int] at hi
    have os := addS_ok (r := v2 r) o (b.take i)
    have hsa := os.a; have hsn := os.n
    unfold q at hsa
    generalize hS : addS (v2 r) s (b.take i) = S at *
    rcases Nat.lt_or_ge i b.length with h | h
    · have hstep := take_addS (r := v2 r) (s := s) h
      rw [hS] at hstep
      rw [ltI_of (by omega), inB_of (by omega) (by omega), leB_of (by omega), inB_of (by omega) (by omega), wr_of (z := (i : Int) + 1) (by omega) (by omega), wr_of (z := ((S.n : Nat) : Int) + 1) (by omega) (by omega)]
      simp only [Bool.and_true, cnd_true, ite2_true]
      rw [show ofs 0 ((i : Nat) : Int) = i from rfl, Int.toNat_natCast, v3_w3' (by omega)]
      rw [ite2_eq]
      constructor
      · intro h15
        have h15 : ((S.n : Nat) : Int) + 1 = 16 := eq_of_beq h15
        have e15 : S.n = 15 := by omega
        rw [h15, ltQ_of hr, ltQ_of hsa]
        refine ⟨i + 1, ⟨Inv.up_lt (by omega), by rw [Inv.upTo_int]; omega⟩, ?_⟩
        rw [hstep]
        unfold stepP
        rw [if_pos e15]
        simp only [and_self, true_and, and_true]
        exact ⟨rfl, rfl, rfl⟩
      · intro h15
        have e15 : ¬ S.n = 15 := by
          intro e; rw [e] at h15; exact absurd h15 (by decide)
        refine ⟨i + 1, ⟨Inv.up_lt (by omega), by rw [Inv.upTo_int]; omega⟩, ?_⟩
        rw [hstep]
        unfold stepP
        rw [if_neg e15]
        simp only [and_self, true_and, and_true]
        exact ⟨rfl, rfl⟩
    · rw [ltI_no (by omega), ite2_false]
      rw [List.take_of_length_le h] at hS
      rw [hS]
      exact ⟨rfl, rfl⟩

theorem add_c (r p a : List UInt64) (h : List UInt8) (n : Int) (full : Bool) (b : List UInt8) (ok : okP r a h n) (hb : b.length < 4611686018427387904) :
    HCall Tryd.E 46 [.agg [.w64 2 r, .w64 2 p, .w64 3 a, .b8 16 h, .int .i64 n], .vec8 full b]
      (.ret (.tup [.agg [.w64 2 r, .w64 2 p, .w64 3 (w3 (addS (v2 r) ⟨v3 a, h, n.toNat⟩ b).a), .b8 16 (addS (v2 r) ⟨v3 a, h, n.toNat⟩ b).h, .int .i64 (((addS (v2 r) ⟨v3 a, h, n.toNat⟩ b).n : Nat) : Int)], .int .i64 0]) []) := by
  refine HCall.of_lens rfl rfl fun hl => ?_
  have hh : h.length = 16 := hl (.agg _) (List.mem_cons_self ..) (.b8 16 h) (by simp)
  have hr : r.length = 2 := hl (.agg _) (List.mem_cons_self ..) (.w64 2 r) (by simp)
  have ha : a.length = 3 := hl (.agg _) (List.mem_cons_self ..) (.w64 3 a) (by simp)
  have o : PS.ok ⟨v3 a, h, n.toNat⟩ := ⟨ok.2.2.1, hh, by have := ok.2.2.2.2.1; show n.toNat < 16; omega, ok.2.2.2.2.2⟩
  have h0 := ok.2.2.2.1
  have en : ((n.toNat : Nat) : Int) = n := by omega
  have := add_s r p ⟨v3 a, h, n.toNat⟩ full b o hb (ok.r2 hr) (by
    show okS r (w3 (v3 a)) h ((n.toNat : Nat) : Int) = true
    rw [w3_v3' ha, en]
    exact okS_iff.2 ok)
  dsimp only at this
  rw [w3_v3' ha, en] at this
  exact this

/-- The number at the end, and its bytes. -/
noncomputable def lastP (r : Nat) (s : PS) : Nat := if 0 < s.n then soakN r s.a s.h s.n else s.a
noncomputable def endF (acc : Nat) (p : List UInt64) : List UInt8 :=
  let x2 : List UInt8 := [0, 0, 0, 0, 0, 0, 0, 0, 0, 0, 0, 0, 0, 0, 0, 0]
  let x4 : UInt64 := (List.getD (w3 acc) 0 0)
  let x5 : UInt64 := (List.getD p 0 0)
  let x6 : UInt64 := (carry64 x4 x5 0)
  let x7 : UInt64 := ((x4 + x5) + 0)
  let x9 : UInt64 := (((List.getD (w3 acc) 1 0) + (List.getD p 1 0)) + x6)
  (List.set (List.set (List.set (List.set (List.set (List.set (List.set (List.set (List.set (List.set (List.set (List.set (List.set (List.set (List.set (List.set x2 0 (UInt64.toUInt8 (shr64 x7 0))) 8 (UInt64.toUInt8 (shr64 x9 0))) 1 (UInt64.toUInt8 (shr64 x7 8))) 9 (UInt64.toUInt8 (shr64 x9 8))) 2 (UInt64.toUInt8 (shr64 x7 16))) 10 (UInt64.toUInt8 (shr64 x9 16))) 3 (UInt64.toUInt8 (shr64 x7 24))) 11 (UInt64.toUInt8 (shr64 x9 24))) 4 (UInt64.toUInt8 (shr64 x7 32))) 12 (UInt64.toUInt8 (shr64 x9 32))) 5 (UInt64.toUInt8 (shr64 x7 40))) 13 (UInt64.toUInt8 (shr64 x9 40))) 6 (UInt64.toUInt8 (shr64 x7 48))) 14 (UInt64.toUInt8 (shr64 x9 48))) 7 (UInt64.toUInt8 (shr64 x7 56))) 15 (UInt64.toUInt8 (shr64 x9 56)))
noncomputable def endS : Nat → List UInt64 → List UInt8 := (sealed endF).val
theorem endS_eq (acc : Nat) (p : List UInt64) : endS acc p = endF acc p := by rw [endS, (sealed endF).property]

theorem end_s (r p : List UInt64) (s : PS) (o : s.ok) (hr : v2 r < 21267647932558653966460912964485513216) (ho : okS r (w3 s.a) s.h ((s.n : Nat) : Int) = true) :
    HCall Tryd.E 48 [.agg [.w64 2 r, .w64 2 p, .w64 3 (w3 s.a), .b8 16 s.h, .int .i64 ((s.n : Nat) : Int)]] (.ret (.tup [.b8 16 (endS (lastP (v2 r) s) p), .int .i64 0]) []) := by
  refine HCall.of_walk (R := RS) (T := P3) (fun _ _ => .unroll 17) 5 rfl rfl ?_
  rw [theend_eq]
  have hn := o.n
  have hsa := o.a
  unfold q at hsa
  have e0 : (((s.n : Nat) : Int) == 16) = false := by rw [beq_eq_false_iff_ne]; omega
  intro x0 x1 x2 x3 x4 x5 x6 x7 x8 x9 x10 x11 x12 x13
  have e0 : (x0 == 16) = false := e0
  have e1 : okS r x1 s.h x0 = true := ho
  have e2 : bit1 x6 = true := bit1_carry ..
  have e3 : bit1 x11 = true := bit1_carry ..
  have e4 : ltQ (v3 x1) 1361129467683753853853498429727072845819 = true := ltQ_of (by show v3 (w3 s.a) < _; rw [v3_w3' (by omega)]; exact hsa)
  have e5 : inB x0 17 = true := inB_of (show (0 : Int) ≤ ((s.n : Nat) : Int) by omega) (show ((s.n : Nat) : Int) < 17 by omega)
  rw [e0, e1, e2, e3, e4, e5, ltQ_of hr, endS_eq]
  unfold lastP
  rcases Nat.lt_or_ge 0 s.n with h | h
  · have e6 : ltI 0 x0 = true := ltI_of (show (0 : Int) < ((s.n : Nat) : Int) by omega)
    rw [e6, if_pos h]
    have e7 : x3 = w3 (soakN (v2 r) s.a s.h s.n) := by
      show w3 (soakN (v2 r) (v3 (w3 s.a)) s.h (Int.toNat ((s.n : Nat) : Int))) = _
      rw [v3_w3' (by omega), Int.toNat_natCast]
    refine ⟨?_, rfl⟩
    show AV.tup [AV.b8 16 _, AV.int IntKind.i64 0] = _
    unfold endF
    rw [← e7]
  · have e6 : ltI 0 x0 = false := ltI_no (show ((s.n : Nat) : Int) ≤ 0 by omega)
    rw [e6, if_neg (by omega)]
    exact ⟨rfl, rfl⟩

theorem end_c (r p a : List UInt64) (h : List UInt8) (n : Int) (ok : okP r a h n) :
    HCall Tryd.E 48 [.agg [.w64 2 r, .w64 2 p, .w64 3 a, .b8 16 h, .int .i64 n]] (.ret (.tup [.b8 16 (endS (lastP (v2 r) ⟨v3 a, h, n.toNat⟩) p), .int .i64 0]) []) := by
  refine HCall.of_lens rfl rfl fun hl => ?_
  have hh : h.length = 16 := hl (.agg _) (List.mem_cons_self ..) (.b8 16 h) (by simp)
  have hr : r.length = 2 := hl (.agg _) (List.mem_cons_self ..) (.w64 2 r) (by simp)
  have ha : a.length = 3 := hl (.agg _) (List.mem_cons_self ..) (.w64 3 a) (by simp)
  have o : PS.ok ⟨v3 a, h, n.toNat⟩ := ⟨ok.2.2.1, hh, by have := ok.2.2.2.2.1; show n.toNat < 16; omega, ok.2.2.2.2.2⟩
  have h0 := ok.2.2.2.1
  have en : ((n.toNat : Nat) : Int) = n := by omega
  have := end_s r p ⟨v3 a, h, n.toNat⟩ o (ok.r2 hr) (by
    show okS r (w3 (v3 a)) h ((n.toNat : Nat) : Int) = true
    rw [w3_v3' ha, en]
    exact okS_iff.2 ok)
  dsimp only at this
  rw [w3_v3' ha, en] at this
  exact this

noncomputable def P4 : Ctr Tryd.E := (P3.add 46 (fun
    | [.agg [.w64 2 r, .w64 2 p, .w64 3 a, .b8 16 h, .int .i64 n], .vec8 full b] => some (okS r a h n && ltB b.length 4611686018427387904,
        .ret (.tup [.agg [.w64 2 r, .w64 2 p, .w64 3 (w3 (addS (v2 r) ⟨v3 a, h, n.toNat⟩ b).a), .b8 16 (addS (v2 r) ⟨v3 a, h, n.toNat⟩ b).h, .int .i64 (((addS (v2 r) ⟨v3 a, h, n.toNat⟩ b).n : Nat) : Int)], .int .i64 0]) [])
    | _ => none) (by
      intro args pre out h hp
      split at h
      · simp only [Option.some.injEq, Prod.mk.injEq] at h
        obtain ⟨rfl, rfl⟩ := h
        simp only [Bool.and_eq_true, okS_iff, ltB_iff] at hp
        exact add_c _ _ _ _ _ _ _ hp.1 hp.2
      · simp at h)).add 48 (fun
    | [.agg [.w64 2 r, .w64 2 p, .w64 3 a, .b8 16 h, .int .i64 n]] => some (okS r a h n, .ret (.tup [.b8 16 (endS (lastP (v2 r) ⟨v3 a, h, n.toNat⟩) p), .int .i64 0]) [])
    | _ => none) (by
      intro args pre out h hp
      split at h
      · simp only [Option.some.injEq, Prod.mk.injEq] at h
        obtain ⟨rfl, rfl⟩ := h
        simp only [okS_iff] at hp
        exact end_c _ _ _ _ _ hp
      · simp at h)
end Go.Proofs.YtdipeoacmapehaaDoor

set_option linter.unusedSimpArgs false
set_option linter.unusedVariables false
namespace Go.Proofs.YtdipeoacmapehaaDoor
open Go Go.V Go.Fld Go.Pol
set_option maxHeartbeats 0
set_option maxRecDepth 100000

theorem tag_eq (k b : List UInt8) (full : Bool) (K : AV → Heap → Prop) : walk Tryd.E RS P4.C (fun _ _ => .unroll 17) 5 42 [.b8 32 k, .vec8 full b] K = (
let x0 : Nat := (Pol.v2 (rOf k))
let x1 : List UInt64 := (Pol.w3 (Pol.PS.a (addS x0 (Pol.PS.mk (Pol.v3 (Pol.w3 0)) Pol.zeros (Int.toNat 0)) b)))
let x2 : List UInt8 := (Pol.PS.h (addS x0 (Pol.PS.mk (Pol.v3 (Pol.w3 0)) Pol.zeros (Int.toNat 0)) b))
let x3 : Int := (((Pol.PS.n (addS x0 (Pol.PS.mk (Pol.v3 (Pol.w3 0)) Pol.zeros (Int.toNat 0)) b)) : Nat) : Int)
cnd ((Pol.okS (rOf k) (Pol.w3 0) Pol.zeros 0) && (ltB (List.length b) 4611686018427387904))
 (cnd (Pol.okS (rOf k) x1 x2 x3)
 (K (AV.b8 16 (endS (lastP x0 (Pol.PS.mk (Pol.v3 x1) x2 (Int.toNat x3))) (padOf k))) []))) := by kernel_rfl

end Go.Proofs.YtdipeoacmapehaaDoor

set_option linter.unusedSimpArgs false
set_option linter.unusedVariables false
namespace Go.Proofs.YtdipeoacmapehaaDoor
open Go Go.V Go.Fld Go.Pol
set_option maxRecDepth 100000

theorem and_none (x a b : UInt64) (h : a &&& b = 0) : ((x &&& a) &&& b).toNat = 0 := by
  rw [UInt64.and_assoc, h, UInt64.and_zero]; rfl
theorem rOf_0 (k : List UInt8) : ((rOf k).getD 0 0 &&& 17293822586014138368).toNat = 0 := and_none _ _ _ (by decide)
theorem rOf_1 (k : List UInt8) : ((rOf k).getD 1 0 &&& 17293822586014138371).toNat = 0 := and_none _ _ _ (by decide)
theorem ok0 : PS.ok ⟨0, zeros, 0⟩ := ⟨by decide, rfl, by decide, fun i _ => zeros_getD i⟩
theorem okS_r {k : List UInt8} {s : PS} (o : s.ok) : okS (rOf k) (w3 s.a) s.h ((s.n : Nat) : Int) = true := okS_of o (rOf_0 k) (rOf_1 k)
theorem ps_eta {s : PS} (o : s.ok) : PS.mk (v3 (w3 s.a)) s.h (Int.toNat ((s.n : Nat) : Int)) = s := by
  have h := o.a
  unfold q at h
  rw [v3_w3' (by omega), Int.toNat_natCast]

/-- The tag of bytes by a key. -/
noncomputable def tagF (k b : List UInt8) : List UInt8 := endS (lastP (v2 (rOf k)) (addS (v2 (rOf k)) ⟨0, zeros, 0⟩ b)) (padOf k)
noncomputable def tagS : List UInt8 → List UInt8 → List UInt8 := (sealed tagF).val
theorem tagS_eq (k b : List UInt8) : tagS k b = tagF k b := by rw [tagS, (sealed tagF).property]

theorem tag_c (k b : List UInt8) (full : Bool) (hb : b.length < 4611686018427387904) : HCall Tryd.E 42 [.b8 32 k, .vec8 full b] (.ret (.b8 16 (tagS k b)) []) := by
  refine HCall.of_walk (R := RS) (T := P4) (fun _ _ => .unroll 17) 5 rfl rfl ?_
  rw [tag_eq]
  have e0 : PS.mk (v3 (w3 0)) zeros (Int.toNat 0) = ⟨0, zeros, 0⟩ := ps_eta ok0
  have e1 : okS (rOf k) (w3 0) zeros 0 = true := okS_r ok0
  rw [e0, e1]
  have o := addS_ok (r := v2 (rOf k)) ok0 b
  dsimp only
  rw [okS_r o, ltB_of hb, ps_eta o, tagS_eq]
  exact ⟨rfl, rfl⟩

noncomputable def P5 : Ctr Tryd.E := (P4.add 42 (fun
    | [.b8 32 k, .vec8 _ b] => some (ltB b.length 4611686018427387904, .ret (.b8 16 (tagS k b)) [])
    | _ => none) (by
      intro args pre out h hp
      split at h
      · simp only [Option.some.injEq, Prod.mk.injEq] at h
        obtain ⟨rfl, rfl⟩ := h
        exact tag_c _ _ _ (ltB_iff.1 hp)
      · simp at h)).add 6 (fun
    | [.int .i64 n, .int .i64 m] => some (decide (0 < m) && decide (m ≤ 9223372036854775807), .ret (.int .i64 (n % m)) [])
    | _ => none) (by
      intro args pre out h hp
      split at h
      · simp only [Option.some.injEq, Prod.mk.injEq] at h
        obtain ⟨rfl, rfl⟩ := h
        simp only [Bool.and_eq_true, decide_eq_true_eq] at hp
        exact picked_c _ _ hp.1 hp.2
      · simp at h)
end Go.Proofs.YtdipeoacmapehaaDoor

/- Bytes turned by other bytes, each by that of its place. -/
set_option linter.unusedSimpArgs false
set_option linter.unusedVariables false
namespace Go.Cha
open Go Go.V

def turned (F : Nat → UInt8) (n : Nat) (b : List UInt8) : List UInt8 := b.mapIdx fun i x => if i < n then x ^^^ F i else x
theorem length_turned (F : Nat → UInt8) (n : Nat) (b : List UInt8) : (turned F n b).length = b.length := by simp [turned]
theorem turned_at (F : Nat → UInt8) (n : Nat) (b : List UInt8) (i : Nat) : (turned F n b)[i]? = b[i]?.map fun x => if i < n then x ^^^ F i else x := by
  simp [turned, List.getElem?_mapIdx]
theorem turned_zero (F : Nat → UInt8) (b : List UInt8) : turned F 0 b = b := by
  apply List.ext_getElem?; intro i
  rw [turned_at]
  cases b[i]? <;> simp
theorem turned_succ {F : Nat → UInt8} {n : Nat} {b : List UInt8} (_h : n < b.length) : (turned F n b).set n ((turned F n b).getD n 0 ^^^ F n) = turned F (n + 1) b := by
  apply List.ext_getElem?; intro i
  rw [List.getElem?_set, turned_at, List.getD_eq_getElem?_getD, turned_at, turned_at, length_turned]
  by_cases e : n = i
  · subst e
    rw [if_pos rfl, if_pos _h]
    have : b[n]? = some b[n] := List.getElem?_eq_getElem _h
    rw [this]
    simp
  · rw [if_neg e]
    cases b[i]? with
    | none => rfl
    | some x =>
      simp only [Option.map_some]
      by_cases h : i < n
      · rw [if_pos h, if_pos (by omega)]
      · rw [if_neg h, if_neg (by omega)]
theorem turned_past {F : Nat → UInt8} {n : Nat} {b : List UInt8} (h : b.length ≤ n) : turned F n b = turned F b.length b := by
  apply List.ext_getElem?; intro i
  rw [turned_at, turned_at]
  by_cases e : i < b.length
  · simp [e, show i < n by omega]
  · have : b[i]? = none := List.getElem?_eq_none (by omega)
    rw [this]; rfl
theorem turned_twice (F : Nat → UInt8) (n : Nat) (b : List UInt8) : turned F n (turned F n b) = b := by
  apply List.ext_getElem?; intro i
  rw [turned_at, turned_at]
  cases b[i]? with
  | none => rfl
  | some x =>
    simp only [Option.map_some]
    split
    · rw [UInt8.xor_assoc, UInt8.xor_self, UInt8.xor_zero]
    · rfl
theorem turned_drop (F : Nat → UInt8) (b : List UInt8) (m : Nat) : (turned F b.length b).drop m = turned (fun i => F (m + i)) (b.drop m).length (b.drop m) := by
  apply List.ext_getElem?; intro i
  rw [List.getElem?_drop, turned_at, turned_at, List.getElem?_drop, List.length_drop]
  by_cases h : m + i < b.length
  · simp [h, show i < b.length - m by omega]
  · have : b[m + i]? = none := List.getElem?_eq_none (by omega)
    rw [this]; rfl

/-- The byte by which the byte at a place is turned. -/
noncomputable def keyAt (key : List UInt8) (c : UInt32) (nonce : List UInt8) (i : Nat) : UInt8 := (blockS key (c + UInt32.ofNat (i / 64)) nonce).getD (i % 64) 0
noncomputable def streamN (key : List UInt8) (c : UInt32) (nonce : List UInt8) (n : Nat) (b : List UInt8) : List UInt8 := turned (keyAt key c nonce) n b
noncomputable def streamS (key : List UInt8) (c : UInt32) (nonce b : List UInt8) : List UInt8 := turned (keyAt key c nonce) b.length b
theorem length_streamN (key : List UInt8) (c : UInt32) (nonce : List UInt8) (n : Nat) (b : List UInt8) : (streamN key c nonce n b).length = b.length := length_turned ..
theorem length_streamS (key : List UInt8) (c : UInt32) (nonce b : List UInt8) : (streamS key c nonce b).length = b.length := length_turned ..
theorem streamS_twice (key : List UInt8) (c : UInt32) (nonce b : List UInt8) : streamS key c nonce (streamS key c nonce b) = b := by
  unfold streamS; rw [length_turned, turned_twice]
theorem streamS_drop (key : List UInt8) (c : UInt32) (nonce b : List UInt8) : (streamS key c nonce b).drop 64 = streamS key (c + 1) nonce (b.drop 64) := by
  unfold streamS
  rw [turned_drop]
  congr 1
  funext i
  unfold keyAt
  rw [show (64 + i) / 64 = 1 + i / 64 by omega, show (64 + i) % 64 = i % 64 by omega, UInt32.ofNat_add, ← UInt32.add_assoc]
  rfl
end Go.Cha

set_option linter.unusedSimpArgs false
set_option linter.unusedVariables false
namespace Go.Proofs.YtdipeoacmapehaaDoor
open Go Go.V Go.Cha
set_option maxHeartbeats 0
set_option maxRecDepth 100000

structure StrI where
  k : Nat
  i : Nat
section
variable (key nonce b : List UInt8) (c : UInt32)
noncomputable def strT (t12 t13 : AV) (at_ : Int) : List AV :=
  [.b8 32 key, .u32 c, .b8 12 nonce, .any, .ptr 0 0, .any, .ptr 1 0, .any, .vec8 true [], .int .i64 0, .sl 2 0 1 b.length, .int .i64 at_, t12, t13] ++ List.replicate 50 .any
noncomputable def strTo (k : Nat) : List AV := strT key nonce b c .any .any ((64 * k : Nat) : Int)
noncomputable def strHo (k : Nat) : Heap := [.blk [.b8 32 key] [], .blk [.b8 12 nonce] [], .grow8 (streamN key c nonce (64 * k) b) []]
noncomputable def strTi (s : StrI) : List AV := strT key nonce b c (.ptr 3 0) (.int .i64 (s.i : Nat)) ((64 * s.k : Nat) : Int)
noncomputable def strHi (s : StrI) : Heap := [.blk [.b8 32 key] [], .blk [.b8 12 nonce] [], .grow8 (streamN key c nonce s.i b) [], .blk [.b8 64 (blockS key (c + UInt32.ofNat s.k) nonce)] []]
def strOo (k : Nat) : Prop := 64 * k ≤ b.length + 63 ∧ b.length ≤ 1600
def strOi (g : AV) (s : StrI) : Prop := g = .int .i64 ((64 * s.k : Nat) : Int) ∧ 64 * s.k < b.length ∧ 64 * s.k ≤ s.i ∧ s.i ≤ 64 * s.k + 64 ∧ s.i ≤ b.length ∧ b.length ≤ 1600
noncomputable def strL (f l : Nat) : LPlan :=
  bif f == 38 then (bif l == 7 then .inv Nat (strOo b) (fun k => b.length + 64 - 64 * k) (strTo key nonce b c) (strHo key nonce b c)
    else .invg StrI 11 (strOi b) (fun s => b.length - s.i) (strTi key nonce b c) (strHi key nonce b c)) else .unroll 17
end
end Go.Proofs.YtdipeoacmapehaaDoor

set_option linter.unusedSimpArgs false
set_option linter.unusedVariables false
namespace Go.Proofs.YtdipeoacmapehaaDoor
open Go Go.V Go.Cha
set_option maxHeartbeats 0
set_option maxRecDepth 100000

theorem stream_eq (key nonce b : List UInt8) (c : UInt32) (full : Bool) (K : AV → Heap → Prop) : walk Tryd.E RS T3.C (strL key nonce b c) 5 38 [.b8 32 key, .u32 c, .b8 12 nonce, .vec8 full b] K = (
let x0 : Nat := (List.length b)
let x1 : Int := ((x0 : Nat) : Int)
ite2 (ltI 1600 x1)
 -- THEN
 (K (AV.tup [AV.vec8 Bool.true [], AV.int IntKind.i64 1]) [])
 -- ELSE
 (ite2 (ltI (wr IntKind.i64 (subI 4294967296 (((UInt32.toNat c) : Nat) : Int))) (wr IntKind.i64 (Int.tdiv (wr IntKind.i64 (x1 + 63)) 64)))
 -- THEN
 (K (AV.tup [AV.vec8 Bool.true [], AV.int IntKind.i64 11]) [])
 -- ELSE
 (cnd (leB (x0 * 1) 140737488355328)
 ((∃ w0 : Nat, (strOo b w0) ∧ ((AV.b8 32 key = AV.b8 32 key) ∧ ((AV.u32 c = AV.u32 c) ∧ ((AV.b8 12 nonce = AV.b8 12 nonce) ∧ ((AV.vec8 Bool.true [] = AV.vec8 Bool.true []) ∧ ((AV.int IntKind.i64 0 = AV.int IntKind.i64 0) ∧ ((AV.sl 2 0 1 x0 = AV.sl 2 0 1 x0) ∧ ((AV.int IntKind.i64 0 = AV.int IntKind.i64 (((64 * w0) : Nat) : Int)) ∧ ((AV.b8 32 key = AV.b8 32 key) ∧ ((AV.b8 12 nonce = AV.b8 12 nonce) ∧ ((b = Cha.streamN key c nonce (64 * w0) b) ∧ True))))))))))) ∧ (∀ w1 : Nat, (strOo b w1 → ite2 (ltI (((64 * w1) : Nat) : Int) x1)
 -- THEN
 ((∃ w2 : StrI, (strOi b (AV.int IntKind.i64 (((64 * w1) : Nat) : Int)) w2) ∧ ((AV.b8 32 key = AV.b8 32 key) ∧ ((AV.u32 c = AV.u32 c) ∧ ((AV.b8 12 nonce = AV.b8 12 nonce) ∧ ((AV.vec8 Bool.true [] = AV.vec8 Bool.true []) ∧ ((AV.int IntKind.i64 0 = AV.int IntKind.i64 0) ∧ ((AV.sl 2 0 1 x0 = AV.sl 2 0 1 x0) ∧ ((AV.int IntKind.i64 (((64 * w1) : Nat) : Int) = AV.int IntKind.i64 (((64 * (StrI.k w2)) : Nat) : Int)) ∧ ((AV.int IntKind.i64 (((64 * w1) : Nat) : Int) = AV.int IntKind.i64 (((StrI.i w2) : Nat) : Int)) ∧ ((AV.b8 32 key = AV.b8 32 key) ∧ ((AV.b8 12 nonce = AV.b8 12 nonce) ∧ ((Cha.streamN key c nonce (64 * w1) b = Cha.streamN key c nonce (StrI.i w2) b) ∧ ((AV.b8 64 (Cha.blockS key (c + (UInt32.ofNat (Int.toNat ((wr IntKind.i64 (Int.tdiv (((64 * w1) : Nat) : Int) 64)) % 4294967296)))) nonce) = AV.b8 64 (Cha.blockS key (c + (UInt32.ofNat (StrI.k w2))) nonce)) ∧ True))))))))))))) ∧ (∀ w3 : StrI, (strOi b (AV.int IntKind.i64 (((64 * w1) : Nat) : Int)) w3 → ite2 (ltI (((StrI.i w3) : Nat) : Int) (cond Bool.false (Max.max (wr IntKind.i64 ((((64 * (StrI.k w3)) : Nat) : Int) + 64)) x1) (Min.min (wr IntKind.i64 ((((64 * (StrI.k w3)) : Nat) : Int) + 64)) x1)))
 -- THEN
 (cnd ((inB (((StrI.i w3) : Nat) : Int) x0) && Bool.true)
 (cnd (leB (0 + x0) (List.length (Cha.streamN key c nonce (StrI.i w3) b)))
 (cnd (inB (wr IntKind.i64 (subI (((StrI.i w3) : Nat) : Int) (((64 * (StrI.k w3)) : Nat) : Int))) 64)
 (cnd ((inB (((StrI.i w3) : Nat) : Int) x0) && Bool.true)
 (cnd ((Bool.true && ((leB (0 + x0) (szL (Ent.cells (Ent.grow8 (Cha.streamN key c nonce (StrI.i w3) b) [])))) && Bool.true)) && Bool.true)
 ((∃ w4 : StrI, ((((fun s => x0 - (StrI.i s)) w4) < ((fun s => x0 - (StrI.i s)) w3)) ∧ (strOi b (AV.int IntKind.i64 (((64 * w1) : Nat) : Int)) w4)) ∧ ((AV.b8 32 key = AV.b8 32 key) ∧ ((AV.u32 c = AV.u32 c) ∧ ((AV.b8 12 nonce = AV.b8 12 nonce) ∧ ((AV.vec8 Bool.true [] = AV.vec8 Bool.true []) ∧ ((AV.int IntKind.i64 0 = AV.int IntKind.i64 0) ∧ ((AV.sl 2 0 1 x0 = AV.sl 2 0 1 x0) ∧ ((AV.int IntKind.i64 (((64 * (StrI.k w3)) : Nat) : Int) = AV.int IntKind.i64 (((64 * (StrI.k w4)) : Nat) : Int)) ∧ ((AV.int IntKind.i64 (wr IntKind.i64 ((((StrI.i w3) : Nat) : Int) + 1)) = AV.int IntKind.i64 (((StrI.i w4) : Nat) : Int)) ∧ ((AV.b8 32 key = AV.b8 32 key) ∧ ((AV.b8 12 nonce = AV.b8 12 nonce) ∧ ((List.set (Cha.streamN key c nonce (StrI.i w3) b) (ofs 0 (((StrI.i w3) : Nat) : Int)) ((List.getD (Cha.streamN key c nonce (StrI.i w3) b) (ofs 0 (((StrI.i w3) : Nat) : Int)) 0) ^^^ (List.getD (Cha.blockS key (c + (UInt32.ofNat (StrI.k w3))) nonce) (ofs 0 (wr IntKind.i64 (subI (((StrI.i w3) : Nat) : Int) (((64 * (StrI.k w3)) : Nat) : Int)))) 0)) = Cha.streamN key c nonce (StrI.i w4) b) ∧ ((AV.b8 64 (Cha.blockS key (c + (UInt32.ofNat (StrI.k w3))) nonce) = AV.b8 64 (Cha.blockS key (c + (UInt32.ofNat (StrI.k w4))) nonce)) ∧ True)))))))))))))))))))
 -- ELSE
 ((∃ w5 : Nat, ((((fun k => (x0 + 64) - (64 * k)) w5) < ((fun k => (x0 + 64) - (64 * k)) w1)) ∧ (strOo b w5)) ∧ ((AV.b8 32 key = AV.b8 32 key) ∧ ((AV.u32 c = AV.u32 c) ∧ ((AV.b8 12 nonce = AV.b8 12 nonce) ∧ ((AV.vec8 Bool.true [] = AV.vec8 Bool.true []) ∧ ((AV.int IntKind.i64 0 = AV.int IntKind.i64 0) ∧ ((AV.sl 2 0 1 x0 = AV.sl 2 0 1 x0) ∧ ((AV.int IntKind.i64 (wr IntKind.i64 ((((64 * (StrI.k w3)) : Nat) : Int) + 64)) = AV.int IntKind.i64 (((64 * w5) : Nat) : Int)) ∧ ((AV.b8 32 key = AV.b8 32 key) ∧ ((AV.b8 12 nonce = AV.b8 12 nonce) ∧ ((Cha.streamN key c nonce (StrI.i w3) b = Cha.streamN key c nonce (64 * w5) b) ∧ True)))))))))))))))
 -- ELSE
 (K (AV.tup [AV.sl 0 0 1 x0, AV.int IntKind.i64 0]) [Ent.grow8 (Cha.streamN key c nonce (64 * w1) b) []]))))))) := by kernel_rfl

end Go.Proofs.YtdipeoacmapehaaDoor

set_option linter.unusedSimpArgs false
set_option linter.unusedVariables false
namespace Go.Proofs.YtdipeoacmapehaaDoor
open Go Go.V Go.Cha
set_option maxRecDepth 100000

def overF (c : UInt32) (n : Nat) : Bool := ltB (4294967296 - c.toNat) ((n + 63) / 64)
noncomputable def overB : UInt32 → Nat → Bool := (sealed overF).val
theorem overB_eq (c : UInt32) (n : Nat) : overB c n = overF c n := by rw [overB, (sealed overF).property]
theorem over_i {c : UInt32} {n : Nat} (h : n ≤ 1600) : ltI (wr .i64 (subI 4294967296 (c.toNat : Int))) (wr .i64 (Int.tdiv (wr .i64 ((n : Int) + 63)) 64)) = overB c n := by
  have := c.toNat_lt
  rw [subI_eq, wr_of (z := (n : Int) + 63) (by omega) (by omega), wr_of (z := 4294967296 - (c.toNat : Int)) (by omega) (by omega), Int.tdiv_eq_ediv_of_nonneg (by omega), wr_of (by omega) (by omega)]
  rw [overB_eq]; unfold overF
  by_cases e : 4294967296 - c.toNat < (n + 63) / 64
  · rw [ltB_of e, ltI_of (by omega)]
  · rw [ltB_no (by omega), ltI_no (by omega)]

noncomputable def streamO (key : List UInt8) (c : UInt32) (nonce b : List UInt8) : Out :=
  .alt (ltB 1600 b.length) (.ret (.tup [.vec8 true [], .int .i64 1]) []) (.alt (overB c b.length) (.ret (.tup [.vec8 true [], .int .i64 11]) []) (.ret (.tup [.sl 0 0 1 b.length, .int .i64 0]) [.grow8 (streamS key c nonce b) []]))

theorem stream_c (key nonce b : List UInt8) (c : UInt32) (full : Bool) : HCall Tryd.E 38 [.b8 32 key, .u32 c, .b8 12 nonce, .vec8 full b] (streamO key c nonce b) := by
  refine HCall.of_walk (R := RS) (T := T3) (strL key nonce b c) 5 rfl rfl ?_
  rw [stream_eq]
  dsimp only
  unfold streamO
  rw [show ltI 1600 (b.length : Int) = ltB 1600 b.length from rfl]
  rcases Bool.eq_false_or_eq_true (ltB 1600 b.length) with h | h
  · rw [h]; exact ⟨rfl, rfl⟩
  rw [h]
  have h1 := of_ltB_no h
  rw [over_i h1]
  rcases Bool.eq_false_or_eq_true (overB c b.length) with h2 | h2
  · rw [h2]; exact ⟨rfl, rfl⟩
  rw [h2]
  rw [Nat.mul_one, leB_of (by omega)]
  refine ⟨⟨0, ⟨by omega, h1⟩, rfl, rfl, rfl, rfl, rfl, rfl, rfl, rfl, rfl, ?_, trivial⟩, fun k hk => ?_⟩
  · rw [Nat.mul_zero]; exact (turned_zero _ _).symm
  obtain ⟨hk1, _⟩ := hk
  have e0 : Int.tdiv ((64 * k : Nat) : Int) 64 = (k : Int) := by
    rw [Int.tdiv_eq_ediv_of_nonneg (by omega)]; omega
  cases h3 : ltI ((64 * k : Nat) : Int) (b.length : Int)
  · have := of_ltI_no h3
    refine ⟨rfl, ?_⟩
    unfold streamS streamN
    rw [turned_past (n := 64 * k) (by omega)]
  have h4 := of_ltI h3
  refine ⟨⟨⟨k, 64 * k⟩, ⟨rfl, by show 64 * k < b.length; omega, Nat.le_refl _, by show 64 * k ≤ 64 * k + 64; omega, by show 64 * k ≤ b.length; omega, h1⟩, rfl, rfl, rfl, rfl, rfl, rfl, rfl, rfl, rfl, rfl, rfl, ?_, trivial⟩, fun s hs => ?_⟩
  · show AV.b8 64 _ = AV.b8 64 _
    rw [e0, wr_of (by omega) (by omega)]
    have : (Int.toNat ((k : Int) % 4294967296)) = k := by omega
    rw [this]
  obtain ⟨g1, g2, g3, g4, g5, _⟩ := hs
  obtain ⟨sk, i⟩ := s
  simp only at g1 g2 g3 g4 g5
  obtain rfl : sk = k := by
    have : ((64 * k : Nat) : Int) = ((64 * sk : Nat) : Int) := by injection g1
    omega
  show ite2 (ltI (i : Int) (min (wr .i64 (((64 * sk : Nat) : Int) + 64)) (b.length : Int))) _ _
  rw [wr_of (z := ((64 * sk : Nat) : Int) + 64) (by omega) (by omega)]
  cases h5 : ltI (i : Int) (min (((64 * sk : Nat) : Int) + 64) (b.length : Int))
  · have h6 := of_ltI_no h5
    refine ⟨sk + 1, ⟨by show b.length + 64 - 64 * (sk + 1) < b.length + 64 - 64 * sk; omega, by omega, h1⟩, rfl, rfl, rfl, rfl, rfl, rfl, ?_, rfl, rfl, ?_, trivial⟩
    · congr 1
    · rcases Nat.lt_or_ge i b.length with h7 | h7
      · rw [show i = 64 * (sk + 1) by omega]
      · unfold streamN
        rw [turned_past h7, turned_past (n := 64 * (sk + 1)) (by omega)]
  have h6 := of_ltI h5
  have h7 : i < b.length := by omega
  have h8 : i < 64 * sk + 64 := by omega
  have e1 : subI (i : Int) ((64 * sk : Nat) : Int) = ((i - 64 * sk : Nat) : Int) := by rw [subI_eq]; omega
  show cnd (inB (i : Int) b.length && true) _
  rw [inB_of (by omega) (by omega), length_streamN, Nat.zero_add, leB_of (Nat.le_refl _)]
  show cnd (inB (wr .i64 (subI (i : Int) ((64 * sk : Nat) : Int))) 64) _
  rw [e1, wr_of (by omega) (by omega), inB_of (by omega) (by omega)]
  have e2 : szL (Ent.cells (Ent.grow8 (streamN key c nonce i b) [])) = b.length := by
    show (streamN key c nonce i b).length + 0 = _
    rw [length_streamN, Nat.add_zero]
  show cnd (true && ((leB b.length (szL (Ent.cells (Ent.grow8 (streamN key c nonce i b) [])))) && true) && true) _
  rw [e2, leB_of (Nat.le_refl _)]
  refine ⟨⟨sk, i + 1⟩, ⟨by show b.length - (i + 1) < b.length - i; omega, rfl, g2, by show 64 * sk ≤ i + 1; omega, by show i + 1 ≤ 64 * sk + 64; omega, by show i + 1 ≤ b.length; omega, h1⟩, rfl, rfl, rfl, rfl, rfl, rfl, rfl, ?_, rfl, rfl, ?_, rfl, trivial⟩
  · show AV.int .i64 (wr .i64 ((i : Int) + 1)) = AV.int .i64 ((i + 1 : Nat) : Int)
    rw [wr_of (by omega) (by omega)]; rfl
  · rw [ofs0, ofs0]
    show List.set (turned _ i b) i (List.getD (turned _ i b) i 0 ^^^ _) = turned _ (i + 1) b
    rw [← turned_succ h7]
    congr 2
    unfold keyAt
    rw [show i / 64 = sk by omega, show i % 64 = i - 64 * sk by omega]
end Go.Proofs.YtdipeoacmapehaaDoor

set_option linter.unusedSimpArgs false
set_option linter.unusedVariables false
namespace Go.Proofs.YtdipeoacmapehaaDoor
open Go Go.V Go.Cha
noncomputable def T4 : Ctr Tryd.E := T3.add 38 (fun
    | [.b8 32 key, .u32 c, .b8 12 nonce, .vec8 _ b] => some (true, streamO key c nonce b)
    | _ => none) (by
      intro args pre out h hp
      split at h
      · simp only [Option.some.injEq, Prod.mk.injEq] at h
        obtain ⟨rfl, rfl⟩ := h
        exact stream_c _ _ _ _ _
      · simp at h)
/-- Where it is known that the bytes are few enough. -/
theorem stream_c2 (key nonce b : List UInt8) (c : UInt32) (full : Bool) (h1 : ltB 1600 b.length = false) (h2 : overB c b.length = false) :
    HCall Tryd.E 38 [.b8 32 key, .u32 c, .b8 12 nonce, .vec8 full b] (.ret (.tup [.sl 0 0 1 b.length, .int .i64 0]) [.grow8 (streamS key c nonce b) []]) := by
  have h := stream_c key nonce b c full
  unfold streamO at h
  rw [h1, h2] at h
  obtain ⟨a, _, c⟩ := h
  exact ⟨a, rfl, c⟩
noncomputable def T4p : Ctr Tryd.E := T3.add 38 (fun
    | [.b8 32 key, .u32 c, .b8 12 nonce, .vec8 _ b] => some (!(ltB 1600 b.length) && !(overB c b.length), .ret (.tup [.sl 0 0 1 b.length, .int .i64 0]) [.grow8 (streamS key c nonce b) []])
    | _ => none) (by
      intro args pre out h hp
      split at h
      · simp only [Option.some.injEq, Prod.mk.injEq] at h
        obtain ⟨rfl, rfl⟩ := h
        simp only [Bool.and_eq_true, Bool.not_eq_true'] at hp
        exact stream_c2 _ _ _ _ _ hp.1 hp.2
      · simp at h)
end Go.Proofs.YtdipeoacmapehaaDoor

set_option linter.unusedSimpArgs false
set_option linter.unusedVariables false
namespace Go.Proofs.YtdipeoacmapehaaDoor
open Go Go.V Go.Fld Go.Pol Go.Cha
set_option maxHeartbeats 0
set_option maxRecDepth 100000

theorem eight_eq (n : Int) (K : AV → Heap → Prop) : walk Tryd.E RS P5.C (fun _ _ => .unroll 17) 5 43 [.int .i64 n] K = (

K (AV.sl 0 0 1 8) [Ent.grow8 (List.set (List.set (List.set (List.set (List.set (List.set (List.set (List.set (List.replicate 8 0) 0 (UInt8.ofNat (Int.toNat ((Int.fdiv n 1) % 256)))) 1 (UInt8.ofNat (Int.toNat ((Int.fdiv n 256) % 256)))) 2 (UInt8.ofNat (Int.toNat ((Int.fdiv n 65536) % 256)))) 3 (UInt8.ofNat (Int.toNat ((Int.fdiv n 16777216) % 256)))) 4 (UInt8.ofNat (Int.toNat ((Int.fdiv n 4294967296) % 256)))) 5 (UInt8.ofNat (Int.toNat ((Int.fdiv n 1099511627776) % 256)))) 6 (UInt8.ofNat (Int.toNat ((Int.fdiv n 281474976710656) % 256)))) 7 (UInt8.ofNat (Int.toNat ((Int.fdiv n 72057594037927936) % 256)))) []]) := by kernel_rfl

theorem padded_eq (b : List UInt8) (full : Bool) (K : AV → Heap → Prop) : walk Tryd.E RS P5.C (fun _ _ => .unroll 17) 5 41 [.vec8 full b] K = (
let x0 : Nat := (List.length b)
let x1 : Int := ((x0 : Nat) : Int)
let x2 : Int := (bits BinOp.and IntKind.i64 (wr IntKind.i64 (subI 0 x1)) 15)
let x3 : List UInt8 := (sliceL Option.none (Option.some x1) b)
let x4 : Nat := (List.length x3)
let x5 : Nat := (Int.toNat x2)
let x6 : Nat := 140737488355328
let x7 : List UInt8 := (List.replicate x5 0)
let x8 : Nat := (List.length x7)
cnd ((Bool.true && (x1 == x1)) && (sliceOk Option.none (Option.some x1) x0))
 (cnd (Bool.true && (nnB x2))
 (cnd (leB ((x4 + x5) * 1) x6)
 (ite2 (List.isEmpty x3)
 -- THEN
 (cnd (leB (x8 * 1) x6)
 (K (AV.sl 0 0 1 x8) [Ent.grow8 x7 []]))
 -- ELSE
 (ite2 (List.isEmpty x7)
 -- THEN
 (K (AV.vec8 Bool.true x3) [])
 -- ELSE
 (cnd (leB ((x4 + x8) * 1) x6)
 (K (AV.sl 0 0 1 (x4 + x8)) [Ent.grow8 (x3 ++ x7) []]))))))) := by kernel_rfl

end Go.Proofs.YtdipeoacmapehaaDoor

set_option linter.unusedSimpArgs false
set_option linter.unusedVariables false
namespace Go.Proofs.YtdipeoacmapehaaDoor
open Go Go.V Go.Fld Go.Pol Go.Cha
set_option maxRecDepth 100000

noncomputable def eightF (n : Int) : List UInt8 := List.set (List.set (List.set (List.set (List.set (List.set (List.set (List.set (List.replicate 8 0) 0 (UInt8.ofNat (Int.toNat ((Int.fdiv n 1) % 256)))) 1 (UInt8.ofNat (Int.toNat ((Int.fdiv n 256) % 256)))) 2 (UInt8.ofNat (Int.toNat ((Int.fdiv n 65536) % 256)))) 3 (UInt8.ofNat (Int.toNat ((Int.fdiv n 16777216) % 256)))) 4 (UInt8.ofNat (Int.toNat ((Int.fdiv n 4294967296) % 256)))) 5 (UInt8.ofNat (Int.toNat ((Int.fdiv n 1099511627776) % 256)))) 6 (UInt8.ofNat (Int.toNat ((Int.fdiv n 281474976710656) % 256)))) 7 (UInt8.ofNat (Int.toNat ((Int.fdiv n 72057594037927936) % 256)))
noncomputable def eightS : Int → List UInt8 := (sealed eightF).val
theorem eightS_eq (n : Int) : eightS n = eightF n := by rw [eightS, (sealed eightF).property]
theorem length_eightS (n : Int) : (eightS n).length = 8 := by rw [eightS_eq]; rfl
theorem eight_c (n : Int) : HCall Tryd.E 43 [.int .i64 n] (.ret (.sl 0 0 1 8) [.grow8 (eightS n) []]) := by
  refine HCall.of_walk (R := RS) (T := P5) (fun _ _ => .unroll 17) 5 rfl rfl ?_
  rw [eight_eq, eightS_eq]
  exact ⟨rfl, rfl⟩
/-- How many noughts come behind. -/
def padN (n : Nat) : Nat := (16 - n % 16) % 16
def padF (b : List UInt8) : List UInt8 := b ++ List.replicate (padN b.length) 0
noncomputable def padS : List UInt8 → List UInt8 := (sealed padF).val
theorem padS_eq (b : List UInt8) : padS b = padF b := by rw [padS, (sealed padF).property]
theorem length_padS (b : List UInt8) : (padS b).length = b.length + padN b.length := by rw [padS_eq]; simp [padF]
/-- Nothing is to come behind, and there is something. -/
def fullF (b : List UInt8) : Bool := !b.isEmpty && padN b.length == 0
noncomputable def fullS : List UInt8 → Bool := (sealed fullF).val
theorem fullS_eq (b : List UInt8) : fullS b = fullF b := by rw [fullS, (sealed fullF).property]
theorem and15 (n : Nat) (h : n ≤ 1000000000) : bits .and .i64 (wr .i64 (subI 0 (n : Int))) 15 = (padN n : Int) := by
  rw [subI_eq, wr_of (by omega) (by omega)]
  have h1 : (BitVec.ofInt 64 (0 - (n : Int))).toNat = ((0 - (n : Int)) % 18446744073709551616).toNat := by
    rw [BitVec.toNat_ofInt]; rfl
  have h2 : (BitVec.ofInt 64 15).toNat = 15 := by decide
  have h3 : ∀ x : Nat, x &&& 15 = x % 16 := fun x => Nat.and_two_pow_sub_one_eq_mod x 4
  show IntKind.i64.wrap ((BitVec.ofInt 64 (0 - (n : Int)) &&& BitVec.ofInt 64 15).toNat : Int) = _
  rw [BitVec.toNat_and, h1, h2, h3]
  unfold padN
  rw [IntKind.wrap_i64]
  omega
theorem sliceAll (b : List UInt8) : sliceL none (some ((b.length : Nat) : Int)) b = b := by
  show b.take (Int.toNat _) = _
  rw [Int.toNat_natCast, List.take_length]
theorem sliceAllOk (b : List UInt8) : sliceOk none (some ((b.length : Nat) : Int)) b.length = true := by
  show (nnB _ && leB (Int.toNat _) _) = true
  rw [nnB_iff.2 (by omega), Int.toNat_natCast, leB_of (Nat.le_refl _)]; rfl
noncomputable def paddedO (b : List UInt8) : Out := .alt (fullS b) (.ret (.vec8 true b) []) (.ret (.sl 0 0 1 (padS b).length) [.grow8 (padS b) []])
theorem padded_c (b : List UInt8) (full : Bool) (h : b.length ≤ 1000000) : HCall Tryd.E 41 [.vec8 full b] (paddedO b) := by
  refine HCall.of_walk (R := RS) (T := P5) (fun _ _ => .unroll 17) 5 rfl rfl ?_
  rw [padded_eq]
  dsimp only
  have hp : padN b.length < 16 := by unfold padN; omega
  rw [and15 _ (by omega), sliceAll, sliceAllOk, beq_self_eq_true, Int.toNat_natCast, nnB_iff.2 (by omega : (0 : Int) ≤ (padN b.length : Int)), List.length_replicate, Nat.mul_one, Nat.mul_one, leB_of (by omega), leB_of (by omega)]
  unfold paddedO
  rw [fullS_eq, padS_eq]
  unfold fullF padF
  rw [List.length_append, List.length_replicate]
  show ite2 _ _ _
  cases b with
  | nil => exact ⟨rfl, rfl⟩
  | cons x l =>
    show ite2 _ _ _
    by_cases e : padN (x :: l).length = 0
    · rw [e]; exact ⟨rfl, rfl⟩
    · have e1 : (padN (x :: l).length == 0) = false := beq_eq_false_iff_ne.2 e
      have e2 : (List.replicate (padN (x :: l).length) (0 : UInt8)).isEmpty = false := by
        cases hq : padN (x :: l).length with
        | zero => exact absurd hq e
        | succ n => rfl
      rw [e1, e2]
      exact ⟨rfl, rfl⟩
/-- Seal's callees: blocks, streams, tags. -/
noncomputable def S0 : Ctr Tryd.E := ⟨fun f args => match T4p.C f args with
    | some r => some r
    | none => P5.C f args, by
  intro f args pre out h hp
  split at h
  · rename_i r hr
    simp only [Option.some.injEq] at h
    subst h
    exact T4p.ok _ _ _ _ hr hp
  · exact P5.ok _ _ _ _ h hp⟩
noncomputable def S1 : Ctr Tryd.E := (S0.add 41 (fun
    | [.vec8 _ b] => some (leB b.length 1000000, paddedO b)
    | _ => none) (by
      intro args pre out h hp
      split at h
      · simp only [Option.some.injEq, Prod.mk.injEq] at h
        obtain ⟨rfl, rfl⟩ := h
        exact padded_c _ _ (leB_iff.1 hp)
      · simp at h)).add 43 (fun
    | [.int .i64 n] => some (true, .ret (.sl 0 0 1 8) [.grow8 (eightS n) []])
    | _ => none) (by
      intro args pre out h hp
      split at h
      · simp only [Option.some.injEq, Prod.mk.injEq] at h
        obtain ⟨rfl, rfl⟩ := h
        exact eight_c _
      · simp at h)
end Go.Proofs.YtdipeoacmapehaaDoor

set_option linter.unusedSimpArgs false
set_option linter.unusedVariables false
namespace Go.Proofs.YtdipeoacmapehaaDoor
open Go Go.V Go.Fld Go.Pol Go.Cha
set_option maxHeartbeats 0
set_option maxRecDepth 100000

theorem sealtag_eq (k n a b : List UInt8) (fa fb : Bool) (K : AV → Heap → Prop) : walk Tryd.E RS S1.C (fun _ _ => .unroll 17) 5 39 [.b8 32 k, .b8 12 n, .vec8 fa a, .vec8 fb b] K = (
let x0 : Nat := (List.length a)
let x1 : Nat := (List.length b)
let x2 : Bool := leB x1 1000000
let x3 : Bool := List.isEmpty a
let x4 : Nat := 140737488355328
let x5 : List UInt8 := (eightS ((x0 : Nat) : Int))
let x6 : Bool := Bool.true && (leB 8 (List.length x5))
let x7 : List UInt8 := (List.take 8 (List.drop 0 x5))
let x8 : Nat := (List.length x7)
let x9 : List UInt8 := (eightS ((x1 : Nat) : Int))
let x10 : Bool := Bool.true && (leB 8 (List.length x9))
let x11 : List UInt8 := (List.take 8 (List.drop 0 x9))
let x12 : Nat := (List.length x11)
let x13 : Nat := ((x1 + x8) + x12)
let x14 : List UInt8 := ((b ++ x7) ++ x11)
let x15 : List UInt8 := (List.take x13 (List.drop 0 x14))
let x16 : Nat := 4611686018427387904
let x17 : List UInt8 := (Cha.blockS k 0 n)
let x18 : List UInt8 := ((List.take 32 x17) ++ (List.drop (Min.min (List.length x17) 32) [0, 0, 0, 0, 0, 0, 0, 0, 0, 0, 0, 0, 0, 0, 0, 0, 0, 0, 0, 0, 0, 0, 0, 0, 0, 0, 0, 0, 0, 0, 0, 0]))
let x19 : List UInt8 := (List.take (x8 + x12) (List.drop 0 (x7 ++ x11)))
let x20 : List UInt8 := (List.take x12 (List.drop 0 x11))
let x21 : List UInt8 := (List.take (x0 + x12) (List.drop 0 (a ++ x11)))
let x22 : Nat := ((x0 + x8) + x12)
let x23 : List UInt8 := ((a ++ x7) ++ x11)
let x24 : List UInt8 := (List.take x22 (List.drop 0 x23))
let x25 : Nat := ((x0 + x1) + x8)
let x26 : List UInt8 := ((a ++ b) ++ x7)
let x27 : List UInt8 := (List.take (x25 + x12) (List.drop 0 (x26 ++ x11)))
let x28 : Nat := (List.length (padS b))
let x29 : Bool := Bool.true && (leB (0 + x28) x28)
let x30 : List UInt8 := (List.take x28 (List.drop 0 (padS b)))
let x31 : Nat := (List.length x30)
let x32 : Nat := ((x31 + x8) + x12)
let x33 : List UInt8 := ((x30 ++ x7) ++ x11)
let x34 : List UInt8 := (List.take x32 (List.drop 0 x33))
let x35 : Nat := ((x0 + x31) + x8)
let x36 : List UInt8 := ((a ++ x30) ++ x7)
let x37 : List UInt8 := (List.take (x35 + x12) (List.drop 0 (x36 ++ x11)))
let x38 : Nat := (List.length (padS a))
let x39 : List UInt8 := ((padS a) ++ b)
let x40 : Nat := ((x38 + x1) + x8)
let x41 : List UInt8 := ((x39 ++ x7) ++ x11)
let x42 : List UInt8 := (List.take (x40 + x12) (List.drop 0 x41))
let x43 : List UInt8 := ((padS a) ++ x30)
let x44 : Nat := ((x38 + x31) + x8)
let x45 : List UInt8 := ((x43 ++ x7) ++ x11)
let x46 : List UInt8 := (List.take (x44 + x12) (List.drop 0 x45))
cnd (leB x0 1000000)
 (ite2 (fullS a)
 -- THEN
 (cnd (x2)
 (ite2 (fullS b)
 -- THEN
 (ite2 (x3)
 -- THEN
 (cnd (leB (x1 * 1) x4)
 (cnd (x6)
 (cnd (x1 == x1)
 (cnd (leB ((x1 + x8) * 1) x4)
 (cnd (x10)
 (cnd ((x1 + x8) == (List.length (b ++ x7)))
 (cnd (leB (x13 * 1) x4)
 (cnd (Bool.true && ((Bool.true && (leB (0 + x13) (List.length x14))) && Bool.true))
 (cnd (ltB (List.length x15) x16)
 (K (AV.b8 16 (tagS x18 x15)) []))))))))))
 -- ELSE
 (ite2 (List.isEmpty b)
 -- THEN
 (cnd (x6)
 (ite2 (x3)
 -- THEN
 (cnd (leB (x8 * 1) x4)
 (cnd (x10)
 (cnd (x8 == x8)
 (cnd (leB ((x8 + x12) * 1) x4)
 (cnd (Bool.true && ((Bool.true && (leB (0 + (x8 + x12)) (List.length (x7 ++ x11)))) && Bool.true))
 (cnd (ltB (List.length x19) x16)
 (K (AV.b8 16 (tagS x18 x19)) [])))))))
 -- ELSE
 (ite2 (List.isEmpty x7)
 -- THEN
 (cnd (x10)
 (ite2 (x3)
 -- THEN
 (cnd (leB (x12 * 1) x4)
 (cnd (Bool.true && ((Bool.true && (leB (0 + x12) x12)) && Bool.true))
 (cnd (ltB (List.length x20) x16)
 (K (AV.b8 16 (tagS x18 x20)) []))))
 -- ELSE
 (ite2 (List.isEmpty x11)
 -- THEN
 (cnd (ltB x0 x16)
 (K (AV.b8 16 (tagS x18 a)) []))
 -- ELSE
 (cnd (leB ((x0 + x12) * 1) x4)
 (cnd (Bool.true && ((Bool.true && (leB (0 + (x0 + x12)) (List.length (a ++ x11)))) && Bool.true))
 (cnd (ltB (List.length x21) x16)
 (K (AV.b8 16 (tagS x18 x21)) [])))))))
 -- ELSE
 (cnd (leB ((x0 + x8) * 1) x4)
 (cnd (x10)
 (cnd ((x0 + x8) == (List.length (a ++ x7)))
 (cnd (leB (x22 * 1) x4)
 (cnd (Bool.true && ((Bool.true && (leB (0 + x22) (List.length x23))) && Bool.true))
 (cnd (ltB (List.length x24) x16)
 (K (AV.b8 16 (tagS x18 x24)) []))))))))))
 -- ELSE
 (cnd (leB ((x0 + x1) * 1) x4)
 (cnd (x6)
 (cnd ((x0 + x1) == (List.length (a ++ b)))
 (cnd (leB (x25 * 1) x4)
 (cnd (x10)
 (cnd (x25 == (List.length x26))
 (cnd (leB ((x25 + x12) * 1) x4)
 (cnd (Bool.true && ((Bool.true && (leB (0 + (x25 + x12)) (List.length (x26 ++ x11)))) && Bool.true))
 (cnd (ltB (List.length x27) x16)
 (K (AV.b8 16 (tagS x18 x27)) []))))))))))))
 -- ELSE
 (cnd (x29)
 (ite2 (x3)
 -- THEN
 (cnd (leB (x31 * 1) x4)
 (cnd (x6)
 (cnd (x31 == x31)
 (cnd (leB ((x31 + x8) * 1) x4)
 (cnd (x10)
 (cnd ((x31 + x8) == (List.length (x30 ++ x7)))
 (cnd (leB (x32 * 1) x4)
 (cnd (Bool.true && ((Bool.true && (leB (0 + x32) (List.length x33))) && Bool.true))
 (cnd (ltB (List.length x34) x16)
 (K (AV.b8 16 (tagS x18 x34)) []))))))))))
 -- ELSE
 (ite2 (List.isEmpty x30)
 -- THEN
 (cnd (x6)
 (ite2 (x3)
 -- THEN
 (cnd (leB (x8 * 1) x4)
 (cnd (x10)
 (cnd (x8 == x8)
 (cnd (leB ((x8 + x12) * 1) x4)
 (cnd (Bool.true && ((Bool.true && (leB (0 + (x8 + x12)) (List.length (x7 ++ x11)))) && Bool.true))
 (cnd (ltB (List.length x19) x16)
 (K (AV.b8 16 (tagS x18 x19)) [])))))))
 -- ELSE
 (ite2 (List.isEmpty x7)
 -- THEN
 (cnd (x10)
 (ite2 (x3)
 -- THEN
 (cnd (leB (x12 * 1) x4)
 (cnd (Bool.true && ((Bool.true && (leB (0 + x12) x12)) && Bool.true))
 (cnd (ltB (List.length x20) x16)
 (K (AV.b8 16 (tagS x18 x20)) []))))
 -- ELSE
 (ite2 (List.isEmpty x11)
 -- THEN
 (cnd (ltB x0 x16)
 (K (AV.b8 16 (tagS x18 a)) []))
 -- ELSE
 (cnd (leB ((x0 + x12) * 1) x4)
 (cnd (Bool.true && ((Bool.true && (leB (0 + (x0 + x12)) (List.length (a ++ x11)))) && Bool.true))
 (cnd (ltB (List.length x21) x16)
 (K (AV.b8 16 (tagS x18 x21)) [])))))))
 -- ELSE
 (cnd (leB ((x0 + x8) * 1) x4)
 (cnd (x10)
 (cnd ((x0 + x8) == (List.length (a ++ x7)))
 (cnd (leB (x22 * 1) x4)
 (cnd (Bool.true && ((Bool.true && (leB (0 + x22) (List.length x23))) && Bool.true))
 (cnd (ltB (List.length x24) x16)
 (K (AV.b8 16 (tagS x18 x24)) []))))))))))
 -- ELSE
 (cnd (leB ((x0 + x31) * 1) x4)
 (cnd (x6)
 (cnd ((x0 + x31) == (List.length (a ++ x30)))
 (cnd (leB (x35 * 1) x4)
 (cnd (x10)
 (cnd (x35 == (List.length x36))
 (cnd (leB ((x35 + x12) * 1) x4)
 (cnd (Bool.true && ((Bool.true && (leB (0 + (x35 + x12)) (List.length (x36 ++ x11)))) && Bool.true))
 (cnd (ltB (List.length x37) x16)
 (K (AV.b8 16 (tagS x18 x37)) [])))))))))))))))
 -- ELSE
 (cnd (x2)
 (ite2 (fullS b)
 -- THEN
 (cnd (x38 == x38)
 (cnd (leB ((x38 + x1) * 1) x4)
 (cnd (x6)
 (cnd ((x38 + x1) == (List.length x39))
 (cnd (leB (x40 * 1) x4)
 (cnd (x10)
 (cnd (x40 == (List.length (x39 ++ x7)))
 (cnd (leB ((x40 + x12) * 1) x4)
 (cnd (Bool.true && ((Bool.true && (leB (0 + (x40 + x12)) (List.length x41))) && Bool.true))
 (cnd (ltB (List.length x42) x16)
 (K (AV.b8 16 (tagS x18 x42)) [])))))))))))
 -- ELSE
 (cnd (x29)
 (cnd (x38 == x38)
 (cnd (leB ((x38 + x31) * 1) x4)
 (cnd (x6)
 (cnd ((x38 + x31) == (List.length x43))
 (cnd (leB (x44 * 1) x4)
 (cnd (x10)
 (cnd (x44 == (List.length (x43 ++ x7)))
 (cnd (leB ((x44 + x12) * 1) x4)
 (cnd (Bool.true && ((Bool.true && (leB (0 + (x44 + x12)) (List.length x45))) && Bool.true))
 (cnd (ltB (List.length x46) x16)
 (K (AV.b8 16 (tagS x18 x46)) [])))))))))))))))) := by kernel_rfl

end Go.Proofs.YtdipeoacmapehaaDoor

set_option linter.unusedSimpArgs false
set_option linter.unusedVariables false
namespace Go.Proofs.YtdipeoacmapehaaDoor
open Go Go.V Go.Fld Go.Pol Go.Cha
set_option maxRecDepth 100000

/-- What is summed for a tag. -/
noncomputable def allF (a b : List UInt8) : List UInt8 := ((padS a ++ padS b) ++ eightS (a.length : Int)) ++ eightS (b.length : Int)
noncomputable def sealTF (k n a b : List UInt8) : List UInt8 := tagS ((blockS k 0 n).take 32) (allF a b)
noncomputable def sealT : List UInt8 → List UInt8 → List UInt8 → List UInt8 → List UInt8 := (sealed sealTF).val
theorem sealT_eq (k n a b : List UInt8) : sealT k n a b = sealTF k n a b := by rw [sealT, (sealed sealTF).property]

theorem padN_lt (n : Nat) : padN n < 16 := by unfold padN; omega
theorem full_spec {b : List UInt8} (h : fullS b = true) : b.isEmpty = false ∧ padS b = b := by
  rw [fullS_eq] at h; unfold fullF at h
  simp only [Bool.and_eq_true, Bool.not_eq_true', beq_iff_eq] at h
  refine ⟨h.1, ?_⟩
  rw [padS_eq]; unfold padF
  rw [h.2]; simp
theorem take_all8 (l : List UInt8) : List.take l.length (List.drop 0 l) = l := by rw [List.drop_zero, List.take_length]
theorem take_n {l : List UInt8} {n : Nat} (h : n = l.length) : List.take n (List.drop 0 l) = l := by subst h; exact take_all8 l
theorem block_len (k n : List UInt8) (c : UInt32) : (blockS k c n).length = 64 := length_blockS ..

theorem ite2_t {x y : Prop} : ite2 true x y = x := rfl
theorem ite2_f {x y : Prop} : ite2 false x y = y := rfl
theorem sealtag_c (k n a b : List UInt8) (fa fb : Bool) (ha : a.length ≤ 1000000) (hb : b.length ≤ 1000000) : HCall Tryd.E 39 [.b8 32 k, .b8 12 n, .vec8 fa a, .vec8 fb b] (.ret (.b8 16 (sealT k n a b)) []) := by
  refine HCall.of_walk (R := RS) (T := S1) (fun _ _ => .unroll 17) 5 rfl rfl ?_
  rw [sealtag_eq, sealT_eq]
  dsimp only
  unfold sealTF allF
  have l5 := length_eightS (a.length : Int)
  have l9 := length_eightS (b.length : Int)
  generalize eightS (a.length : Int) = u at *
  generalize eightS (b.length : Int) = v at *
  have e7 : List.take 8 (List.drop 0 u) = u := take_n l5.symm
  have e11 : List.take 8 (List.drop 0 v) = v := take_n l9.symm
  have hp := length_padS b
  have hpa := length_padS a
  have h1 := padN_lt a.length
  have h2 := padN_lt b.length
  have hk : List.drop (min (blockS k 0 n).length 32) ([0, 0, 0, 0, 0, 0, 0, 0, 0, 0, 0, 0, 0, 0, 0, 0, 0, 0, 0, 0, 0, 0, 0, 0, 0, 0, 0, 0, 0, 0, 0, 0] : List UInt8) = [] := by
    rw [block_len]; rfl
  rw [e7, e11, take_all8, hk, List.append_nil, l5, l9, leB_of ha, leB_of hb]
  have hu : u.isEmpty = false := by cases u with
    | nil => simp at l5
    | cons _ _ => rfl
  cases hfa : fullS a with
  | true =>
    obtain ⟨ea, pa⟩ := full_spec hfa
    rw [pa, ea]
    cases hfb : fullS b with
    | true =>
      obtain ⟨eb, pb⟩ := full_spec hfb
      rw [pb, eb]
      simp only [ite2_t, ite2_f, cnd_iff, Bool.and_eq_true, leB_iff, ltB_iff, beq_iff_eq, List.length_append, l5, l9]
      rw [take_n (l := ((a ++ b) ++ u) ++ v) (by simp only [List.length_append, l5, l9])]
      simp only [List.length_append, l5, l9]
      repeat' apply And.intro
      all_goals first | rfl | trivial | omega
    | false =>
      cases hpe : (padS b).isEmpty with
      | true =>
        rw [List.isEmpty_iff] at hpe
        rw [hpe] at hp ⊢
        simp only [List.length_nil] at hp
        simp only [hu, ite2_t, ite2_f, cnd_iff, Bool.and_eq_true, leB_iff, ltB_iff, beq_iff_eq, List.length_append, l5, l9, List.append_nil, List.length_nil, List.take_nil, List.drop_nil, List.isEmpty_nil]
        rw [take_n (l := (a ++ u) ++ v) (by simp only [List.length_append, l5, l9])]
        simp only [List.length_append, l5, l9]
        repeat' apply And.intro
        all_goals first | rfl | trivial | omega
      | false =>
        rw [take_all8, hpe]
        simp only [ite2_t, ite2_f, cnd_iff, Bool.and_eq_true, leB_iff, ltB_iff, beq_iff_eq, List.length_append, l5, l9]
        rw [take_n (l := ((a ++ padS b) ++ u) ++ v) (by simp only [List.length_append, l5, l9])]
        simp only [List.length_append, l5, l9]
        repeat' apply And.intro
        all_goals first | rfl | trivial | omega
  | false =>
    cases hfb : fullS b with
    | true =>
      obtain ⟨eb, pb⟩ := full_spec hfb
      rw [pb]
      simp only [ite2_t, ite2_f, cnd_iff, Bool.and_eq_true, leB_iff, ltB_iff, beq_iff_eq, List.length_append, l5, l9]
      rw [take_n (l := ((padS a ++ b) ++ u) ++ v) (by simp only [List.length_append, l5, l9])]
      simp only [List.length_append, l5, l9]
      repeat' apply And.intro
      all_goals first | rfl | trivial | omega
    | false =>
      rw [take_all8]
      simp only [ite2_t, ite2_f, cnd_iff, Bool.and_eq_true, leB_iff, ltB_iff, beq_iff_eq, List.length_append, l5, l9]
      rw [take_n (l := ((padS a ++ padS b) ++ u) ++ v) (by simp only [List.length_append, l5, l9])]
      simp only [List.length_append, l5, l9]
      repeat' apply And.intro
      all_goals first | rfl | trivial | omega
noncomputable def S2 : Ctr Tryd.E := S1.add 39 (fun
    | [.b8 32 k, .b8 12 n, .vec8 _ a, .vec8 _ b] => some (leB a.length 1000000 && leB b.length 1000000, .ret (.b8 16 (sealT k n a b)) [])
    | _ => none) (by
      intro args pre out h hp
      split at h
      · simp only [Option.some.injEq, Prod.mk.injEq] at h
        obtain ⟨rfl, rfl⟩ := h
        simp only [Bool.and_eq_true, leB_iff] at hp
        exact sealtag_c _ _ _ _ _ _ hp.1 hp.2
      · simp at h)
end Go.Proofs.YtdipeoacmapehaaDoor

set_option linter.unusedSimpArgs false
set_option linter.unusedVariables false
namespace Go.Proofs.YtdipeoacmapehaaDoor
open Go Go.V Go.Fld Go.Pol Go.Cha
set_option maxHeartbeats 0
set_option maxRecDepth 100000

theorem sealSeal_eq (k n a b : List UInt8) (fa fb : Bool) (K : AV → Heap → Prop) : walk Tryd.E RS S2.C (fun _ _ => .unroll 17) 5 33 [.b8 32 k, .b8 12 n, .vec8 fa a, .vec8 fb b] K = (
let x0 : Nat := (List.length a)
let x1 : Nat := (List.length b)
let x2 : List UInt8 := (Cha.streamS k 1 n b)
let x3 : Nat := (List.length x2)
let x4 : List UInt8 := (List.take x1 (List.drop 0 x2))
let x5 : List UInt8 := (sealT k n a x4)
let x6 : Nat := (x1 + (List.length x5))
ite2 (ltI 200 ((x0 : Nat) : Int))
 -- THEN
 (K (AV.tup [AV.vec8 Bool.true [], AV.int IntKind.i64 1]) [])
 -- ELSE
 (ite2 (cond Bool.false Bool.true (ltI 800 ((x1 : Nat) : Int)))
 -- THEN
 (K (AV.tup [AV.vec8 Bool.true [], AV.int IntKind.i64 1]) [])
 -- ELSE
 (cnd ((Bool.not (ltB 1600 x1)) && (Bool.not (overB 1 x1)))
 (cnd (Bool.true && (Bool.true && (Bool.true && ((Bool.true && (leB (0 + x1) x3)) && Bool.true))))
 (cnd ((leB x0 1000000) && (leB (List.length x4) 1000000))
 (cnd (x1 == x3)
 (cnd (leB (x6 * 1) 140737488355328)
 (K (AV.tup [AV.sl 0 0 1 x6, AV.int IntKind.i64 0]) [Ent.grow8 (x2 ++ x5) []])))))))) := by kernel_rfl

theorem sealOpen_eq (k n a b : List UInt8) (fa fb : Bool) (K : AV → Heap → Prop) : walk Tryd.E RS S2.C (fun _ _ => .unroll 17) 5 34 [.b8 32 k, .b8 12 n, .vec8 fa a, .vec8 fb b] K = (
let x0 : Nat := (List.length a)
let x1 : Nat := (List.length b)
let x2 : Int := (wr IntKind.i64 (subI ((x1 : Nat) : Int) 16))
let x3 : Bool := Bool.true && (sliceOk Option.none (Option.some x2) x1)
let x4 : List UInt8 := (sliceL Option.none (Option.some x2) b)
let x5 : Nat := (List.length x4)
let x6 : List UInt8 := (sliceL (Option.some x2) Option.none b)
let x7 : Nat := (List.length x6)
let x8 : Int := ((x7 : Nat) : Int)
let x9 : Bool := leB (0 + x7) x7
let x10 : List UInt8 := (sealT k n a x4)
let x11 : UInt8 := (0 ||| ((List.getD x6 0 0) ^^^ (List.getD x10 0 0)))
let x12 : UInt8 := (x11 ||| ((List.getD x6 1 0) ^^^ (List.getD x10 1 0)))
let x13 : UInt8 := (x12 ||| ((List.getD x6 2 0) ^^^ (List.getD x10 2 0)))
let x14 : UInt8 := (x13 ||| ((List.getD x6 3 0) ^^^ (List.getD x10 3 0)))
let x15 : UInt8 := (x14 ||| ((List.getD x6 4 0) ^^^ (List.getD x10 4 0)))
let x16 : UInt8 := (x15 ||| ((List.getD x6 5 0) ^^^ (List.getD x10 5 0)))
let x17 : UInt8 := (x16 ||| ((List.getD x6 6 0) ^^^ (List.getD x10 6 0)))
let x18 : UInt8 := (x17 ||| ((List.getD x6 7 0) ^^^ (List.getD x10 7 0)))
let x19 : UInt8 := (x18 ||| ((List.getD x6 8 0) ^^^ (List.getD x10 8 0)))
let x20 : UInt8 := (x19 ||| ((List.getD x6 9 0) ^^^ (List.getD x10 9 0)))
let x21 : UInt8 := (x20 ||| ((List.getD x6 10 0) ^^^ (List.getD x10 10 0)))
let x22 : UInt8 := (x21 ||| ((List.getD x6 11 0) ^^^ (List.getD x10 11 0)))
let x23 : UInt8 := (x22 ||| ((List.getD x6 12 0) ^^^ (List.getD x10 12 0)))
let x24 : UInt8 := (x23 ||| ((List.getD x6 13 0) ^^^ (List.getD x10 13 0)))
let x25 : UInt8 := (x24 ||| ((List.getD x6 14 0) ^^^ (List.getD x10 14 0)))
ite2 (ltI 200 ((x0 : Nat) : Int))
 -- THEN
 (K (AV.tup [AV.vec8 Bool.true [], AV.int IntKind.i64 1]) [])
 -- ELSE
 (ite2 (cond Bool.false Bool.true (ltI 800 x2))
 -- THEN
 (K (AV.tup [AV.vec8 Bool.true [], AV.int IntKind.i64 1]) [])
 -- ELSE
 (ite2 (ltI x2 0)
 -- THEN
 (K (AV.tup [AV.vec8 Bool.true [], AV.int IntKind.i64 4]) [])
 -- ELSE
 (cnd (x3)
 (cnd ((leB x0 1000000) && (leB x5 1000000))
 (cnd (Bool.true && (sliceOk (Option.some x2) Option.none x1))
 (ite2 (ltI 0 x8)
 -- THEN
 (cnd ((inB 0 x7) && Bool.true)
 (cnd (x9)
 (ite2 (ltI 1 x8)
 -- THEN
 (cnd ((inB 1 x7) && Bool.true)
 (cnd (x9)
 (ite2 (ltI 2 x8)
 -- THEN
 (cnd ((inB 2 x7) && Bool.true)
 (cnd (x9)
 (ite2 (ltI 3 x8)
 -- THEN
 (cnd ((inB 3 x7) && Bool.true)
 (cnd (x9)
 (ite2 (ltI 4 x8)
 -- THEN
 (cnd ((inB 4 x7) && Bool.true)
 (cnd (x9)
 (ite2 (ltI 5 x8)
 -- THEN
 (cnd ((inB 5 x7) && Bool.true)
 (cnd (x9)
 (ite2 (ltI 6 x8)
 -- THEN
 (cnd ((inB 6 x7) && Bool.true)
 (cnd (x9)
 (ite2 (ltI 7 x8)
 -- THEN
 (cnd ((inB 7 x7) && Bool.true)
 (cnd (x9)
 (ite2 (ltI 8 x8)
 -- THEN
 (cnd ((inB 8 x7) && Bool.true)
 (cnd (x9)
 (ite2 (ltI 9 x8)
 -- THEN
 (cnd ((inB 9 x7) && Bool.true)
 (cnd (x9)
 (ite2 (ltI 10 x8)
 -- THEN
 (cnd ((inB 10 x7) && Bool.true)
 (cnd (x9)
 (ite2 (ltI 11 x8)
 -- THEN
 (cnd ((inB 11 x7) && Bool.true)
 (cnd (x9)
 (ite2 (ltI 12 x8)
 -- THEN
 (cnd ((inB 12 x7) && Bool.true)
 (cnd (x9)
 (ite2 (ltI 13 x8)
 -- THEN
 (cnd ((inB 13 x7) && Bool.true)
 (cnd (x9)
 (ite2 (ltI 14 x8)
 -- THEN
 (cnd ((inB 14 x7) && Bool.true)
 (cnd (x9)
 (ite2 (ltI 15 x8)
 -- THEN
 (cnd ((inB 15 x7) && Bool.true)
 (cnd (x9)
 (ite2 (ltI 16 x8)
 -- THEN
 (cnd ((inB 16 x7) && Bool.true)
 (cnd (x9)
 (stuckC)))
 -- ELSE
 (ite2 ((((UInt8.toNat (x25 ||| ((List.getD x6 15 0) ^^^ (List.getD x10 15 0)))) : Nat) : Int) != 0)
 -- THEN
 (K (AV.tup [AV.vec8 Bool.true [], AV.int IntKind.i64 10]) [])
 -- ELSE
 (cnd (x3)
 (cnd ((Bool.not (ltB 1600 x5)) && (Bool.not (overB 1 x5)))
 (K (AV.tup [AV.sl 0 0 1 x5, AV.int IntKind.i64 0]) [Ent.grow8 (Cha.streamS k 1 n x4) []])))))))
 -- ELSE
 (ite2 ((((UInt8.toNat x25) : Nat) : Int) != 0)
 -- THEN
 (K (AV.tup [AV.vec8 Bool.true [], AV.int IntKind.i64 10]) [])
 -- ELSE
 (cnd (x3)
 (cnd ((Bool.not (ltB 1600 x5)) && (Bool.not (overB 1 x5)))
 (K (AV.tup [AV.sl 0 0 1 x5, AV.int IntKind.i64 0]) [Ent.grow8 (Cha.streamS k 1 n x4) []])))))))
 -- ELSE
 (ite2 ((((UInt8.toNat x24) : Nat) : Int) != 0)
 -- THEN
 (K (AV.tup [AV.vec8 Bool.true [], AV.int IntKind.i64 10]) [])
 -- ELSE
 (cnd (x3)
 (cnd ((Bool.not (ltB 1600 x5)) && (Bool.not (overB 1 x5)))
 (K (AV.tup [AV.sl 0 0 1 x5, AV.int IntKind.i64 0]) [Ent.grow8 (Cha.streamS k 1 n x4) []])))))))
 -- ELSE
 (ite2 ((((UInt8.toNat x23) : Nat) : Int) != 0)
 -- THEN
 (K (AV.tup [AV.vec8 Bool.true [], AV.int IntKind.i64 10]) [])
 -- ELSE
 (cnd (x3)
 (cnd ((Bool.not (ltB 1600 x5)) && (Bool.not (overB 1 x5)))
 (K (AV.tup [AV.sl 0 0 1 x5, AV.int IntKind.i64 0]) [Ent.grow8 (Cha.streamS k 1 n x4) []])))))))
 -- ELSE
 (ite2 ((((UInt8.toNat x22) : Nat) : Int) != 0)
 -- THEN
 (K (AV.tup [AV.vec8 Bool.true [], AV.int IntKind.i64 10]) [])
 -- ELSE
 (cnd (x3)
 (cnd ((Bool.not (ltB 1600 x5)) && (Bool.not (overB 1 x5)))
 (K (AV.tup [AV.sl 0 0 1 x5, AV.int IntKind.i64 0]) [Ent.grow8 (Cha.streamS k 1 n x4) []])))))))
 -- ELSE
 (ite2 ((((UInt8.toNat x21) : Nat) : Int) != 0)
 -- THEN
 (K (AV.tup [AV.vec8 Bool.true [], AV.int IntKind.i64 10]) [])
 -- ELSE
 (cnd (x3)
 (cnd ((Bool.not (ltB 1600 x5)) && (Bool.not (overB 1 x5)))
 (K (AV.tup [AV.sl 0 0 1 x5, AV.int IntKind.i64 0]) [Ent.grow8 (Cha.streamS k 1 n x4) []])))))))
 -- ELSE
 (ite2 ((((UInt8.toNat x20) : Nat) : Int) != 0)
 -- THEN
 (K (AV.tup [AV.vec8 Bool.true [], AV.int IntKind.i64 10]) [])
 -- ELSE
 (cnd (x3)
 (cnd ((Bool.not (ltB 1600 x5)) && (Bool.not (overB 1 x5)))
 (K (AV.tup [AV.sl 0 0 1 x5, AV.int IntKind.i64 0]) [Ent.grow8 (Cha.streamS k 1 n x4) []])))))))
 -- ELSE
 (ite2 ((((UInt8.toNat x19) : Nat) : Int) != 0)
 -- THEN
 (K (AV.tup [AV.vec8 Bool.true [], AV.int IntKind.i64 10]) [])
 -- ELSE
 (cnd (x3)
 (cnd ((Bool.not (ltB 1600 x5)) && (Bool.not (overB 1 x5)))
 (K (AV.tup [AV.sl 0 0 1 x5, AV.int IntKind.i64 0]) [Ent.grow8 (Cha.streamS k 1 n x4) []])))))))
 -- ELSE
 (ite2 ((((UInt8.toNat x18) : Nat) : Int) != 0)
 -- THEN
 (K (AV.tup [AV.vec8 Bool.true [], AV.int IntKind.i64 10]) [])
 -- ELSE
 (cnd (x3)
 (cnd ((Bool.not (ltB 1600 x5)) && (Bool.not (overB 1 x5)))
 (K (AV.tup [AV.sl 0 0 1 x5, AV.int IntKind.i64 0]) [Ent.grow8 (Cha.streamS k 1 n x4) []])))))))
 -- ELSE
 (ite2 ((((UInt8.toNat x17) : Nat) : Int) != 0)
 -- THEN
 (K (AV.tup [AV.vec8 Bool.true [], AV.int IntKind.i64 10]) [])
 -- ELSE
 (cnd (x3)
 (cnd ((Bool.not (ltB 1600 x5)) && (Bool.not (overB 1 x5)))
 (K (AV.tup [AV.sl 0 0 1 x5, AV.int IntKind.i64 0]) [Ent.grow8 (Cha.streamS k 1 n x4) []])))))))
 -- ELSE
 (ite2 ((((UInt8.toNat x16) : Nat) : Int) != 0)
 -- THEN
 (K (AV.tup [AV.vec8 Bool.true [], AV.int IntKind.i64 10]) [])
 -- ELSE
 (cnd (x3)
 (cnd ((Bool.not (ltB 1600 x5)) && (Bool.not (overB 1 x5)))
 (K (AV.tup [AV.sl 0 0 1 x5, AV.int IntKind.i64 0]) [Ent.grow8 (Cha.streamS k 1 n x4) []])))))))
 -- ELSE
 (ite2 ((((UInt8.toNat x15) : Nat) : Int) != 0)
 -- THEN
 (K (AV.tup [AV.vec8 Bool.true [], AV.int IntKind.i64 10]) [])
 -- ELSE
 (cnd (x3)
 (cnd ((Bool.not (ltB 1600 x5)) && (Bool.not (overB 1 x5)))
 (K (AV.tup [AV.sl 0 0 1 x5, AV.int IntKind.i64 0]) [Ent.grow8 (Cha.streamS k 1 n x4) []])))))))
 -- ELSE
 (ite2 ((((UInt8.toNat x14) : Nat) : Int) != 0)
 -- THEN
 (K (AV.tup [AV.vec8 Bool.true [], AV.int IntKind.i64 10]) [])
 -- ELSE
 (cnd (x3)
 (cnd ((Bool.not (ltB 1600 x5)) && (Bool.not (overB 1 x5)))
 (K (AV.tup [AV.sl 0 0 1 x5, AV.int IntKind.i64 0]) [Ent.grow8 (Cha.streamS k 1 n x4) []])))))))
 -- ELSE
 (ite2 ((((UInt8.toNat x13) : Nat) : Int) != 0)
 -- THEN
 (K (AV.tup [AV.vec8 Bool.true [], AV.int IntKind.i64 10]) [])
 -- ELSE
 (cnd (x3)
 (cnd ((Bool.not (ltB 1600 x5)) && (Bool.not (overB 1 x5)))
 (K (AV.tup [AV.sl 0 0 1 x5, AV.int IntKind.i64 0]) [Ent.grow8 (Cha.streamS k 1 n x4) []])))))))
 -- ELSE
 (ite2 ((((UInt8.toNat x12) : Nat) : Int) != 0)
 -- THEN
 (K (AV.tup [AV.vec8 Bool.true [], AV.int IntKind.i64 10]) [])
 -- ELSE
 (cnd (x3)
 (cnd ((Bool.not (ltB 1600 x5)) && (Bool.not (overB 1 x5)))
 (K (AV.tup [AV.sl 0 0 1 x5, AV.int IntKind.i64 0]) [Ent.grow8 (Cha.streamS k 1 n x4) []])))))))
 -- ELSE
 (ite2 ((((UInt8.toNat x11) : Nat) : Int) != 0)
 -- THEN
 (K (AV.tup [AV.vec8 Bool.true [], AV.int IntKind.i64 10]) [])
 -- ELSE
 (cnd (x3)
 (cnd ((Bool.not (ltB 1600 x5)) && (Bool.not (overB 1 x5)))
 (K (AV.tup [AV.sl 0 0 1 x5, AV.int IntKind.i64 0]) [Ent.grow8 (Cha.streamS k 1 n x4) []])))))))
 -- ELSE
 (cnd (x3)
 (cnd ((Bool.not (ltB 1600 x5)) && (Bool.not (overB 1 x5)))
 (K (AV.tup [AV.sl 0 0 1 x5, AV.int IntKind.i64 0]) [Ent.grow8 (Cha.streamS k 1 n x4) []])))))))))) := by kernel_rfl

end Go.Proofs.YtdipeoacmapehaaDoor

set_option linter.unusedSimpArgs false
set_option linter.unusedVariables false
namespace Go.Proofs.YtdipeoacmapehaaDoor
open Go Go.V Go.Fld Go.Pol Go.Cha
set_option maxRecDepth 100000

theorem over_one {n : Nat} (hn : n ≤ 1600) : overB 1 n = false := by
  rw [overB_eq]; unfold overF
  rw [show (1 : UInt32).toNat = 1 from rfl]
  exact ltB_no (by omega)
theorem length_endR (a : Nat) (p : List UInt64) : (endS a p).length = 16 := by
  rw [endS_eq]; rfl
theorem length_sealT (k n a b : List UInt8) : (sealT k n a b).length = 16 := by
  rw [sealT_eq]; unfold sealTF
  rw [tagS_eq]; unfold tagF
  exact length_endR _ _

/-- A text as it is sealed. -/
noncomputable def sealF (k n a b : List UInt8) : List UInt8 := streamS k 1 n b ++ sealT k n a (streamS k 1 n b)
noncomputable def sealS : List UInt8 → List UInt8 → List UInt8 → List UInt8 → List UInt8 := (sealed sealF).val
theorem sealS_eq (k n a b : List UInt8) : sealS k n a b = sealF k n a b := by rw [sealS, (sealed sealF).property]
theorem length_sealS (k n a b : List UInt8) : (sealS k n a b).length = b.length + 16 := by
  rw [sealS_eq]; unfold sealF
  rw [List.length_append, length_streamS, length_sealT]

noncomputable def nilErr (e : Int) : Out := .ret (.tup [.vec8 true [], .int .i64 e]) []
noncomputable def sealO (k n a b : List UInt8) : Out := .alt (ltB 200 a.length || ltB 800 b.length) (nilErr 1) (.ret (.tup [.sl 0 0 1 (b.length + 16), .int .i64 0]) [.grow8 (sealS k n a b) []])

theorem sealSeal_c (k n a b : List UInt8) (fa fb : Bool) : HCall Tryd.E 33 [.b8 32 k, .b8 12 n, .vec8 fa a, .vec8 fb b] (sealO k n a b) := by
  refine HCall.of_walk (R := RS) (T := S2) (fun _ _ => .unroll 17) 5 rfl rfl ?_
  rw [sealSeal_eq]
  dsimp only
  unfold sealO
  rw [show ltI 200 ((a.length : Nat) : Int) = ltB 200 a.length from rfl, show ltI 800 ((b.length : Nat) : Int) = ltB 800 b.length from rfl]
  cases h1 : ltB 200 a.length with
  | true => exact ⟨rfl, rfl⟩
  | false =>
    cases h2 : ltB 800 b.length with
    | true => exact ⟨rfl, rfl⟩
    | false =>
      have h1 := of_ltB_no h1
      have h2 := of_ltB_no h2
      have hs := length_streamS k 1 n b
      rw [take_n (l := streamS k 1 n b) hs.symm, sealS_eq, length_sealT]
      unfold sealF
      rw [ltB_no (by omega), over_one (by omega), hs]
      simp only [ite2_t, ite2_f, cnd_iff, Bool.and_eq_true, leB_iff, ltB_iff, beq_iff_eq, cond_false]
      repeat' apply And.intro
      all_goals first | rfl | trivial | omega

/-- Is the end of what comes another one than the tag? -/
noncomputable def badF (k n a b : List UInt8) : Bool := !(b.drop (b.length - 16) == sealT k n a (b.take (b.length - 16)))
noncomputable def badS : List UInt8 → List UInt8 → List UInt8 → List UInt8 → Bool := (sealed badF).val
theorem badS_eq (k n a b : List UInt8) : badS k n a b = badF k n a b := by rw [badS, (sealed badF).property]
noncomputable def plainF (k n b : List UInt8) : List UInt8 := streamS k 1 n (b.take (b.length - 16))
noncomputable def plainS : List UInt8 → List UInt8 → List UInt8 → List UInt8 := (sealed plainF).val
theorem plainS_eq (k n b : List UInt8) : plainS k n b = plainF k n b := by rw [plainS, (sealed plainF).property]
theorem length_plainS (k n b : List UInt8) : (plainS k n b).length = b.length - 16 := by
  rw [plainS_eq]; unfold plainF
  rw [length_streamS, List.length_take]; omega

theorem or_zero {a b : UInt8} : a ||| b = 0 ↔ a = 0 ∧ b = 0 := by
  constructor
  · intro h
    have h2 : a.toNat ||| b.toNat = 0 := by rw [← UInt8.toNat_or, h]; rfl
    rw [Nat.or_eq_zero_iff] at h2
    exact ⟨UInt8.toNat_inj.1 h2.1, UInt8.toNat_inj.1 h2.2⟩
  · rintro ⟨rfl, rfl⟩; rfl
theorem xor_zero {a b : UInt8} : a ^^^ b = 0 ↔ a = b := by
  constructor
  · intro h
    have : a ^^^ b ^^^ b = 0 ^^^ b := by rw [h]
    rwa [UInt8.xor_assoc, UInt8.xor_self, UInt8.xor_zero, UInt8.zero_xor] at this
  · rintro rfl; exact UInt8.xor_self
theorem odd_iff (x : UInt8) : (((x.toNat : Nat) : Int) != 0) = !(x == 0) := by
  cases h : x == 0
  · have : x ≠ 0 := beq_eq_false_iff_ne.1 h
    have : x.toNat ≠ 0 := fun h => this (UInt8.toNat_inj.1 h)
    simp; omega
  · rw [beq_iff_eq] at h; subst h; rfl

theorem odd_all : ∀ {c t : List UInt8}, c.length = 16 → t.length = 16 →
    ((((((((((((((((((0 : UInt8) ||| (c.getD 0 0 ^^^ t.getD 0 0)) ||| (c.getD 1 0 ^^^ t.getD 1 0)) ||| (c.getD 2 0 ^^^ t.getD 2 0)) ||| (c.getD 3 0 ^^^ t.getD 3 0)) ||| (c.getD 4 0 ^^^ t.getD 4 0)) ||| (c.getD 5 0 ^^^ t.getD 5 0)) ||| (c.getD 6 0 ^^^ t.getD 6 0)) ||| (c.getD 7 0 ^^^ t.getD 7 0)) ||| (c.getD 8 0 ^^^ t.getD 8 0)) ||| (c.getD 9 0 ^^^ t.getD 9 0)) ||| (c.getD 10 0 ^^^ t.getD 10 0)) ||| (c.getD 11 0 ^^^ t.getD 11 0)) ||| (c.getD 12 0 ^^^ t.getD 12 0)) ||| (c.getD 13 0 ^^^ t.getD 13 0)) ||| (c.getD 14 0 ^^^ t.getD 14 0)) ||| (c.getD 15 0 ^^^ t.getD 15 0)) == 0) = (c == t)
  | [c0, c1, c2, c3, c4, c5, c6, c7, c8, c9, c10, c11, c12, c13, c14, c15], [t0, t1, t2, t3, t4, t5, t6, t7, t8, t9, t10, t11, t12, t13, t14, t15], _, _ => by
    rw [Bool.eq_iff_iff, beq_iff_eq, beq_iff_eq]
    simp only [List.getD_cons_zero, List.getD_cons_succ, or_zero, xor_zero, List.cons.injEq, and_true, true_and, and_assoc]

noncomputable def openO (k n a b : List UInt8) : Out := .alt (ltB 200 a.length || ltB 816 b.length) (nilErr 1) (.alt (ltB b.length 16) (nilErr 4) (.alt (badS k n a b) (nilErr 10) (.ret (.tup [.sl 0 0 1 (b.length - 16), .int .i64 0]) [.grow8 (plainS k n b) []])))

theorem sealOpen_c (k n a b : List UInt8) (fa fb : Bool) (hb : b.length ≤ 1000000000) : HCall Tryd.E 34 [.b8 32 k, .b8 12 n, .vec8 fa a, .vec8 fb b] (openO k n a b) := by
  refine HCall.of_walk (R := RS) (T := S2) (fun _ _ => .unroll 17) 5 rfl rfl ?_
  rw [sealOpen_eq]
  dsimp only
  unfold openO
  have e2 : wr .i64 (subI (b.length : Int) 16) = (b.length : Int) - 16 := by rw [subI_eq, wr_of (by omega) (by omega)]
  rw [e2, show ltI 200 ((a.length : Nat) : Int) = ltB 200 a.length from rfl]
  cases h1 : ltB 200 a.length with
  | true => exact ⟨rfl, rfl⟩
  | false =>
    have h1 := of_ltB_no h1
    cases h2 : ltB 816 b.length with
    | true =>
      have := ltB_iff.1 h2
      rw [ltI_of (x := 800) (by omega)]
      exact ⟨rfl, rfl⟩
    | false =>
      have h2 := of_ltB_no h2
      rw [ltI_no (x := 800) (by omega)]
      cases h3 : ltB b.length 16 with
      | true =>
        have := ltB_iff.1 h3
        rw [ltI_of (x := (b.length : Int) - 16) (by omega)]
        exact ⟨rfl, rfl⟩
      | false =>
        have h3 := of_ltB_no h3
        obtain ⟨m, hm⟩ : ∃ m : Nat, b.length = m + 16 := ⟨b.length - 16, by omega⟩
        have e3 : (b.length : Int) - 16 = (m : Int) := by omega
        rw [e3, ltI_no (x := (m : Int)) (by omega)]
        have e4 : sliceL none (some ((m : Nat) : Int)) b = b.take m := by
          show b.take (Int.toNat _) = _
          rw [Int.toNat_natCast]
        have e5 : sliceL (some ((m : Nat) : Int)) none b = b.drop m := by
          show b.drop (Int.toNat _) = _
          rw [Int.toNat_natCast]
        have e6 : sliceOk none (some ((m : Nat) : Int)) b.length = true := by
          show (nnB _ && leB (Int.toNat _) _) = true
          rw [nnB_iff.2 (by omega), Int.toNat_natCast, leB_of (by omega)]; rfl
        have e7 : sliceOk (some ((m : Nat) : Int)) none b.length = true := by
          show (nnB _ && leB (Int.toNat _) _) = true
          rw [nnB_iff.2 (by omega), Int.toNat_natCast, leB_of (by omega)]; rfl
        have hl : (b.drop m).length = 16 := by rw [List.length_drop]; omega
        have ht : (b.take m).length = m := by rw [List.length_take]; omega
        rw [e4, e5, e6, e7, hl, ht, leB_of (a := a.length) (by omega), leB_of (a := m) (by omega), badS_eq, plainS_eq]
        unfold badF plainF
        rw [show b.length - 16 = m by omega]
        have ho := odd_all hl (length_sealT k n a (b.take m))
        show ite2 (((UInt8.toNat _ : Nat) : Int) != 0) _ _
        rw [odd_iff, ho]
        cases hq : (List.drop m b == sealT k n a (List.take m b)) with
        | false => exact ⟨rfl, rfl⟩
        | true =>
          rw [ltB_no (by omega), over_one (by omega)]
          exact ⟨rfl, rfl⟩

theorem sealSeal_c2 (k n a b : List UInt8) (fa fb : Bool) (h1 : ltB 200 a.length = false) (h2 : ltB 800 b.length = false) : HCall Tryd.E 33 [.b8 32 k, .b8 12 n, .vec8 fa a, .vec8 fb b] (.ret (.tup [.sl 0 0 1 (b.length + 16), .int .i64 0]) [.grow8 (sealS k n a b) []]) := by
  have h := sealSeal_c k n a b fa fb
  unfold sealO at h
  rw [h1, h2] at h
  obtain ⟨x, _, z⟩ := h
  exact ⟨x, rfl, z⟩
/-- Seal where a text is short enough; Open. -/
noncomputable def S3 : Ctr Tryd.E := (S2.add 33 (fun
    | [.b8 32 k, .b8 12 n, .vec8 _ a, .vec8 _ b] => some (!(ltB 200 a.length) && !(ltB 800 b.length), .ret (.tup [.sl 0 0 1 (b.length + 16), .int .i64 0]) [.grow8 (sealS k n a b) []])
    | _ => none) (by
      intro args pre out h hp
      split at h
      · simp only [Option.some.injEq, Prod.mk.injEq] at h
        obtain ⟨rfl, rfl⟩ := h
        simp only [Bool.and_eq_true, Bool.not_eq_true'] at hp
        exact sealSeal_c2 _ _ _ _ _ _ hp.1 hp.2
      · simp at h)).add 34 (fun
    | [.b8 32 k, .b8 12 n, .vec8 _ a, .vec8 _ b] => some (leB b.length 1000000000, openO k n a b)
    | _ => none) (by
      intro args pre out h hp
      split at h
      · simp only [Option.some.injEq, Prod.mk.injEq] at h
        obtain ⟨rfl, rfl⟩ := h
        exact sealOpen_c _ _ _ _ _ _ (leB_iff.1 hp)
      · simp at h)
end Go.Proofs.YtdipeoacmapehaaDoor

set_option linter.unusedSimpArgs false
set_option linter.unusedVariables false
namespace Go.Proofs.YtdipeoacmapehaaDoor
open Go Go.V Go.Fld Go.Pol Go.Cha
set_option maxHeartbeats 0
set_option maxRecDepth 100000

theorem cnonce_eq (n : UInt64) (K : AV → Heap → Prop) : walk Tryd.E RS S3.C (fun _ _ => .unroll 17) 5 37 [.u64 n] K = (

K (AV.b8 12 (List.set (List.set (List.set (List.set (List.set (List.set (List.set (List.set [0, 0, 0, 0, 0, 0, 0, 0, 0, 0, 0, 0] 4 (UInt64.toUInt8 (shr64 n 0))) 5 (UInt64.toUInt8 (shr64 n 8))) 6 (UInt64.toUInt8 (shr64 n 16))) 7 (UInt64.toUInt8 (shr64 n 24))) 8 (UInt64.toUInt8 (shr64 n 32))) 9 (UInt64.toUInt8 (shr64 n 40))) 10 (UInt64.toUInt8 (shr64 n 48))) 11 (UInt64.toUInt8 (shr64 n 56)))) []) := by kernel_rfl

theorem cbegin_eq (k : List UInt8) (K : AV → Heap → Prop) : walk Tryd.E RS S3.C (fun _ _ => .unroll 17) 5 24 [.b8 32 k] K = (

K (AV.agg [AV.bool Bool.true, AV.b8 32 k, AV.u64 0]) []) := by kernel_rfl

theorem ccheck_eq (b : Bool) (k : List UInt8) (n : UInt64) (K : AV → Heap → Prop) : walk Tryd.E RS S3.C (fun _ _ => .unroll 17) 5 36 [.agg [.bool b, .b8 32 k, .u64 n]] K = (

ite2 (Bool.not b)
 -- THEN
 (ite2 (cond Bool.true (Bool.not ((b == Bool.false) && ((k == [0, 0, 0, 0, 0, 0, 0, 0, 0, 0, 0, 0, 0, 0, 0, 0, 0, 0, 0, 0, 0, 0, 0, 0, 0, 0, 0, 0, 0, 0, 0, 0]) && ((n == 0) && Bool.true)))) Bool.false)
 -- THEN
 (K (AV.int IntKind.i64 9) [])
 -- ELSE
 (K (AV.int IntKind.i64 0) []))
 -- ELSE
 (K (AV.int IntKind.i64 0) [])) := by kernel_rfl

end Go.Proofs.YtdipeoacmapehaaDoor

set_option linter.unusedSimpArgs false
set_option linter.unusedVariables false
namespace Go.Proofs.YtdipeoacmapehaaDoor
open Go Go.V Go.Fld Go.Pol Go.Cha
set_option maxRecDepth 100000

noncomputable def cnonceF (n : UInt64) : List UInt8 := List.set (List.set (List.set (List.set (List.set (List.set (List.set (List.set [0, 0, 0, 0, 0, 0, 0, 0, 0, 0, 0, 0] 4 (UInt64.toUInt8 (shr64 n 0))) 5 (UInt64.toUInt8 (shr64 n 8))) 6 (UInt64.toUInt8 (shr64 n 16))) 7 (UInt64.toUInt8 (shr64 n 24))) 8 (UInt64.toUInt8 (shr64 n 32))) 9 (UInt64.toUInt8 (shr64 n 40))) 10 (UInt64.toUInt8 (shr64 n 48))) 11 (UInt64.toUInt8 (shr64 n 56))
noncomputable def cnonceS : UInt64 → List UInt8 := (sealed cnonceF).val
theorem cnonceS_eq (n : UInt64) : cnonceS n = cnonceF n := by rw [cnonceS, (sealed cnonceF).property]
theorem cnonce_c (n : UInt64) : HCall Tryd.E 37 [.u64 n] (.ret (.b8 12 (cnonceS n)) []) := by
  refine HCall.of_walk (R := RS) (T := S3) (fun _ _ => .unroll 17) 5 rfl rfl ?_
  rw [cnonce_eq, cnonceS_eq]
  exact ⟨rfl, rfl⟩
def zero32 : List UInt8 := [0, 0, 0, 0, 0, 0, 0, 0, 0, 0, 0, 0, 0, 0, 0, 0, 0, 0, 0, 0, 0, 0, 0, 0, 0, 0, 0, 0, 0, 0, 0, 0]
theorem ccheck_c1 (k : List UInt8) (n : UInt64) : HCall Tryd.E 36 [.agg [.bool true, .b8 32 k, .u64 n]] (.ret (.int .i64 0) []) := by
  refine HCall.of_walk (R := RS) (T := S3) (fun _ _ => .unroll 17) 5 rfl rfl ?_
  rw [ccheck_eq]
  exact ⟨rfl, rfl⟩
/-- Is it a cipher of nothing? -/
noncomputable def nilCF (k : List UInt8) (n : UInt64) : Bool := k == zero32 && n == 0
noncomputable def nilC : List UInt8 → UInt64 → Bool := (sealed nilCF).val
theorem nilC_eq (k : List UInt8) (n : UInt64) : nilC k n = (k == zero32 && n == 0) := by rw [nilC, (sealed nilCF).property]; rfl
theorem ccheck_c0 (k : List UInt8) (n : UInt64) : HCall Tryd.E 36 [.agg [.bool false, .b8 32 k, .u64 n]] (.alt (nilC k n) (.ret (.int .i64 0) []) (.ret (.int .i64 9) [])) := by
  refine HCall.of_walk (R := RS) (T := S3) (fun _ _ => .unroll 17) 5 rfl rfl ?_
  rw [ccheck_eq, nilC_eq]
  have e : ((false == false) && ((k == [0, 0, 0, 0, 0, 0, 0, 0, 0, 0, 0, 0, 0, 0, 0, 0, 0, 0, 0, 0, 0, 0, 0, 0, 0, 0, 0, 0, 0, 0, 0, 0]) && ((n == 0) && true))) = (k == zero32 && n == 0) := by
    rw [Bool.and_true]; rfl
  rw [e]
  cases k == zero32 && n == 0 with
  | true => exact ⟨rfl, rfl⟩
  | false => exact ⟨rfl, rfl⟩
theorem cbegin_c (k : List UInt8) : HCall Tryd.E 24 [.b8 32 k] (.ret (.agg [.bool true, .b8 32 k, .u64 0]) []) := by
  refine HCall.of_walk (R := RS) (T := S3) (fun _ _ => .unroll 17) 5 rfl rfl ?_
  rw [cbegin_eq]
  exact ⟨rfl, rfl⟩
noncomputable def C1 : Ctr Tryd.E := ((S3.add 37 (fun
    | [.u64 n] => some (true, .ret (.b8 12 (cnonceS n)) [])
    | _ => none) (by
      intro args pre out h hp
      split at h
      · simp only [Option.some.injEq, Prod.mk.injEq] at h
        obtain ⟨rfl, rfl⟩ := h
        exact cnonce_c _
      · simp at h)).add 24 (fun
    | [.b8 32 k] => some (true, .ret (.agg [.bool true, .b8 32 k, .u64 0]) [])
    | _ => none) (by
      intro args pre out h hp
      split at h
      · simp only [Option.some.injEq, Prod.mk.injEq] at h
        obtain ⟨rfl, rfl⟩ := h
        exact cbegin_c _
      · simp at h)).add 36 (fun
    | [.agg [.bool true, .b8 32 _, .u64 _]] => some (true, .ret (.int .i64 0) [])
    | [.agg [.bool false, .b8 32 k, .u64 n]] => some (true, .alt (nilC k n) (.ret (.int .i64 0) []) (.ret (.int .i64 9) []))
    | _ => none) (by
      intro args pre out h hp
      split at h
      · simp only [Option.some.injEq, Prod.mk.injEq] at h
        obtain ⟨rfl, rfl⟩ := h
        exact ccheck_c1 _ _
      · simp only [Option.some.injEq, Prod.mk.injEq] at h
        obtain ⟨rfl, rfl⟩ := h
        exact ccheck_c0 _ _
      · simp at h)
end Go.Proofs.YtdipeoacmapehaaDoor

set_option linter.unusedSimpArgs false
set_option linter.unusedVariables false
namespace Go.Proofs.YtdipeoacmapehaaDoor
open Go Go.V Go.Fld Go.Pol Go.Cha
set_option maxHeartbeats 0
set_option maxRecDepth 100000

theorem csealT_eq (k ad b : List UInt8) (n : UInt64) (fa fb : Bool) (K : AV → Heap → Prop) : walk Tryd.E RS C1.C (fun _ _ => .unroll 17) 5 26 [.agg [.bool true, .b8 32 k, .u64 n], .vec8 fa ad, .vec8 fb b] K = (
let x0 : Nat := (List.length b)
ite2 ((((UInt64.toNat n) : Nat) : Int) == 18446744073709551615)
 -- THEN
 (K (AV.tup [AV.agg [AV.bool Bool.false, AV.b8 32 [0, 0, 0, 0, 0, 0, 0, 0, 0, 0, 0, 0, 0, 0, 0, 0, 0, 0, 0, 0, 0, 0, 0, 0, 0, 0, 0, 0, 0, 0, 0, 0], AV.u64 0], AV.vec8 Bool.true [], AV.int IntKind.i64 11]) [])
 -- ELSE
 (cnd ((Bool.not (ltB 200 (List.length ad))) && (Bool.not (ltB 800 x0)))
 (K (AV.tup [AV.agg [AV.bool Bool.true, AV.b8 32 k, AV.u64 (n + 1)], AV.sl 0 0 1 (x0 + 16), AV.int IntKind.i64 0]) [Ent.grow8 (sealS k (cnonceS n) ad b) []]))) := by kernel_rfl

theorem csealF_eq (k ad b : List UInt8) (n : UInt64) (fa fb : Bool) (K : AV → Heap → Prop) : walk Tryd.E RS C1.C (fun _ _ => .unroll 17) 5 26 [.agg [.bool false, .b8 32 k, .u64 n], .vec8 fa ad, .vec8 fb b] K = (
let x0 : Nat := (List.length b)
ite2 (nilC k n)
 -- THEN
 (ite2 (ltI 800 ((x0 : Nat) : Int))
 -- THEN
 (K (AV.tup [AV.agg [AV.bool Bool.false, AV.b8 32 [0, 0, 0, 0, 0, 0, 0, 0, 0, 0, 0, 0, 0, 0, 0, 0, 0, 0, 0, 0, 0, 0, 0, 0, 0, 0, 0, 0, 0, 0, 0, 0], AV.u64 0], AV.vec8 Bool.true [], AV.int IntKind.i64 1]) [])
 -- ELSE
 (cnd (leB (x0 * 1) 140737488355328)
 (K (AV.tup [AV.agg [AV.bool Bool.false, AV.b8 32 k, AV.u64 n], AV.sl 0 0 1 x0, AV.int IntKind.i64 0]) [Ent.grow8 b []])))
 -- ELSE
 (K (AV.tup [AV.agg [AV.bool Bool.false, AV.b8 32 [0, 0, 0, 0, 0, 0, 0, 0, 0, 0, 0, 0, 0, 0, 0, 0, 0, 0, 0, 0, 0, 0, 0, 0, 0, 0, 0, 0, 0, 0, 0, 0], AV.u64 0], AV.vec8 Bool.true [], AV.int IntKind.i64 9]) [])) := by kernel_rfl

theorem copenT_eq (k ad b : List UInt8) (n : UInt64) (fa fb : Bool) (K : AV → Heap → Prop) : walk Tryd.E RS C1.C (fun _ _ => .unroll 17) 5 27 [.agg [.bool true, .b8 32 k, .u64 n], .vec8 fa ad, .vec8 fb b] K = (
let x0 : Nat := (List.length b)
ite2 ((((UInt64.toNat n) : Nat) : Int) == 18446744073709551615)
 -- THEN
 (K (AV.tup [AV.agg [AV.bool Bool.false, AV.b8 32 [0, 0, 0, 0, 0, 0, 0, 0, 0, 0, 0, 0, 0, 0, 0, 0, 0, 0, 0, 0, 0, 0, 0, 0, 0, 0, 0, 0, 0, 0, 0, 0], AV.u64 0], AV.vec8 Bool.true [], AV.int IntKind.i64 11]) [])
 -- ELSE
 (cnd (leB x0 1000000000)
 (ite2 ((ltB 200 (List.length ad)) || (ltB 816 x0))
 -- THEN
 (K (AV.tup [AV.agg [AV.bool Bool.false, AV.b8 32 [0, 0, 0, 0, 0, 0, 0, 0, 0, 0, 0, 0, 0, 0, 0, 0, 0, 0, 0, 0, 0, 0, 0, 0, 0, 0, 0, 0, 0, 0, 0, 0], AV.u64 0], AV.vec8 Bool.true [], AV.int IntKind.i64 1]) [])
 -- ELSE
 (ite2 (ltB x0 16)
 -- THEN
 (K (AV.tup [AV.agg [AV.bool Bool.false, AV.b8 32 [0, 0, 0, 0, 0, 0, 0, 0, 0, 0, 0, 0, 0, 0, 0, 0, 0, 0, 0, 0, 0, 0, 0, 0, 0, 0, 0, 0, 0, 0, 0, 0], AV.u64 0], AV.vec8 Bool.true [], AV.int IntKind.i64 4]) [])
 -- ELSE
 (ite2 (badS k (cnonceS n) ad b)
 -- THEN
 (K (AV.tup [AV.agg [AV.bool Bool.false, AV.b8 32 [0, 0, 0, 0, 0, 0, 0, 0, 0, 0, 0, 0, 0, 0, 0, 0, 0, 0, 0, 0, 0, 0, 0, 0, 0, 0, 0, 0, 0, 0, 0, 0], AV.u64 0], AV.vec8 Bool.true [], AV.int IntKind.i64 10]) [])
 -- ELSE
 (K (AV.tup [AV.agg [AV.bool Bool.true, AV.b8 32 k, AV.u64 (n + 1)], AV.sl 0 0 1 (x0 - 16), AV.int IntKind.i64 0]) [Ent.grow8 (plainS k (cnonceS n) b) []])))))) := by kernel_rfl

theorem copenF_eq (k ad b : List UInt8) (n : UInt64) (fa fb : Bool) (K : AV → Heap → Prop) : walk Tryd.E RS C1.C (fun _ _ => .unroll 17) 5 27 [.agg [.bool false, .b8 32 k, .u64 n], .vec8 fa ad, .vec8 fb b] K = (
let x0 : Nat := (List.length b)
ite2 (nilC k n)
 -- THEN
 (ite2 (ltI 800 ((x0 : Nat) : Int))
 -- THEN
 (K (AV.tup [AV.agg [AV.bool Bool.false, AV.b8 32 [0, 0, 0, 0, 0, 0, 0, 0, 0, 0, 0, 0, 0, 0, 0, 0, 0, 0, 0, 0, 0, 0, 0, 0, 0, 0, 0, 0, 0, 0, 0, 0], AV.u64 0], AV.vec8 Bool.true [], AV.int IntKind.i64 1]) [])
 -- ELSE
 (cnd (leB (x0 * 1) 140737488355328)
 (K (AV.tup [AV.agg [AV.bool Bool.false, AV.b8 32 k, AV.u64 n], AV.sl 0 0 1 x0, AV.int IntKind.i64 0]) [Ent.grow8 b []])))
 -- ELSE
 (K (AV.tup [AV.agg [AV.bool Bool.false, AV.b8 32 [0, 0, 0, 0, 0, 0, 0, 0, 0, 0, 0, 0, 0, 0, 0, 0, 0, 0, 0, 0, 0, 0, 0, 0, 0, 0, 0, 0, 0, 0, 0, 0], AV.u64 0], AV.vec8 Bool.true [], AV.int IntKind.i64 9]) [])) := by kernel_rfl

end Go.Proofs.YtdipeoacmapehaaDoor

set_option linter.unusedSimpArgs false
set_option linter.unusedVariables false
namespace Go.Proofs.YtdipeoacmapehaaDoor
open Go Go.V Go.Fld Go.Pol Go.Cha
set_option maxRecDepth 100000

def maxB (n : UInt64) : Bool := (((UInt64.toNat n) : Nat) : Int) == 18446744073709551615
noncomputable def nilAv : AV := .agg [.bool false, .b8 32 zero32, .u64 0]
noncomputable def cErr (e : Int) : Out := .ret (.tup [nilAv, .vec8 true [], .int .i64 e]) []
noncomputable def csealO (k ad b : List UInt8) (n : UInt64) : Out := .alt (maxB n) (cErr 11) (.ret (.tup [.agg [.bool true, .b8 32 k, .u64 (n + 1)], .sl 0 0 1 (b.length + 16), .int .i64 0]) [.grow8 (sealS k (cnonceS n) ad b) []])
noncomputable def csealP (k b : List UInt8) (n : UInt64) : Out := .alt (nilC k n) (.ret (.tup [.agg [.bool false, .b8 32 k, .u64 n], .sl 0 0 1 b.length, .int .i64 0]) [.grow8 b []]) (cErr 9)
noncomputable def copenO (k ad b : List UInt8) (n : UInt64) : Out := .alt (maxB n) (cErr 11) (.alt (ltB 200 ad.length || ltB 816 b.length) (cErr 1) (.alt (ltB b.length 16) (cErr 4) (.alt (badS k (cnonceS n) ad b) (cErr 10)
  (.ret (.tup [.agg [.bool true, .b8 32 k, .u64 (n + 1)], .sl 0 0 1 (b.length - 16), .int .i64 0]) [.grow8 (plainS k (cnonceS n) b) []]))))

theorem cseal_c1 (k ad b : List UInt8) (n : UInt64) (fa fb : Bool) (h1 : ltB 200 ad.length = false) (h2 : ltB 800 b.length = false) : HCall Tryd.E 26 [.agg [.bool true, .b8 32 k, .u64 n], .vec8 fa ad, .vec8 fb b] (csealO k ad b n) := by
  refine HCall.of_walk (R := RS) (T := C1) (fun _ _ => .unroll 17) 5 rfl rfl ?_
  rw [csealT_eq]
  dsimp only
  rw [h1, h2]
  unfold csealO
  show ite2 (maxB n) _ _
  cases maxB n with
  | true => exact ⟨rfl, rfl⟩
  | false => exact ⟨rfl, rfl⟩
theorem cseal_c0 (k ad b : List UInt8) (n : UInt64) (fa fb : Bool) (h2 : ltB 800 b.length = false) : HCall Tryd.E 26 [.agg [.bool false, .b8 32 k, .u64 n], .vec8 fa ad, .vec8 fb b] (csealP k b n) := by
  refine HCall.of_walk (R := RS) (T := C1) (fun _ _ => .unroll 17) 5 rfl rfl ?_
  rw [csealF_eq]
  dsimp only
  unfold csealP
  have := of_ltB_no h2
  rw [show ltI 800 ((b.length : Nat) : Int) = ltB 800 b.length from rfl, h2, leB_of (by omega)]
  cases nilC k n with
  | true => exact ⟨rfl, rfl⟩
  | false => exact ⟨rfl, rfl⟩
theorem copen_c1 (k ad b : List UInt8) (n : UInt64) (fa fb : Bool) (h : b.length ≤ 1000000000) : HCall Tryd.E 27 [.agg [.bool true, .b8 32 k, .u64 n], .vec8 fa ad, .vec8 fb b] (copenO k ad b n) := by
  refine HCall.of_walk (R := RS) (T := C1) (fun _ _ => .unroll 17) 5 rfl rfl ?_
  rw [copenT_eq]
  dsimp only
  rw [leB_of h]
  unfold copenO
  show ite2 (maxB n) _ _
  cases maxB n with
  | true => exact ⟨rfl, rfl⟩
  | false =>
    show ite2 _ _ _
    cases (ltB 200 ad.length || ltB 816 b.length) with
    | true => exact ⟨rfl, rfl⟩
    | false =>
      show ite2 _ _ _
      cases ltB b.length 16 with
      | true => exact ⟨rfl, rfl⟩
      | false =>
        show ite2 _ _ _
        cases badS k (cnonceS n) ad b with
        | true => exact ⟨rfl, rfl⟩
        | false => exact ⟨rfl, rfl⟩
noncomputable def copenP (k b : List UInt8) (n : UInt64) : Out := .alt (nilC k n) (.ret (.tup [.agg [.bool false, .b8 32 k, .u64 n], .sl 0 0 1 b.length, .int .i64 0]) [.grow8 b []]) (cErr 9)
theorem copen_c0 (k ad b : List UInt8) (n : UInt64) (fa fb : Bool) (h2 : ltB 800 b.length = false) : HCall Tryd.E 27 [.agg [.bool false, .b8 32 k, .u64 n], .vec8 fa ad, .vec8 fb b] (copenP k b n) := by
  refine HCall.of_walk (R := RS) (T := C1) (fun _ _ => .unroll 17) 5 rfl rfl ?_
  rw [copenF_eq]
  dsimp only
  unfold copenP
  have := of_ltB_no h2
  rw [show ltI 800 ((b.length : Nat) : Int) = ltB 800 b.length from rfl, h2, leB_of (by omega)]
  cases nilC k n with
  | true => exact ⟨rfl, rfl⟩
  | false => exact ⟨rfl, rfl⟩
noncomputable def C2o : Ctr Tryd.E := (C1.add 26 (fun
    | [.agg [.bool h, .b8 32 k, .u64 n], .vec8 _ ad, .vec8 _ b] => some (!(ltB 200 ad.length) && !(ltB 800 b.length), .alt h (csealO k ad b n) (csealP k b n))
    | _ => none) (by
      intro args pre out h hp
      split at h
      · rename_i b k n fa ad fb text
        simp only [Option.some.injEq, Prod.mk.injEq] at h
        obtain ⟨rfl, rfl⟩ := h
        simp only [Bool.and_eq_true, Bool.not_eq_true'] at hp
        cases b with
        | true => exact HCall.alt_l rfl rfl (cseal_c1 _ _ _ _ _ _ hp.1 hp.2)
        | false => exact HCall.alt_r rfl rfl (cseal_c0 _ _ _ _ _ _ hp.2)
      · simp at h)).add 27 (fun
    | [.agg [.bool h, .b8 32 k, .u64 n], .vec8 _ ad, .vec8 _ b] => some (leB b.length 1000000000 && (h || !(ltB 800 b.length)), .alt h (copenO k ad b n) (copenP k b n))
    | _ => none) (by
      intro args pre out h hp
      split at h
      · rename_i b k n fa ad fb text
        simp only [Option.some.injEq, Prod.mk.injEq] at h
        obtain ⟨rfl, rfl⟩ := h
        simp only [Bool.and_eq_true] at hp
        cases b with
        | true => exact HCall.alt_l rfl rfl (copen_c1 _ _ _ _ _ _ (leB_iff.1 hp.1))
        | false => exact HCall.alt_r rfl rfl (copen_c0 _ _ _ _ _ _ (by simpa using hp.2))
      · simp at h)
end Go.Proofs.YtdipeoacmapehaaDoor

set_option linter.unusedSimpArgs false
set_option linter.unusedVariables false
namespace Go.Proofs.YtdipeoacmapehaaDoor
open Go Go.V Go.Cha Go.Bla
/-- What is known of calls, of either. -/
noncomputable def orC (T T' : Ctr Tryd.E) : Ctr Tryd.E := ⟨fun f args => match T.C f args with
    | some r => some r
    | none => T'.C f args, fun f args pre out h hp => by
    cases h1 : T.C f args with
    | some r => rw [h1] at h; simp only [Option.some.injEq] at h; subst h; exact T.ok f args pre out h1 hp
    | none => rw [h1] at h; exact T'.ok f args pre out h hp⟩
noncomputable def Y1 : Ctr Tryd.E := orC K4 C2o
end Go.Proofs.YtdipeoacmapehaaDoor

set_option linter.unusedSimpArgs false
set_option linter.unusedVariables false
namespace Go.Proofs.YtdipeoacmapehaaDoor
open Go Go.V Go.Fld Go.Pol Go.Cha Go.Bla
set_option maxHeartbeats 0
set_option maxRecDepth 100000

theorem ykey_eq (chain hash ck b : List UInt8) (has fb : Bool) (n : UInt64) (K : AV → Heap → Prop) : walk Tryd.E RQ Y1.C (fun f l => .unroll 5) 5 15 [.agg [.bool has, .b8 32 ck, .u64 n, .b8 32 chain, .b8 32 hash], .vec8 fb b] K = (

cnd ((leB (List.length chain) 64) && (leB (List.length b) 100000))
 (K (AV.agg [AV.agg [AV.bool Bool.true, AV.b8 32 (key2 chain b), AV.u64 0], AV.b8 32 (key1 chain b), AV.b8 32 hash]) [])) := by kernel_rfl

theorem yhash_eq (chain hash ck b : List UInt8) (has fb : Bool) (n : UInt64) (K : AV → Heap → Prop) : walk Tryd.E RQ Y1.C (fun f l => .unroll 5) 5 16 [.agg [.bool has, .b8 32 ck, .u64 n, .b8 32 chain, .b8 32 hash], .vec8 fb b] K = (
let x0 : Nat := (List.length hash)
let x1 : Nat := 140737488355328
let x2 : Nat := (x0 + (List.length b))
let x3 : List UInt8 := (List.take x2 (List.drop 0 (hash ++ b)))
cnd (leB (x0 * 1) x1)
 (cnd (x0 == x0)
 (cnd (leB (x2 * 1) x1)
 (cnd ((Bool.true && (leB (0 + x2) (List.length (hash ++ b)))) && Bool.true)
 (cnd (leB (List.length x3) 1073741824)
 (K (AV.agg [AV.bool has, AV.b8 32 ck, AV.u64 n, AV.b8 32 chain, AV.b8 32 (Bla.sumS x3)]) [])))))) := by kernel_rfl

theorem ybegin_eq (s : List UInt8) (K : AV → Heap → Prop) : walk Tryd.E RQ Y1.C (fun f l => .unroll 5) 5 12 [.str s] K = (
let x0 : Nat := (List.length s)
let x1 : List UInt8 := (List.take x0 (List.drop 0 s))
let x2 : List UInt8 := [0, 0, 0, 0, 0, 0, 0, 0, 0, 0, 0, 0, 0, 0, 0, 0, 0, 0, 0, 0, 0, 0, 0, 0, 0, 0, 0, 0, 0, 0, 0, 0]
ite2 (ltI 32 ((x0 : Nat) : Int))
 -- THEN
 (cnd ((Bool.true && (leB (0 + x0) x0)) && Bool.true)
 (cnd (leB (List.length x1) 1073741824)
 (K (AV.agg [AV.agg [AV.bool Bool.false, AV.b8 32 x2, AV.u64 0], AV.b8 32 (Bla.sumS x1), AV.b8 32 (Bla.sumS x1)]) [])))
 -- ELSE
 (K (AV.agg [AV.agg [AV.bool Bool.false, AV.b8 32 x2, AV.u64 0], AV.b8 32 ((List.take 32 s) ++ (List.drop (Min.min x0 32) x2)), AV.b8 32 ((List.take 32 s) ++ (List.drop (Min.min x0 32) x2))]) [])) := by kernel_rfl

theorem ysplit_eq (chain hash ck : List UInt8) (has : Bool) (n : UInt64) (K : AV → Heap → Prop) : walk Tryd.E RQ Y1.C (fun f l => .unroll 5) 5 20 [.agg [.bool has, .b8 32 ck, .u64 n, .b8 32 chain, .b8 32 hash]] K = (

cnd ((leB (List.length chain) 64) && Bool.true)
 (K (AV.agg [AV.agg [AV.bool Bool.true, AV.b8 32 (key1 chain []), AV.u64 0], AV.agg [AV.bool Bool.true, AV.b8 32 (key2 chain []), AV.u64 0]]) [])) := by kernel_rfl

end Go.Proofs.YtdipeoacmapehaaDoor

/- The abstract layer (third state), part K: contracts that say less; values laid flat. -/
set_option linter.unusedSimpArgs false
set_option linter.unusedVariables false
namespace Go.V
open Go
noncomputable section
section
variable {P : Program} {G : Env P}

/-- A value that says no more. -/
def leV (a b : AV) : Prop := ∀ ρ I w v, rel ρ I w a v → rel ρ I w b v

theorem HCall.weak {f : FuncId} {args : List AV} {a b : AV} {H0 : Heap} (h : HCall G f args (.ret a H0)) (hle : leV a b) (hb : refsA H0.length b = true) : HCall G f args (.ret b H0) := by
  obtain ⟨h1, h2, h3⟩ := h
  refine ⟨h1, ?_, fun ρ I w vs c r => (h3 ρ I w vs c r).mono ?_⟩
  · simp only [Out.okB, Bool.and_eq_true] at h2 ⊢
    exact ⟨hb, h2.2⟩
  · rintro e w' ⟨x, rfl, ρ', I', v, H', g, c', hr, rfl, rfl⟩
    exact ⟨x, rfl, ρ', I', b, H', g, c', hle _ _ _ _ hr, rfl, rfl⟩

/-- A plain value, and nothing of what was made. -/
theorem HCall.drop {f : FuncId} {args : List AV} {a b : AV} {H0 : Heap} (h : HCall G f args (.ret a H0)) (hle : leV a b) (hb : pureA b = true) : HCall G f args (.ret b []) := by
  obtain ⟨h1, h2, h3⟩ := h
  refine ⟨h1, ?_, fun ρ I w vs c r => (h3 ρ I w vs c r).mono ?_⟩
  · simp only [Out.okB, Bool.and_eq_true]
    exact ⟨refsA_pure b hb _, rfl⟩
  · rintro e w' ⟨x, rfl, ρ', I', v, H', g, c', hr, rfl, rfl⟩
    obtain ⟨c2, g2⟩ := cut_conc c' 0 (fun e he => by simp at he)
    exact ⟨x, rfl, cutR 0 ρ', I', b, [], g2 g (fun id h => absurd (c.dom id h) (by simp)) (Nat.le_refl _), c2, rel_pure hb (hle _ _ _ _ hr), rfl, rfl⟩
/-- .. in each case. -/
inductive OutLe : Out → Out → Prop where
  | refl (o : Out) : OutLe o o
  | drop {a b : AV} {H0 : Heap} (hle : leV a b) (hb : pureA b = true) : OutLe (.ret a H0) (.ret b [])
  | alt {b : Bool} {x y x' y' : Out} (h1 : b = true → OutLe x x') (h2 : b = false → OutLe y y') : OutLe (.alt b x y) (.alt b x' y')
theorem OutLe.has {o o' : Out} (h : OutLe o o') : ∀ {v : AV} {H : Heap}, o.has v H → (o'.has v H ∨ ∃ b, pureA b = true ∧ leV v b ∧ o'.has b []) := by
  induction h with
  | refl o => exact fun h => .inl h
  | drop hle hb =>
    rintro v H ⟨rfl, rfl⟩
    exact .inr ⟨_, hb, hle, rfl, rfl⟩
  | @alt b x y x' y' _ _ ih1 ih2 =>
    intro v H h
    cases b with
    | true => exact ih1 rfl h
    | false => exact ih2 rfl h
theorem HCall.le {f : FuncId} {args : List AV} {o o' : Out} (h : HCall G f args o) (hle : OutLe o o') (ho : o'.okB = true) : HCall G f args o' := by
  obtain ⟨h1, h2, h3⟩ := h
  refine ⟨h1, ho, fun ρ I w vs c r => (h3 ρ I w vs c r).mono ?_⟩
  rintro e w' ⟨x, rfl, ρ', I', v, H', g, c', hr, hh⟩
  rcases hle.has hh with h' | ⟨b, hb, hle, h'⟩
  · exact ⟨x, rfl, ρ', I', v, H', g, c', hr, h'⟩
  · obtain ⟨c2, g2⟩ := cut_conc c' 0 (fun e he => by simp at he)
    exact ⟨x, rfl, cutR 0 ρ', I', b, [], g2 g (fun id h => absurd (c.dom id h) (by simp)) (Nat.le_refl _), c2, rel_pure hb (hle _ _ _ _ hr), h'⟩

theorem HCall.args {f : FuncId} {l l' : List AV} {out : Out} (h : HCall G f l out) (hp : pureL l' = true) (hle : ∀ ρ I w vs, RV ρ I w l' vs → RV ρ I w l vs) : HCall G f l' out :=
  ⟨hp, h.po, fun ρ I w vs c r => h.call ρ I w vs c (hle _ _ _ _ r)⟩

theorem leV.refl (a : AV) : leV a a := fun _ _ _ _ h => h
theorem leV_slv {id k m : Nat} {f g : Nat → List AV} (h : ∀ x, x < m → leR (f x) (g x)) : leV (.slv id k m f) (.vecr false k m g) := fun _ _ _ _ r => vecr_le h (fun h => h) (rel_slv.1 r).1
theorem leV_vecr {full full' : Bool} {k m : Nat} {f g : Nat → List AV} (hf : full = true → full' = true) (h : ∀ x, x < m → leR (f x) (g x)) : leV (.vecr full' k m f) (.vecr full k m g) := fun _ _ _ _ r => vecr_le h hf r
theorem leV_nil {a : AV} (h : nilS a = true) {full : Bool} {k : Nat} {g : Nat → List AV} : leV a (.vecr full k 0 g) := fun _ _ _ _ r => by
  obtain ⟨x, rfl⟩ := nilS_val h r
  exact nil_vecr
theorem leV_tup {l l' : List AV} (h : ∀ ρ I w vs, RV ρ I w l vs → RV ρ I w l' vs) : leV (.tup l) (.tup l') := fun _ _ _ _ r => by
  obtain ⟨cs, h1, h2⟩ := rel_tup.1 r
  exact rel_tup.2 ⟨cs, h1, h _ _ _ _ h2⟩
theorem leRV_cons {a b : AV} {l l' : List AV} (h : leV a b) (h' : ∀ ρ I w vs, RV ρ I w l vs → RV ρ I w l' vs) : ∀ ρ I w vs, RV ρ I w (a :: l) vs → RV ρ I w (b :: l') vs := fun _ _ _ _ r => by
  obtain ⟨x, xs, rfl, k1, k2⟩ := RV_cons.1 r
  exact RV_cons.2 ⟨x, xs, rfl, h _ _ _ _ k1, h' _ _ _ _ k2⟩
theorem leRV_nil : ∀ ρ I w vs, RV ρ I w [] vs → RV ρ I w [] vs := fun _ _ _ _ h => h
theorem leV_agg {l l' : List AV} (h : leR l l') : leV (.agg l) (.agg l') := fun _ _ _ _ r => by
  obtain ⟨cs, h1, h2⟩ := rel_agg.1 r
  exact rel_agg.2 ⟨cs, h1, h.rl _ _ _ _ h2⟩
/-- What is put together, laid flat. -/
theorem leV_flat (l : List AV) : leV (.agg l) (.agg (flL l)) := fun ρ I w v h => by
  obtain ⟨cs, h1, h2⟩ := rel_agg.1 h
  exact rel_agg.2 ⟨cs, h1, (RL_fl l _).1 h2⟩
end
end
end Go.V

set_option linter.unusedSimpArgs false
set_option linter.unusedVariables false
namespace Go.Proofs.YtdipeoacmapehaaDoor
open Go Go.V Go.Fld Go.Pol Go.Cha Go.Bla
set_option maxRecDepth 100000
/-- What both know alike: its parts, laid flat. -/
noncomputable def symV (has : Bool) (ck : List UInt8) (n : UInt64) (chain hash : List UInt8) : AV := .agg [.bool has, .b8 32 ck, .u64 n, .b8 32 chain, .b8 32 hash]

theorem yhash_c (chain hash ck b : List UInt8) (has fb : Bool) (n : UInt64) (h : hash.length + b.length ≤ 1000000) :
    HCall Tryd.E 16 [.agg [.bool has, .b8 32 ck, .u64 n, .b8 32 chain, .b8 32 hash], .vec8 fb b] (.ret (symV has ck n chain (sumS (hash ++ b))) []) := by
  refine HCall.of_walk (R := RQ) (T := Y1) (fun _ _ => .unroll 5) 5 rfl rfl ?_
  rw [yhash_eq]
  dsimp only
  rw [take_drop_app _ _ _ (by simp), leB_of (by omega), leB_of (by omega), leB_of (by simp), leB_of (by simp; omega), beq_self_eq_true]
  exact ⟨rfl, rfl⟩
theorem ykey_c (chain hash ck b : List UInt8) (has fb : Bool) (n : UInt64) (h1 : chain.length ≤ 64) (h2 : b.length ≤ 100000) :
    HCall Tryd.E 15 [.agg [.bool has, .b8 32 ck, .u64 n, .b8 32 chain, .b8 32 hash], .vec8 fb b] (.ret (symV true (key2 chain b) 0 (key1 chain b) hash) []) := by
  refine HCall.weak (a := AV.agg [AV.agg [AV.bool true, AV.b8 32 (key2 chain b), AV.u64 0], AV.b8 32 (key1 chain b), AV.b8 32 hash]) ?_ (leV_flat _) rfl
  refine HCall.of_walk (R := RQ) (T := Y1) (fun _ _ => .unroll 5) 5 rfl rfl ?_
  rw [ykey_eq, leB_of h1, leB_of h2]
  exact ⟨rfl, rfl⟩

noncomputable def Y2 : Ctr Tryd.E := (Y1.add 16 (fun
    | [.agg [.bool has, .b8 32 ck, .u64 n, .b8 32 chain, .b8 32 hash], .vec8 _ b] => some (leB (hash.length + b.length) 1000000, .ret (symV has ck n chain (sumS (hash ++ b))) [])
    | [.agg [.agg [.bool has, .b8 32 ck, .u64 n], .b8 32 chain, .b8 32 hash], .vec8 _ b] => some (leB (hash.length + b.length) 1000000, .ret (symV has ck n chain (sumS (hash ++ b))) [])
    | _ => none) (by
      intro args pre out h hp
      split at h
      · simp only [Option.some.injEq, Prod.mk.injEq] at h
        obtain ⟨rfl, rfl⟩ := h
        exact yhash_c _ _ _ _ _ _ _ (leB_iff.1 hp)
      · simp only [Option.some.injEq, Prod.mk.injEq] at h
        obtain ⟨rfl, rfl⟩ := h
        rename_i has ck n chain hash full b
        refine HCall.args (yhash_c chain hash ck b has full n (leB_iff.1 hp)) rfl fun ρ I w vs r => ?_
        obtain ⟨x, xs, rfl, k1, k2⟩ := RV_cons.1 r
        exact RV_cons.2 ⟨x, xs, rfl, leV_flat _ _ _ _ _ k1, k2⟩
      · simp at h)).add 15 (fun
    | [.agg [.bool has, .b8 32 ck, .u64 n, .b8 32 chain, .b8 32 hash], .vec8 _ b] => some (leB chain.length 64 && leB b.length 100000, .ret (symV true (key2 chain b) 0 (key1 chain b) hash) [])
    | _ => none) (by
      intro args pre out h hp
      split at h
      · simp only [Option.some.injEq, Prod.mk.injEq] at h
        obtain ⟨rfl, rfl⟩ := h
        simp only [Bool.and_eq_true] at hp
        exact ykey_c _ _ _ _ _ _ _ (leB_iff.1 hp.1) (leB_iff.1 hp.2)
      · simp at h)
end Go.Proofs.YtdipeoacmapehaaDoor

set_option linter.unusedSimpArgs false
set_option linter.unusedVariables false
namespace Go.Proofs.YtdipeoacmapehaaDoor
open Go Go.V Go.Fld Go.Pol Go.Cha Go.Bla
set_option maxHeartbeats 0
set_option maxRecDepth 100000

theorem yboth_eq (chain hash ck b : List UInt8) (has fb : Bool) (n : UInt64) (K : AV → Heap → Prop) : walk Tryd.E RQ Y2.C (fun f l => .unroll 5) 5 17 [.agg [.bool has, .b8 32 ck, .u64 n, .b8 32 chain, .b8 32 hash], .vec8 fb b] K = (
let x0 : List UInt8 := (key2 chain b)
cnd ((leB (List.length chain) 64) && (leB (List.length b) 100000))
 (cnd (leB ((List.length hash) + (List.length x0)) 1000000)
 (K (AV.agg [AV.agg [AV.bool Bool.true, AV.b8 32 (key3 chain b), AV.u64 0], AV.b8 32 (key1 chain b), AV.b8 32 (Bla.sumS (hash ++ x0))]) []))) := by kernel_rfl

end Go.Proofs.YtdipeoacmapehaaDoor

set_option linter.unusedSimpArgs false
set_option linter.unusedVariables false
namespace Go.Proofs.YtdipeoacmapehaaDoor
open Go Go.V Go.Fld Go.Pol Go.Cha Go.Bla
set_option maxRecDepth 100000
theorem length_key1 (c b : List UInt8) : (key1 c b).length = 32 := length_macS _ _
theorem length_key2 (c b : List UInt8) : (key2 c b).length = 32 := length_macS _ _
theorem length_key3 (c b : List UInt8) : (key3 c b).length = 32 := length_macS _ _
theorem yboth_c (chain hash ck b : List UInt8) (has fb : Bool) (n : UInt64) (h1 : chain.length ≤ 64) (h2 : b.length ≤ 100000) (h3 : hash.length ≤ 64) :
    HCall Tryd.E 17 [.agg [.bool has, .b8 32 ck, .u64 n, .b8 32 chain, .b8 32 hash], .vec8 fb b] (.ret (symV true (key3 chain b) 0 (key1 chain b) (sumS (hash ++ key2 chain b))) []) := by
  refine HCall.weak (a := AV.agg [AV.agg [AV.bool true, AV.b8 32 (key3 chain b), AV.u64 0], AV.b8 32 (key1 chain b), AV.b8 32 (sumS (hash ++ key2 chain b))]) ?_ (leV_flat _) rfl
  refine HCall.of_walk (R := RQ) (T := Y2) (fun _ _ => .unroll 5) 5 rfl rfl ?_
  rw [yboth_eq]
  dsimp only
  rw [length_key2, leB_of h1, leB_of h2, leB_of (by omega)]
  exact ⟨rfl, rfl⟩
noncomputable def Y3 : Ctr Tryd.E := Y2.add 17 (fun
    | [.agg [.bool has, .b8 32 ck, .u64 n, .b8 32 chain, .b8 32 hash], .vec8 _ b] => some (leB chain.length 64 && (leB b.length 100000 && leB hash.length 64), .ret (symV true (key3 chain b) 0 (key1 chain b) (sumS (hash ++ key2 chain b))) [])
    | _ => none) (by
      intro args pre out h hp
      split at h
      · simp only [Option.some.injEq, Prod.mk.injEq] at h
        obtain ⟨rfl, rfl⟩ := h
        simp only [Bool.and_eq_true] at hp
        exact yboth_c _ _ _ _ _ _ _ (leB_iff.1 hp.1) (leB_iff.1 hp.2.1) (leB_iff.1 hp.2.2)
      · simp at h)
end Go.Proofs.YtdipeoacmapehaaDoor

set_option linter.unusedSimpArgs false
set_option linter.unusedVariables false
namespace Go.Proofs.YtdipeoacmapehaaDoor
open Go Go.V Go.Fld Go.Pol Go.Cha Go.Bla
set_option maxHeartbeats 0
set_option maxRecDepth 100000

theorem yseal_eq (chain hash ck b : List UInt8) (has fb : Bool) (n : UInt64) (K : AV → Heap → Prop) : walk Tryd.E RQ Y3.C (fun f l => .unroll 5) 5 18 [.agg [.bool has, .b8 32 ck, .u64 n, .b8 32 chain, .b8 32 hash], .vec8 fb b] K = (
let x0 : Nat := (List.length hash)
let x1 : Nat := (List.length b)
let x2 : List UInt8 := (sealS ck (cnonceS n) hash b)
let x3 : List UInt8 := (List.take (x1 + 16) (List.drop 0 x2))
let x4 : List UInt8 := (List.take x1 (List.drop 0 b))
cnd ((Bool.not (ltB 200 x0)) && (Bool.not (ltB 800 x1)))
 (ite2 (has)
 -- THEN
 (ite2 (maxB n)
 -- THEN
 (K (AV.tup [AV.agg [AV.agg [AV.bool Bool.false, AV.b8 32 [0, 0, 0, 0, 0, 0, 0, 0, 0, 0, 0, 0, 0, 0, 0, 0, 0, 0, 0, 0, 0, 0, 0, 0, 0, 0, 0, 0, 0, 0, 0, 0], AV.u64 0], AV.b8 32 [0, 0, 0, 0, 0, 0, 0, 0, 0, 0, 0, 0, 0, 0, 0, 0, 0, 0, 0, 0, 0, 0, 0, 0, 0, 0, 0, 0, 0, 0, 0, 0], AV.b8 32 [0, 0, 0, 0, 0, 0, 0, 0, 0, 0, 0, 0, 0, 0, 0, 0, 0, 0, 0, 0, 0, 0, 0, 0, 0, 0, 0, 0, 0, 0, 0, 0]], AV.vec8 Bool.true [], AV.int IntKind.i64 11]) [])
 -- ELSE
 (cnd (Bool.true && ((Bool.true && (leB (0 + (x1 + 16)) (List.length x2))) && Bool.true))
 (cnd (leB (x0 + (List.length x3)) 1000000)
 (K (AV.tup [AV.agg [AV.bool Bool.true, AV.b8 32 ck, AV.u64 (n + 1), AV.b8 32 chain, AV.b8 32 (Bla.sumS (hash ++ x3))], AV.sl 0 0 1 (x1 + 16), AV.int IntKind.i64 0]) [Ent.grow8 x2 []]))))
 -- ELSE
 (ite2 (nilC ck n)
 -- THEN
 (cnd (Bool.true && ((Bool.true && (leB (0 + x1) x1)) && Bool.true))
 (cnd (leB (x0 + (List.length x4)) 1000000)
 (K (AV.tup [AV.agg [AV.bool Bool.false, AV.b8 32 ck, AV.u64 n, AV.b8 32 chain, AV.b8 32 (Bla.sumS (hash ++ x4))], AV.sl 0 0 1 x1, AV.int IntKind.i64 0]) [Ent.grow8 b []])))
 -- ELSE
 (K (AV.tup [AV.agg [AV.agg [AV.bool Bool.false, AV.b8 32 [0, 0, 0, 0, 0, 0, 0, 0, 0, 0, 0, 0, 0, 0, 0, 0, 0, 0, 0, 0, 0, 0, 0, 0, 0, 0, 0, 0, 0, 0, 0, 0], AV.u64 0], AV.b8 32 [0, 0, 0, 0, 0, 0, 0, 0, 0, 0, 0, 0, 0, 0, 0, 0, 0, 0, 0, 0, 0, 0, 0, 0, 0, 0, 0, 0, 0, 0, 0, 0], AV.b8 32 [0, 0, 0, 0, 0, 0, 0, 0, 0, 0, 0, 0, 0, 0, 0, 0, 0, 0, 0, 0, 0, 0, 0, 0, 0, 0, 0, 0, 0, 0, 0, 0]], AV.vec8 Bool.true [], AV.int IntKind.i64 9]) [])))) := by kernel_rfl

theorem yopen_eq (chain hash ck b : List UInt8) (has fb : Bool) (n : UInt64) (K : AV → Heap → Prop) : walk Tryd.E RQ Y3.C (fun f l => .unroll 5) 5 19 [.agg [.bool has, .b8 32 ck, .u64 n, .b8 32 chain, .b8 32 hash], .vec8 fb b] K = (
let x0 : Nat := (List.length b)
let x1 : Nat := (List.length hash)
let x2 : Bool := leB (x1 + x0) 1000000
cnd ((leB x0 1000000000) && (has || (Bool.not (ltB 800 x0))))
 (ite2 (has)
 -- THEN
 (ite2 (maxB n)
 -- THEN
 (K (AV.tup [AV.agg [AV.agg [AV.bool Bool.false, AV.b8 32 [0, 0, 0, 0, 0, 0, 0, 0, 0, 0, 0, 0, 0, 0, 0, 0, 0, 0, 0, 0, 0, 0, 0, 0, 0, 0, 0, 0, 0, 0, 0, 0], AV.u64 0], AV.b8 32 [0, 0, 0, 0, 0, 0, 0, 0, 0, 0, 0, 0, 0, 0, 0, 0, 0, 0, 0, 0, 0, 0, 0, 0, 0, 0, 0, 0, 0, 0, 0, 0], AV.b8 32 [0, 0, 0, 0, 0, 0, 0, 0, 0, 0, 0, 0, 0, 0, 0, 0, 0, 0, 0, 0, 0, 0, 0, 0, 0, 0, 0, 0, 0, 0, 0, 0]], AV.vec8 Bool.true [], AV.int IntKind.i64 11]) [])
 -- ELSE
 (ite2 ((ltB 200 x1) || (ltB 816 x0))
 -- THEN
 (K (AV.tup [AV.agg [AV.agg [AV.bool Bool.false, AV.b8 32 [0, 0, 0, 0, 0, 0, 0, 0, 0, 0, 0, 0, 0, 0, 0, 0, 0, 0, 0, 0, 0, 0, 0, 0, 0, 0, 0, 0, 0, 0, 0, 0], AV.u64 0], AV.b8 32 [0, 0, 0, 0, 0, 0, 0, 0, 0, 0, 0, 0, 0, 0, 0, 0, 0, 0, 0, 0, 0, 0, 0, 0, 0, 0, 0, 0, 0, 0, 0, 0], AV.b8 32 [0, 0, 0, 0, 0, 0, 0, 0, 0, 0, 0, 0, 0, 0, 0, 0, 0, 0, 0, 0, 0, 0, 0, 0, 0, 0, 0, 0, 0, 0, 0, 0]], AV.vec8 Bool.true [], AV.int IntKind.i64 1]) [])
 -- ELSE
 (ite2 (ltB x0 16)
 -- THEN
 (K (AV.tup [AV.agg [AV.agg [AV.bool Bool.false, AV.b8 32 [0, 0, 0, 0, 0, 0, 0, 0, 0, 0, 0, 0, 0, 0, 0, 0, 0, 0, 0, 0, 0, 0, 0, 0, 0, 0, 0, 0, 0, 0, 0, 0], AV.u64 0], AV.b8 32 [0, 0, 0, 0, 0, 0, 0, 0, 0, 0, 0, 0, 0, 0, 0, 0, 0, 0, 0, 0, 0, 0, 0, 0, 0, 0, 0, 0, 0, 0, 0, 0], AV.b8 32 [0, 0, 0, 0, 0, 0, 0, 0, 0, 0, 0, 0, 0, 0, 0, 0, 0, 0, 0, 0, 0, 0, 0, 0, 0, 0, 0, 0, 0, 0, 0, 0]], AV.vec8 Bool.true [], AV.int IntKind.i64 4]) [])
 -- ELSE
 (ite2 (badS ck (cnonceS n) hash b)
 -- THEN
 (K (AV.tup [AV.agg [AV.agg [AV.bool Bool.false, AV.b8 32 [0, 0, 0, 0, 0, 0, 0, 0, 0, 0, 0, 0, 0, 0, 0, 0, 0, 0, 0, 0, 0, 0, 0, 0, 0, 0, 0, 0, 0, 0, 0, 0], AV.u64 0], AV.b8 32 [0, 0, 0, 0, 0, 0, 0, 0, 0, 0, 0, 0, 0, 0, 0, 0, 0, 0, 0, 0, 0, 0, 0, 0, 0, 0, 0, 0, 0, 0, 0, 0], AV.b8 32 [0, 0, 0, 0, 0, 0, 0, 0, 0, 0, 0, 0, 0, 0, 0, 0, 0, 0, 0, 0, 0, 0, 0, 0, 0, 0, 0, 0, 0, 0, 0, 0]], AV.vec8 Bool.true [], AV.int IntKind.i64 10]) [])
 -- ELSE
 (cnd (x2)
 (K (AV.tup [AV.agg [AV.bool Bool.true, AV.b8 32 ck, AV.u64 (n + 1), AV.b8 32 chain, AV.b8 32 (Bla.sumS (hash ++ b))], AV.sl 0 0 1 (x0 - 16), AV.int IntKind.i64 0]) [Ent.grow8 (plainS ck (cnonceS n) b) []]))))))
 -- ELSE
 (ite2 (nilC ck n)
 -- THEN
 (cnd (x2)
 (K (AV.tup [AV.agg [AV.bool Bool.false, AV.b8 32 ck, AV.u64 n, AV.b8 32 chain, AV.b8 32 (Bla.sumS (hash ++ b))], AV.sl 0 0 1 x0, AV.int IntKind.i64 0]) [Ent.grow8 b []]))
 -- ELSE
 (K (AV.tup [AV.agg [AV.agg [AV.bool Bool.false, AV.b8 32 [0, 0, 0, 0, 0, 0, 0, 0, 0, 0, 0, 0, 0, 0, 0, 0, 0, 0, 0, 0, 0, 0, 0, 0, 0, 0, 0, 0, 0, 0, 0, 0], AV.u64 0], AV.b8 32 [0, 0, 0, 0, 0, 0, 0, 0, 0, 0, 0, 0, 0, 0, 0, 0, 0, 0, 0, 0, 0, 0, 0, 0, 0, 0, 0, 0, 0, 0, 0, 0], AV.b8 32 [0, 0, 0, 0, 0, 0, 0, 0, 0, 0, 0, 0, 0, 0, 0, 0, 0, 0, 0, 0, 0, 0, 0, 0, 0, 0, 0, 0, 0, 0, 0, 0]], AV.vec8 Bool.true [], AV.int IntKind.i64 9]) [])))) := by kernel_rfl

end Go.Proofs.YtdipeoacmapehaaDoor

set_option linter.unusedSimpArgs false
set_option linter.unusedVariables false
namespace Go.Proofs.YtdipeoacmapehaaDoor
open Go Go.V Go.Fld Go.Pol Go.Cha
theorem bad_seal (k n a t : List UInt8) : badS k n a (sealS k n a t) = false := by
  rw [badS_eq]; unfold badF
  rw [length_sealS, Nat.add_sub_cancel, sealS_eq]; unfold sealF
  rw [List.drop_left' (length_streamS ..), List.take_left' (length_streamS ..), beq_self_eq_true]; rfl
theorem plain_seal (k n a t : List UInt8) : plainS k n (sealS k n a t) = t := by
  rw [plainS_eq]; unfold plainF
  rw [length_sealS, Nat.add_sub_cancel, sealS_eq]; unfold sealF
  rw [List.take_left' (length_streamS ..), streamS_twice]
end Go.Proofs.YtdipeoacmapehaaDoor

/- The abstract layer (third state), part P: from a given statement to a contract: arguments opened, what is asked behind the call. -/
set_option linter.unusedSimpArgs false
set_option linter.unusedVariables false
namespace Go.V
open Go Go.ChangeShapes Go.WideShapes Go.RowKit Go.ChangeMaps Go.Deep
noncomputable section

def I0 (W : World) : Imm := fun b _ => b < W.heap.size
def noR : Rho := fun _ => none

theorem base_conc {g : Nat → Option (List AV)} {W : World} (hg : ∀ n c, g n = some c → ∃ vs, RL noR (I0 W) W c vs ∧ Lies (I0 W) W n 0 vs) : Conc g noR (I0 W) [] W :=
  ⟨fun _ h => absurd rfl h, fun _ h => by simp at h, fun _ _ h => by simp [noR] at h, fun _ _ _ _ _ h => by simp at h, fun _ _ _ h => by simp at h, fun _ _ h => by simp at h,
    fun _ _ hb => ⟨hb, fun ⟨_, _, h, _⟩ => by simp at h⟩, hg⟩

theorem Good.below {ρ : Rho} {I : Imm} {W : World} {ρ' : Rho} {I' : Imm} {H' : Heap} {W' : World} (g : Good ρ I [] W ρ' I' H' W') : Below W.heap.size W W' :=
  ⟨g.os, g.tape, g.out, g.size, fun b hb => g.block b hb fun _ => noMut⟩

/-- A law that holds: it returns true. -/
theorem calls_of_law {P : Program} {G : Env P} {f : FuncId} {avs : List AV} {W : World} {args : Array Value} (hc : Conc G.g noR (I0 W) [] W) (hr : RV noR (I0 W) W avs args.toList)
    (h : HCall G f avs (.ret (.bool true) [])) : Calls P f args W fun e W' => e = .returned (.bool true) ∧ Below W.heap.size W W' := by
  have := h.call noR (I0 W) W args.toList hc hr
  rw [Array.toArray_toList] at this
  refine this.mono ?_
  rintro e W' ⟨y, rfl, ρ', I', v', H', g, c', hr', hv⟩
  obtain ⟨rfl, rfl⟩ := hv
  exact ⟨by rw [rel_bool.1 hr'], g.below⟩

theorem glob_row {P : Program} {W : World} {name : String} {k : IntKind} {zs : List Int} {g : Nat} {c : List AV} (hg : P.globalNamed name = some g) (h : Lib.TabIs P W name k zs)
    (hc : ∀ ρ I w, RL ρ I w c (zs.map fun z => Value.int k z)) : ∃ vs, RL noR (I0 W) W c vs ∧ Lies (I0 W) W g 0 vs := by
  refine ⟨_, hc _ _ _, fun i x hx => ?_⟩
  unfold Lib.TabIs World.var? at h
  rw [hg] at h
  simp only [Option.bind_some] at h
  split at h
  · rename_i cs el fr hh
    simp only [Option.some.injEq] at h
    subst h
    refine ⟨?_, (Array.getElem?_eq_some_iff.1 hh).1⟩
    simp only [World.cell?, hh, Nat.zero_add]
    simpa using hx
  · simp at h

section
variable {H : Type} {enc : TypeId × Value → H} {P : Program} {W : World} {b0 base : Nat} {sp : Nat → Bool} {held : Bool} {r : Reach}

theorem wf_u8 {n : Int} (h : (Lit.int .u8 n).wf = true) : ∃ x : UInt8, n = x.toNat := by
  simp only [Lit.wf, Bool.and_eq_true, decide_eq_true_eq] at h
  have e1 : IntKind.u8.min = 0 := rfl
  have e2 : IntKind.u8.max = 255 := rfl
  rw [e1, e2] at h
  exact ⟨UInt8.ofNat n.toNat, by simp only [UInt8.toNat_ofNat']; omega⟩

theorem wf_i64 {n : Int} (h : (Lit.int .i64 n).wf = true) : -9223372036854775808 ≤ n ∧ n ≤ 9223372036854775807 := by
  simp only [Lit.wf, Bool.and_eq_true, decide_eq_true_eq] at h
  have e1 : IntKind.i64.min = -9223372036854775808 := rfl
  have e2 : IntKind.i64.max = 9223372036854775807 := rfl
  rw [e1, e2] at h
  exact h

theorem v8_of : ∀ {cs : List Value}, (∀ v ∈ cs, ∃ n : Int, v = .int .u8 n ∧ (Lit.int .u8 n).wf = true) → ∃ l : List UInt8, l.length = cs.length ∧ cs = v8 l
  | [], _ => ⟨[], rfl, rfl⟩
  | v :: cs, h => by
    obtain ⟨l, h1, h2⟩ := v8_of (cs := cs) fun v hv => h v (by simp [hv])
    obtain ⟨n, rfl, hn⟩ := h v (by simp)
    obtain ⟨x, rfl⟩ := wf_u8 hn
    exact ⟨x :: l, by simp [h1], by rw [h2]; rfl⟩

theorem cells_of_arr {t e n : Nat} {q : IntKind} {fuel : Nat} {cs : List Value} {x : DataW H × List MemPlace} (ht : P.underlying t = some (.array n e)) (he : P.underlying e = some (.int q)) (hce : P.cellsOf e = 1) (hct : P.cellsOf t = n)
    (h : DataW.trod enc P W base sp held fuel t cs = some x) : cs.length = n ∧ ∀ v ∈ cs, ∃ m : Int, v = .int q m ∧ (Lit.int q m).wf = true := by
  cases fuel with
  | zero => simp [DataW.trod] at h
  | succ fuel =>
    simp only [DataW.trod, ht, hce, hct, Nat.mul_one] at h
    split at h
    · rename_i hl
      obtain ⟨xs, hm, hx⟩ := Option.map_eq_some_iff.1 h
      refine ⟨hl, fun v hv => ?_⟩
      obtain ⟨i, hi, rfl⟩ := List.getElem_of_mem hv
      obtain ⟨b, hb, hf⟩ := Lib.mapM_at hm i i (by rw [List.getElem?_range (by omega)])
      obtain ⟨z, hc, _, hz⟩ := DataW.trod_int he hf
      have h1 : cs[i]? = some (.int q z) := by
        have := congrArg (·[0]?) hc
        simpa [List.getElem?_take, List.getElem?_drop] using this
      rw [List.getElem?_eq_getElem hi] at h1
      exact ⟨z, by simpa using h1, hz⟩
    · simp at h

/-- An array of bytes that comes in. -/
theorem open_arr8 {t e n : Nat} {v : Value} {d : DataW H} {p : List MemPlace} (ht : P.underlying t = some (.array n e)) (he : P.underlying e = some (.int .u8)) (hce : P.cellsOf e = 1) (hct : P.cellsOf t = n)
    (hval : Value.okWide P W r b0 t v) (hd : DataW.Trod enc P W base sp held t v d p) : ∃ l : List UInt8, l.length = n ∧ ∀ ρ I w, rel ρ I w (.b8 n l) v := by
  simp only [Value.okWide, ht] at hval
  obtain ⟨cs, rfl, h2, _⟩ := hval
  obtain ⟨fuel, hf⟩ := hd
  obtain ⟨h3, h4⟩ := cells_of_arr ht he hce hct hf
  obtain ⟨l, h5, h6⟩ := v8_of h4
  exact ⟨l, by rw [h5, h3], fun ρ I w => rel_b8.2 ⟨cs, rfl, h6, by rw [h5, h3]⟩⟩

/-- An int that comes in. -/
theorem open_i64 {t : Nat} {v : Value} {d : DataW H} {p : List MemPlace} (ht : P.underlying t = some (.int .i64)) (hval : Value.okWide P W r b0 t v) (hd : DataW.Trod enc P W base sp held t v d p) :
    ∃ n : Int, (-9223372036854775808 ≤ n ∧ n ≤ 9223372036854775807) ∧ ∀ ρ I w, rel ρ I w (.int .i64 n) v := by
  obtain ⟨n, rfl, _, _, hn⟩ := open_int ht hval hd
  exact ⟨n, wf_i64 hn, fun _ _ _ => rel_int.2 rfl⟩

/-- A byte that comes in. -/
theorem open_u8 {t : Nat} {v : Value} {d : DataW H} {p : List MemPlace} (ht : P.underlying t = some (.int .u8)) (hval : Value.okWide P W r b0 t v) (hd : DataW.Trod enc P W base sp held t v d p) :
    ∃ x : UInt8, True ∧ ∀ ρ I w, rel ρ I w (.u8 x) v := by
  obtain ⟨n, rfl, _, _, hn⟩ := open_int ht hval hd
  obtain ⟨x, rfl⟩ := wf_u8 hn
  exact ⟨x, trivial, fun _ _ _ => rel_u8.2 rfl⟩

/-- A text that comes in. -/
theorem open_str {t : Nat} {v : Value} {d : DataW H} {p : List MemPlace} (ht : P.underlying t = some .string) (hval : Value.okWide P W r b0 t v) (hd : DataW.Trod enc P W base sp held t v d p) :
    ∃ s : List UInt8, s.length ≤ maxLen ∧ ∀ ρ I w, rel ρ I w (.str s) v := by
  obtain ⟨s, rfl, _, _, hs⟩ := open_string ht hval hd
  exact ⟨s.data.toList, by rw [Array.length_toList]; exact hs, fun _ _ _ => rel_str.2 (by simp)⟩

/-- Rows of one form. -/
theorem RL_map {α : Type} {f : α → AV} {ρ : Rho} {I : Imm} {w : World} {k : Nat} (g : Nat → List Value) : ∀ (n i : Nat), (∀ j, i ≤ j → j < i + n → ∃ x : α, R ρ I w (f x) (g j) ∧ (g j).length = k) →
    ∃ l : List α, l.length = n ∧ RL ρ I w (l.map f) ((List.range' i n).flatMap g)
  | 0, _, _ => ⟨[], rfl, rfl⟩
  | n + 1, i, h => by
    obtain ⟨x, h1, h2⟩ := h i (Nat.le_refl _) (by omega)
    obtain ⟨l, h3, h4⟩ := RL_map g n (i + 1) fun j hj hj' => h j (by omega) (by omega)
    refine ⟨x :: l, by simp [h3], ?_⟩
    rw [List.range'_succ, List.flatMap_cons, List.map_cons]
    exact ⟨_, _, rfl, h1, h4⟩

/-- A slice that comes in. -/
theorem open_rows {α : Type} (f : α → AV) {k : Nat} (hk : ∀ x, szA (f x) = k) (hpos : 0 < k) {t e : Nat} (ht : P.underlying t = some (.slice e)) (hce : P.cellsOf e = k)
    (hel : ∀ fuel cs x, DataW.trod enc P W base sp held fuel e cs = some x → cs.length = k → ∃ x : α, R noR (I0 W) W (f x) cs) {v : Value} {d : DataW H} {p : List MemPlace}
    (hval : Value.okWide P W r b0 t v) (hd : DataW.Trod enc P W base sp held t v d p) : ∃ l : List α, l.length ≤ maxLen ∧ rel noR (I0 W) W (.vec false k (l.map f)) v := by
  obtain ⟨a, len, cap, rfl⟩ := okWide_slice ht hval
  obtain ⟨fuel, hf⟩ := hd
  rcases open_slice ht hf with ⟨h0, _⟩ | ⟨a', len', cap', m, n, D, Pl, h0, _, hl, hm, hmm, _, hx⟩
  · simp only [Value.cells, List.cons.injEq, Value.slice.injEq, and_true] at h0
    obtain ⟨rfl, rfl, rfl⟩ := h0
    exact ⟨[], by simp, rel_vec.2 ⟨by simp, [], by simp [RL], none, 0, by simp, by simp, by simp, .inl (by simp)⟩⟩
  · simp only [Value.cells, List.cons.injEq, Value.slice.injEq, and_true] at h0
    obtain ⟨rfl, rfl, rfl⟩ := h0
    have hlm : len ≤ m := by rw [hmm]; split <;> omega
    let g : Nat → List Value := fun i => (W.cells? base (a'.add (i * P.cellsOf e)) (P.cellsOf e)).getD []
    obtain ⟨l, h1, h2⟩ := RL_map (f := f) (ρ := noR) (I := I0 W) (w := W) (k := k) g len 0 fun j _ hj => by
      obtain ⟨cs', k1, k2⟩ := hx j (by omega)
      have k3 := (World.cells?_some k1).2.1
      rw [hce] at k3
      obtain ⟨x, k4⟩ := hel n cs' _ k2 k3
      have : g j = cs' := by simp [g, k1]
      exact ⟨x, by rw [this]; exact k4, by rw [this]; exact k3⟩
    refine ⟨l, by omega, rel_vec.2 ⟨?_, _, h2, some a', cap, by rw [List.length_map, h1], by rw [List.length_map, h1]; exact hl, by simp, ?_⟩⟩
    · intro b hb
      obtain ⟨x, _, rfl⟩ := List.mem_map.1 hb
      exact hk x
    · rcases Nat.eq_zero_or_pos len with hz | hz
      · exact .inl (by rw [List.length_map, h1, hz])
      · have cell : ∀ i, i < len → ∀ j, j < k → W.cell? (a'.add (i * k + j)) = (g i)[j]? := by
          intro i hi j hj
          obtain ⟨cs', k1, k2⟩ := hx i (by omega)
          have k3 := (World.cells?_some k1).2.2 j (by rw [hce]; exact hj)
          have : g i = cs' := by simp [g, k1]
          rw [this, ← k3, hce, add_add]
        have hg : ∀ i, i < len → (g i).length = k := by
          intro i hi
          obtain ⟨cs', k1, k2⟩ := hx i (by omega)
          have k3 := (World.cells?_some k1).2.1
          rw [hce] at k3
          simp [g, k1, k3]
        have h00 : ∃ y, W.cell? (a'.add 0) = some y := by
          have := cell 0 hz 0 hpos
          rw [Nat.zero_mul, Nat.zero_add] at this
          exact ⟨(g 0)[0]'(by rw [hg 0 hz]; exact hpos), by rw [this]; simp [hg 0 hz, hpos]⟩
        obtain ⟨y, hy⟩ := h00
        have hspot : a'.spot = none := by
          have := World.cell?_spot hy
          simpa [Addr.add] using this
        obtain ⟨b, off, spot⟩ := a'
        simp only at hspot
        subst hspot
        have hadd : ∀ n, (⟨b, off, none⟩ : Addr).add n = ⟨b, off + n, none⟩ := addr_add b off
        have hb : b < W.heap.size := by
          rw [hadd] at hy
          unfold World.cell? at hy
          split at hy
          · rename_i hq; exact (Array.getElem?_eq_some_iff.1 hq).1
          · simp at hy
        refine .inr ⟨b, off, rfl, hb, fun i x hi => ⟨?_, hb⟩⟩
        -- the i-th of all cells
        have get : ∀ (n s i : Nat) (x : Value), (∀ j, s ≤ j → j < s + n → (g j).length = k) → ((List.range' s n).flatMap g)[i]? = some x → i / k < n ∧ (g (s + i / k))[i % k]? = some x := by
          intro n
          induction n with
          | zero => intro s i x _ h; simp at h
          | succ n ih =>
            intro s i x hgl h
            rw [List.range'_succ, List.flatMap_cons] at h
            have hs := hgl s (Nat.le_refl _) (by omega)
            rcases Nat.lt_or_ge i k with hik | hik
            · rw [List.getElem?_append_left (by omega)] at h
              rw [Nat.div_eq_of_lt hik, Nat.mod_eq_of_lt hik]
              exact ⟨by omega, h⟩
            · rw [List.getElem?_append_right (by omega), hs] at h
              obtain ⟨q1, q2⟩ := ih (s + 1) (i - k) x (fun j hj hj' => hgl j (by omega) (by omega)) h
              have e1 : i / k = (i - k) / k + 1 := by
                have : i = (i - k) + k := by omega
                conv => lhs; rw [this]
                rw [Nat.add_div_right _ hpos]
              have e2 : i % k = (i - k) % k := by
                have : i = (i - k) + k := by omega
                conv => lhs; rw [this]
                rw [Nat.add_mod_right]
              rw [e1, e2]
              exact ⟨by omega, by rw [show s + ((i - k) / k + 1) = s + 1 + (i - k) / k by omega]; exact q2⟩
        obtain ⟨q1, q2⟩ := get len 0 i x (fun j _ hj => hg j (by omega)) hi
        rw [Nat.zero_add] at q2
        have := cell (i / k) q1 (i % k) (Nat.mod_lt _ hpos)
        rw [q2, hadd] at this
        rw [show off + i = off + (i / k * k + i % k) by rw [Nat.mul_comm, Nat.div_add_mod]]
        exact this

/-- Bytes that come in. -/
theorem open_vec8 {t e : Nat} (ht : P.underlying t = some (.slice e)) (he : P.underlying e = some (.int .u8)) (hce : P.cellsOf e = 1) {v : Value} {d : DataW H} {p : List MemPlace}
    (hval : Value.okWide P W r b0 t v) (hd : DataW.Trod enc P W base sp held t v d p) : ∃ l : List UInt8, l.length ≤ maxLen ∧ rel noR (I0 W) W (.vec8 false l) v := by
  obtain ⟨l, h1, h2⟩ := open_rows (α := UInt8) (W := W) AV.u8 (k := 1) (fun _ => rfl) Nat.one_pos ht hce (fun fuel cs x h hl => by
    obtain ⟨n, h3, _, h4⟩ := DataW.trod_int he h
    obtain ⟨y, rfl⟩ := wf_u8 h4
    exact ⟨y, h3⟩) hval hd
  refine ⟨l, h1, rel_vec8.2 ?_⟩
  obtain ⟨_, vs, h3, h4⟩ := rel_vec.1 h2
  have : ∀ (l : List UInt8) (vs : List Value), RL noR (I0 W) W (l.map AV.u8) vs → vs = v8 l := by
    intro l
    induction l with
    | nil => intro vs h; exact h
    | cons x l ih =>
      intro vs h
      obtain ⟨ys, zs, rfl, h5, h6⟩ := RL_cons.1 h
      rw [ih zs h6]
      cases h5
      rfl
  rw [this l vs h3, List.length_map] at h4
  exact h4

/-- All arguments read behind the call as they did, if nothing below the heap's old size has turned. -/
theorem trodAll_kept {W' : World} (hl : laidOutB P = true) (hb : Below W.heap.size W W') {sp' : Nat → Bool} : ∀ {ts : List TypeId} {vs : List Value} {ds : List (DataW H)} {ps : List MemPlace},
    (∀ t ∈ ts, P.readableRec t = true ∧ t < P.types.size) → DataW.TrodAll enc P W 0 (fun _ => true) true ts vs ds ps → (∀ p ∈ ps, p.block < W.heap.size) → (∀ p ∈ ps, sp' p.block = true) → DataW.TrodAll enc P W' 0 sp' true ts vs ds ps
  | [], [], [], _, _, h, _, _ => h
  | t :: ts, v :: vs, d :: ds, ps, ht, ⟨p, q, h1, h2, e⟩, hlt, hs => by
    obtain ⟨k1, k2⟩ := ht t (by simp)
    refine ⟨p, q, WideElems.Trod_stays hl k1 k2 h1 (fun x hx => hb.same (hlt x (by rw [e]; simp [hx]))) (fun x hx => hs x (by rw [e]; simp [hx])), ?_, e⟩
    exact trodAll_kept hl hb (fun t h => ht t (by simp [h])) h2 (fun x hx => hlt x (by rw [e]; simp [hx])) (fun x hx => hs x (by rw [e]; simp [hx]))

/-- What a law's statement asks behind the call, where it has returned true and nothing old has turned. -/
theorem post_of_true {f : Func} {s : ChangeSpec} {apart fresh handsOn again : Bool} {W' : World} {args : Array Value} {ds gs : List (DataW H)} {before : List MemPlace} {tb : TypeId}
    (hW : DataW.Whole enc P f.params.toList s.vars apart W args.toList ds gs before) (hv : s.vars = []) (hfn : s.fn H (ds ++ gs) = { results := [.lit (.bool true)], args := ds })
    (hres : f.resultTypes = #[tb]) (hb : P.underlying tb = some .bool) (hl : laidOutB P = true) (hrd : ∀ t ∈ f.params.toList, P.readableRec t = true ∧ t < P.types.size) (hbelow : Below W.heap.size W W') :
    s.post enc P f apart fresh handsOn again W args (.bool true) W' := by
  have hW' := hW
  obtain ⟨pa, pv, h1, h2, rfl, h4, h5⟩ := hW
  rw [hv] at h2
  obtain ⟨rfl, rfl⟩ := trodVars_none h2
  have hlt : ∀ p ∈ pa, p.block < W.heap.size := fun p hp => hW'.lt p (by simp [hp])
  have hold : ∀ q ∈ pa ++ ([] : List MemPlace), (fun b => decide (b < W.heap.size)) q.block = true := fun q hq => by simpa using hlt q (by simpa using hq)
  have ha : ∀ sp' : Nat → Bool, (∀ q ∈ pa, sp' q.block = true) → DataW.TrodAll enc P W' 0 sp' true f.params.toList args.toList (s.fn H (ds ++ [])).args pa := fun sp' hs => by
    rw [hfn]; exact trodAll_kept hl hbelow hrd h1 hlt hs
  have hr : ∀ (b : Nat) (sp' : Nat → Bool) (hd : Bool), DataW.TrodAll enc P W' b sp' hd f.resultTypes.toList ((Value.bool true).resultList f.resultTypes.size) (s.fn H (ds ++ [])).results [] := fun b sp' hd => by
    rw [hfn, hres]; exact trodAll_mk1 (shut_bool hb _)
  have hg : ∀ sp' : Nat → Bool, DataW.TrodVars enc P W' sp' s.vars (s.fn H (ds ++ [])).vars [] := fun sp' => by
    rw [hfn, hv]; rfl
  refine ⟨ds, [], pa ++ [], [], pa, [], hW', hr _ _ _, ha _ (fun q hq => hold q (by simpa using hq)), hg _, World.keptBut_mono (fun q hq => ⟨hq, .inr (by simpa using hq)⟩) (hbelow.frame (· ∈ pa ++ [])), fun _ => ?_⟩
  refine ⟨ok_one hres rfl (okWide_bool_mk hb _), _, _, ([] ++ pa) ++ [], ⟨[] ++ pa, [], trodAll_append (ha _ fun _ _ => rfl) (hr _ _ _), hg _, rfl, ?_, ?_⟩, ?_⟩
  · intro b off hq
    have hq' : MemPlace.cell b off ∈ pa := by simpa using hq
    rw [hbelow.frozen (hlt _ hq')]
    exact h4 b off (by simpa using hq')
  · intro hh
    simpa using h5 hh
  · intro q hq _
    simpa using hq
end
end
end Go.V

/- The abstract layer (third state): a struct of three ints and a text that comes in, alone or in a slice. -/
set_option linter.unusedSimpArgs false
set_option linter.unusedVariables false
namespace Go.V
open Go Go.ChangeShapes Go.WideShapes Go.RowKit

/-- Three ints and a text. -/
structure Raw3 where
  kind : Int
  a : Int
  b : Int
  text : List UInt8
def inI (n : Int) : Prop := -9223372036854775808 ≤ n ∧ n ≤ 9223372036854775807
def Raw3.ok (r : Raw3) : Prop := inI r.kind ∧ inI r.a ∧ inI r.b ∧ r.text.length ≤ maxLen
def Raw3.av (r : Raw3) : AV := .agg [.int .i64 r.kind, .int .i64 r.a, .int .i64 r.b, .str r.text]

section
variable {H : Type} {enc : TypeId × Value → H} {P : Program} {W : World} {b0 base : Nat} {sp : Nat → Bool} {held : Bool} {r : Reach}

theorem raw_cells {t ti ts fuel : Nat} {fs : Array Field} (ht : P.underlying t = some (.struct fs)) (h0 : (fs[0]?).map (fun f => (f.offset, f.type)) = some (0, ti)) (h1 : (fs[1]?).map (fun f => (f.offset, f.type)) = some (1, ti))
    (h2 : (fs[2]?).map (fun f => (f.offset, f.type)) = some (2, ti)) (h3 : (fs[3]?).map (fun f => (f.offset, f.type)) = some (3, ts)) (hi : P.underlying ti = some (.int .i64)) (hs : P.underlying ts = some .string) (hci : P.cellsOf ti = 1) (hcs : P.cellsOf ts = 1) (hct : P.cellsOf t = 4)
    {cs : List Value} {x : DataW H × List MemPlace} (h : DataW.trod enc P W base sp held fuel t cs = some x) : ∃ r : Raw3, r.ok ∧ cs = [.int .i64 r.kind, .int .i64 r.a, .int .i64 r.b, .string ⟨r.text.toArray⟩] := by
  obtain ⟨xs, n, rfl, rfl, hl, hx, hf⟩ := DataW.trod_struct ht h
  rw [hct] at hl
  obtain ⟨f0, e0, k0⟩ := Option.map_eq_some_iff.1 h0
  obtain ⟨f1, e1, k1⟩ := Option.map_eq_some_iff.1 h1
  obtain ⟨f2, e2, k2⟩ := Option.map_eq_some_iff.1 h2
  obtain ⟨f3, e3, k3⟩ := Option.map_eq_some_iff.1 h3
  simp only [Prod.mk.injEq] at k0 k1 k2 k3
  have len : ∀ {i : Nat} {f : Field}, fs[i]? = some f → i < xs.length := by
    intro i f e
    rw [hx]
    exact (Array.getElem?_eq_some_iff.1 e).1
  have g0 := hf 0 f0 e0
  have g1 := hf 1 f1 e1
  have g2 := hf 2 f2 e2
  have g3 := hf 3 f3 e3
  rw [k0.1, k0.2, hci, List.getElem?_eq_getElem (len e0)] at g0
  rw [k1.1, k1.2, hci, List.getElem?_eq_getElem (len e1)] at g1
  rw [k2.1, k2.2, hci, List.getElem?_eq_getElem (len e2)] at g2
  rw [k3.1, k3.2, hcs, List.getElem?_eq_getElem (len e3)] at g3
  obtain ⟨a, c0, _, w0⟩ := DataW.trod_int hi g0
  obtain ⟨b, c1, _, w1⟩ := DataW.trod_int hi g1
  obtain ⟨c, c2, _, w2⟩ := DataW.trod_int hi g2
  obtain ⟨s, c3, _, w3⟩ := DataW.trod_string hs g3
  refine ⟨⟨a, b, c, s.data.toList⟩, ⟨wf_i64 w0, wf_i64 w1, wf_i64 w2, by rw [Array.length_toList]; exact w3⟩, ?_⟩
  match cs, hl with
  | [y0, y1, y2, y3], _ =>
    simp only [List.drop_zero, List.drop_succ_cons, List.take_succ_cons, List.take_zero, List.cons.injEq, and_true] at c0 c1 c2 c3
    subst c0 c1 c2 c3
    rfl

theorem raw_R (r : Raw3) (ρ : Rho) (I : Imm) (w : World) : R ρ I w r.av [.int .i64 r.kind, .int .i64 r.a, .int .i64 r.b, .string ⟨r.text.toArray⟩] :=
  ⟨_, _, rfl, rfl, _, _, rfl, rfl, _, _, rfl, rfl, _, [], rfl, rfl, rfl⟩

theorem open_raw {t ti ts : Nat} {fs : Array Field} (ht : P.underlying t = some (.struct fs)) (h0 : (fs[0]?).map (fun f => (f.offset, f.type)) = some (0, ti)) (h1 : (fs[1]?).map (fun f => (f.offset, f.type)) = some (1, ti))
    (h2 : (fs[2]?).map (fun f => (f.offset, f.type)) = some (2, ti)) (h3 : (fs[3]?).map (fun f => (f.offset, f.type)) = some (3, ts)) (hi : P.underlying ti = some (.int .i64)) (hs : P.underlying ts = some .string) (hci : P.cellsOf ti = 1) (hcs : P.cellsOf ts = 1) (hct : P.cellsOf t = 4)
    {v : Value} {d : DataW H} {p : List MemPlace} (hval : Value.okWide P W r b0 t v) (hd : DataW.Trod enc P W base sp held t v d p) : ∃ r : Raw3, r.ok ∧ ∀ ρ I w, rel ρ I w r.av v := by
  obtain ⟨cs, rfl, _⟩ := okWide_struct ht hval
  obtain ⟨fuel, hf⟩ := hd
  obtain ⟨r, hr, hcs⟩ := raw_cells ht h0 h1 h2 h3 hi hs hci hcs hct hf
  refine ⟨r, hr, fun ρ I w => ?_⟩
  refine rel_agg.2 ⟨cs, rfl, ?_⟩
  have : cs.toList = _ := hcs
  rw [this]
  exact raw_R r ρ I w

theorem open_raws {te t ti ts : Nat} {fs : Array Field} (hte : P.underlying te = some (.slice t)) (ht : P.underlying t = some (.struct fs)) (h0 : (fs[0]?).map (fun f => (f.offset, f.type)) = some (0, ti)) (h1 : (fs[1]?).map (fun f => (f.offset, f.type)) = some (1, ti))
    (h2 : (fs[2]?).map (fun f => (f.offset, f.type)) = some (2, ti)) (h3 : (fs[3]?).map (fun f => (f.offset, f.type)) = some (3, ts)) (hi : P.underlying ti = some (.int .i64)) (hs : P.underlying ts = some .string) (hci : P.cellsOf ti = 1) (hcs : P.cellsOf ts = 1) (hct : P.cellsOf t = 4)
    {v : Value} {d : DataW H} {p : List MemPlace} (hval : Value.okWide P W r b0 te v) (hd : DataW.Trod enc P W base sp held te v d p) : ∃ l : List Raw3, (l.length ≤ maxLen ∧ ∀ r ∈ l, r.ok) ∧ rel noR (I0 W) W (.vec false 4 (l.map Raw3.av)) v := by
  obtain ⟨l, hl, h⟩ := open_rows (α := {r : Raw3 // r.ok}) (W := W) (fun r => r.1.av) (k := 4) (fun _ => rfl) (by decide) hte hct (fun fuel cs x h hl => by
    obtain ⟨r, hr, hcs⟩ := raw_cells ht h0 h1 h2 h3 hi hs hci hcs hct h
    exact ⟨⟨r, hr⟩, by rw [hcs]; exact raw_R r _ _ _⟩) hval hd
  refine ⟨l.map (·.1), ⟨by rw [List.length_map]; exact hl, fun r hr => ?_⟩, ?_⟩
  · obtain ⟨x, _, rfl⟩ := List.mem_map.1 hr
    exact x.2
  · rw [List.map_map]; exact h
end
end Go.V

/- The abstract layer (third state): raw things that come in a slice, each told by its number. -/
set_option linter.unusedSimpArgs false
set_option linter.unusedVariables false
namespace Go.V
open Go Go.ChangeShapes Go.WideShapes Go.RowKit

def Raw3.cells (r : Raw3) : List AV := [.int .i64 r.kind, .int .i64 r.a, .int .i64 r.b, .str r.text]
def raw0 : Raw3 := ⟨0, 0, 0, []⟩
def rawsF (l : List Raw3) (i : Nat) : List AV := (l.getD i raw0).cells

theorem rel_raws {ρ : Rho} {I : Imm} {w : World} {full : Bool} {l : List Raw3} {v : Value} (h : rel ρ I w (.vec full 4 (l.map Raw3.av)) v) : rel ρ I w (.vecr full 4 l.length (rawsF l)) v := by
  obtain ⟨hsz, vs, hr, hv⟩ := rel_vec.1 h
  rw [List.length_map] at hv
  have hlen : vs.length = l.length * 4 := by
    have : ∀ (rows : List AV) (us : List Value), (∀ a ∈ rows, szA a = 4) → RL ρ I w rows us → us.length = rows.length * 4 := by
      intro rows
      induction rows with
      | nil => intro us _ h; cases h; simp
      | cons a as ih =>
        intro us hk h
        obtain ⟨ys, zs, rfl, h1, h2⟩ := RL_cons.1 h
        rw [List.length_append, R_len a ys h1, hk a (by simp), ih zs (fun b hb => hk b (by simp [hb])) h2, List.length_cons, Nat.add_mul, Nat.one_mul, Nat.add_comm]
    have := this _ _ hsz hr
    rwa [List.length_map] at this
  refine rel_vecr.2 ⟨fun i _ => rfl, vs, hlen, fun i hi => ?_, hv⟩
  obtain ⟨ys, q1, q2, q3, _⟩ := RL_rows hsz hr (i := i) (a := l[i].av) (by simp [hi])
  have hy : ys.length = 4 := by have := R_len _ _ q1; exact this
  have he : (vs.drop (i * 4)).take 4 = ys := by
    apply List.ext_getElem?
    intro j
    rw [List.getElem?_take, List.getElem?_drop]
    split
    · rename_i hj
      rw [List.getElem?_eq_getElem (l := ys) (by omega)]
      exact q3 j _ (List.getElem?_eq_getElem (by omega))
    · rw [List.getElem?_eq_none (by omega)]
  rw [he]
  have hc : rawsF l i = (l[i]).cells := by unfold rawsF; rw [List.getD_eq_getElem?_getD, List.getElem?_eq_getElem hi]; rfl
  rw [hc]
  exact q1

theorem open_rawsR {H : Type} {enc : TypeId × Value → H} {P : Program} {W : World} {b0 base : Nat} {sp : Nat → Bool} {held : Bool} {r : Reach} {te t ti ts : Nat} {fs : Array Field} (hte : P.underlying te = some (.slice t)) (ht : P.underlying t = some (.struct fs)) (h0 : (fs[0]?).map (fun f => (f.offset, f.type)) = some (0, ti)) (h1 : (fs[1]?).map (fun f => (f.offset, f.type)) = some (1, ti))
    (h2 : (fs[2]?).map (fun f => (f.offset, f.type)) = some (2, ti)) (h3 : (fs[3]?).map (fun f => (f.offset, f.type)) = some (3, ts)) (hi : P.underlying ti = some (.int .i64)) (hs : P.underlying ts = some .string) (hci : P.cellsOf ti = 1) (hcs : P.cellsOf ts = 1) (hct : P.cellsOf t = 4)
    {v : Value} {d : DataW H} {p : List MemPlace} (hval : Value.okWide P W r b0 te v) (hd : DataW.Trod enc P W base sp held te v d p) : ∃ l : List Raw3, (l.length ≤ maxLen ∧ ∀ r ∈ l, r.ok) ∧ rel noR (I0 W) W (.vecr false 4 l.length (rawsF l)) v := by
  obtain ⟨l, hl, h⟩ := open_raws hte ht h0 h1 h2 h3 hi hs hci hcs hct hval hd
  exact ⟨l, hl, rel_raws h⟩
end Go.V

/- The abstract layer (third state): lemmas of use in many places. -/
set_option linter.unusedSimpArgs false
set_option linter.unusedVariables false
namespace Go.V
open Go
noncomputable section
section
variable {P : Program} {G : Env P}
/-- What is known of calls, of either. -/
def Ctr.or (T T' : Ctr G) : Ctr G := ⟨fun f args => match T.C f args with
    | some r => some r
    | none => T'.C f args, fun f args pre out h hp => by
    cases h1 : T.C f args with
    | some r => rw [h1] at h; simp only [Option.some.injEq] at h; subst h; exact T.ok f args pre out h1 hp
    | none => rw [h1] at h; exact T'.ok f args pre out h hp⟩
end
/-- Is it so? -/
def yesF (p : Prop) : Bool := @decide p (Classical.propDecidable p)
def yes : Prop → Bool := (sealed yesF).val
theorem yes_iff {p : Prop} : yes p = true ↔ p := by
  rw [yes, (sealed yesF).property]; unfold yesF; exact @decide_eq_true_iff p (Classical.propDecidable p)
theorem ucutOk {α : Type} (l : List α) (m : Int) (hm : 0 ≤ m) : sliceOk none (some (cond false (max (l.length : Int) m) (min (l.length : Int) m))) l.length = true := by
  show (nnB _ && leB (Int.toNat _) _) = true
  rw [cond_false, nnB_iff.2 (by omega), leB_of (by omega)]; rfl
theorem ucutL {α : Type} (l : List α) (m : Int) (hm : 0 ≤ m) : sliceL none (some (cond false (max (l.length : Int) m) (min (l.length : Int) m))) l = l.take m.toNat := by
  show l.take (Int.toNat _) = _
  rw [cond_false]
  rcases Nat.le_total l.length m.toNat with h | h
  · rw [List.take_of_length_le h, List.take_of_length_le (by omega)]
  · congr 1; omega
theorem usomeOk (n : Nat) (m : Int) (hm : 0 ≤ m) : sliceOk none (some (cond false (max (n : Int) m) (min (n : Int) m))) n = true := by
  have := ucutOk (List.replicate n ()) m hm
  rwa [List.length_replicate] at this
theorem usomeN (n : Nat) (m : Int) (hm : 0 ≤ m) : hiN n (some (cond false (max (n : Int) m) (min (n : Int) m))) - 0 = min n m.toNat := by
  show Int.toNat _ - 0 = _
  rw [cond_false]; omega
theorem nnB_nat (n : Nat) : nnB (n : Int) = true := nnB_iff.2 (by omega)
theorem all8 (l : List UInt8) : List.take l.length (List.drop 0 l) = l := by rw [List.drop_zero, List.take_length]
end
end Go.V

set_option linter.unusedSimpArgs false
set_option linter.unusedVariables false
namespace Go.Proofs.YtdipeoacmapehaaDoor
open Go Go.V Go.Fld Go.Pol Go.Cha Go.Bla
set_option maxRecDepth 100000
/-- What a text becomes, and how far the number goes. -/
noncomputable def symSF (has : Bool) (ck : List UInt8) (n : UInt64) (hash b : List UInt8) : List UInt8 := bif has then sealS ck (cnonceS n) hash b else b
noncomputable def symS : Bool → List UInt8 → UInt64 → List UInt8 → List UInt8 → List UInt8 := (sealed symSF).val
theorem symS_eq : symS = symSF := by rw [symS, (sealed symSF).property]
noncomputable def symOF (has : Bool) (ck : List UInt8) (n : UInt64) (b : List UInt8) : List UInt8 := bif has then plainS ck (cnonceS n) b else b
noncomputable def symO : Bool → List UInt8 → UInt64 → List UInt8 → List UInt8 := (sealed symOF).val
theorem symO_eq : symO = symOF := by rw [symO, (sealed symOF).property]
noncomputable def symNF (has : Bool) (n : UInt64) : UInt64 := bif has then n + 1 else n
noncomputable def symN : Bool → UInt64 → UInt64 := (sealed symNF).val
theorem symN_eq : symN = symNF := by rw [symN, (sealed symNF).property]
/-- May it be used? -/
noncomputable def symKF (has : Bool) (ck : List UInt8) (n : UInt64) : Bool := bif has then !maxB n else nilC ck n
noncomputable def symK : Bool → List UInt8 → UInt64 → Bool := (sealed symKF).val
theorem symK_eq : symK = symKF := by rw [symK, (sealed symKF).property]
/-- Does it open? -/
noncomputable def symBF (has : Bool) (ck : List UInt8) (n : UInt64) (hash b : List UInt8) : Bool := bif has then leB 16 b.length && !(badS ck (cnonceS n) hash b) else true
noncomputable def symB : Bool → List UInt8 → UInt64 → List UInt8 → List UInt8 → Bool := (sealed symBF).val
theorem symB_eq : symB = symBF := by rw [symB, (sealed symBF).property]
noncomputable def symLF (has : Bool) (b : List UInt8) : Nat := bif has then b.length + 16 else b.length
noncomputable def symMF (has : Bool) (b : List UInt8) : Nat := bif has then b.length - 16 else b.length
noncomputable def sealO' (has : Bool) (ck : List UInt8) (n : UInt64) (chain hash b : List UInt8) : Out :=
  .ret (.tup [symV has ck (symN has n) chain (sumS (hash ++ symS has ck n hash b)), .sl 0 0 1 (symS has ck n hash b).length, .int .i64 0]) [.grow8 (symS has ck n hash b) []]
noncomputable def openO' (has : Bool) (ck : List UInt8) (n : UInt64) (chain hash b : List UInt8) : Out :=
  .ret (.tup [symV has ck (symN has n) chain (sumS (hash ++ b)), .sl 0 0 1 (symO has ck n b).length, .int .i64 0]) [.grow8 (symO has ck n b) []]

theorem yseal_c (chain hash ck b : List UInt8) (has fb : Bool) (n : UInt64) (h1 : hash.length ≤ 200) (h2 : b.length ≤ 800) (h3 : symK has ck n = true) :
    HCall Tryd.E 18 [.agg [.bool has, .b8 32 ck, .u64 n, .b8 32 chain, .b8 32 hash], .vec8 fb b] (sealO' has ck n chain hash b) := by
  refine HCall.of_walk (R := RQ) (T := Y3) (fun f l => .unroll 5) 5 rfl rfl ?_
  rw [yseal_eq]
  dsimp only
  unfold sealO'
  rw [symS_eq, symN_eq]
  rw [symK_eq] at h3
  rw [ltB_no (by omega), ltB_no (by omega)]
  cases has with
  | true =>
    have h3 : maxB n = false := by simpa [symKF] using h3
    have hl := length_sealS ck (cnonceS n) hash b
    have e1 : List.take (b.length + 16) (List.drop 0 (sealS ck (cnonceS n) hash b)) = sealS ck (cnonceS n) hash b := by rw [← hl, List.drop_zero, List.take_length]
    rw [h3, e1, leB_of (by omega), leB_of (by omega), ← hl]
    exact ⟨rfl, rfl⟩
  | false =>
    have h3 : nilC ck n = true := by simpa [symKF] using h3
    rw [h3, all8, leB_of (a := 0 + b.length) (by omega), leB_of (a := hash.length + b.length) (by omega)]
    exact ⟨rfl, rfl⟩
theorem yopen_c (chain hash ck b : List UInt8) (has fb : Bool) (n : UInt64) (h1 : hash.length ≤ 200) (h2 : b.length ≤ 800) (h3 : symK has ck n = true) (h4 : symB has ck n hash b = true) :
    HCall Tryd.E 19 [.agg [.bool has, .b8 32 ck, .u64 n, .b8 32 chain, .b8 32 hash], .vec8 fb b] (openO' has ck n chain hash b) := by
  refine HCall.of_walk (R := RQ) (T := Y3) (fun f l => .unroll 5) 5 rfl rfl ?_
  rw [yopen_eq]
  dsimp only
  unfold openO'
  rw [symO_eq, symN_eq]
  rw [symK_eq] at h3
  rw [symB_eq] at h4
  rw [ltB_no (a := 800) (by omega), ltB_no (a := 200) (by omega), ltB_no (a := 816) (by omega), leB_of (a := b.length) (by omega), leB_of (a := hash.length + b.length) (by omega)]
  cases has with
  | true =>
    have h3 : maxB n = false := by simpa [symKF] using h3
    have h4 : (leB 16 b.length && !(badS ck (cnonceS n) hash b)) = true := by simpa [symBF] using h4
    simp only [Bool.and_eq_true, Bool.not_eq_true'] at h4
    have hl : (plainS ck (cnonceS n) b).length = b.length - 16 := length_plainS _ _ _
    rw [h3, ltB_no (leB_iff.1 h4.1), h4.2, ← hl]
    exact ⟨rfl, rfl⟩
  | false =>
    have h3 : nilC ck n = true := by simpa [symKF] using h3
    rw [h3]
    exact ⟨rfl, rfl⟩
def zero32' : List UInt8 := [0, 0, 0, 0, 0, 0, 0, 0, 0, 0, 0, 0, 0, 0, 0, 0, 0, 0, 0, 0, 0, 0, 0, 0, 0, 0, 0, 0, 0, 0, 0, 0]
noncomputable def nameF (s : List UInt8) : List UInt8 := bif ltB 32 s.length then sumS s else List.take 32 s ++ List.drop (min s.length 32) zero32'
noncomputable def nameS : List UInt8 → List UInt8 := (sealed nameF).val
theorem nameS_eq : nameS = nameF := by rw [nameS, (sealed nameF).property]
theorem ybegin_c (s : List UInt8) (h : s.length ≤ 1000000) : HCall Tryd.E 12 [.str s] (.ret (symV false zero32' 0 (nameS s) (nameS s)) []) := by
  refine HCall.weak (a := AV.agg [AV.agg [AV.bool false, AV.b8 32 zero32', AV.u64 0], AV.b8 32 (nameS s), AV.b8 32 (nameS s)]) ?_ (leV_flat _) rfl
  refine HCall.of_walk (R := RQ) (T := Y1) (fun _ _ => .unroll 5) 5 rfl rfl ?_
  rw [ybegin_eq, nameS_eq]
  unfold nameF
  dsimp only
  rw [show ltI 32 ((s.length : Nat) : Int) = ltB 32 s.length from rfl, leB_of (a := 0 + s.length) (by omega), all8, leB_of (a := s.length) (by omega)]
  cases ltB 32 s.length with
  | true => exact ⟨rfl, rfl⟩
  | false => exact ⟨rfl, rfl⟩
theorem ysplit_c (chain hash ck : List UInt8) (has : Bool) (n : UInt64) (h : chain.length ≤ 64) :
    HCall Tryd.E 20 [.agg [.bool has, .b8 32 ck, .u64 n, .b8 32 chain, .b8 32 hash]] (.ret (.agg [.bool true, .b8 32 (key1 chain []), .u64 0, .bool true, .b8 32 (key2 chain []), .u64 0]) []) := by
  refine HCall.weak (a := AV.agg [AV.agg [AV.bool true, AV.b8 32 (key1 chain []), AV.u64 0], AV.agg [AV.bool true, AV.b8 32 (key2 chain []), AV.u64 0]]) ?_ (leV_flat _) rfl
  refine HCall.of_walk (R := RQ) (T := Y1) (fun _ _ => .unroll 5) 5 rfl rfl ?_
  rw [ysplit_eq, leB_of h]
  exact ⟨rfl, rfl⟩
noncomputable def Y4 : Ctr Tryd.E := (((Y3.add 18 (fun
    | [.agg [.bool has, .b8 32 ck, .u64 n, .b8 32 chain, .b8 32 hash], .vec8 _ b] => some (leB hash.length 200 && (leB b.length 800 && symK has ck n), sealO' has ck n chain hash b)
    | _ => none) (by
      intro args pre out h hp
      split at h
      · simp only [Option.some.injEq, Prod.mk.injEq] at h
        obtain ⟨rfl, rfl⟩ := h
        simp only [Bool.and_eq_true] at hp
        exact yseal_c _ _ _ _ _ _ _ (leB_iff.1 hp.1) (leB_iff.1 hp.2.1) hp.2.2
      · simp at h)).add 19 (fun
    | [.agg [.bool has, .b8 32 ck, .u64 n, .b8 32 chain, .b8 32 hash], .vec8 _ b] => some (leB hash.length 200 && (leB b.length 800 && (symK has ck n && symB has ck n hash b)), openO' has ck n chain hash b)
    | _ => none) (by
      intro args pre out h hp
      split at h
      · simp only [Option.some.injEq, Prod.mk.injEq] at h
        obtain ⟨rfl, rfl⟩ := h
        simp only [Bool.and_eq_true] at hp
        exact yopen_c _ _ _ _ _ _ _ (leB_iff.1 hp.1) (leB_iff.1 hp.2.1) hp.2.2.1 hp.2.2.2
      · simp at h)).add 12 (fun
    | [.str s] => some (leB s.length 1000000, .ret (symV false zero32' 0 (nameS s) (nameS s)) [])
    | _ => none) (by
      intro args pre out h hp
      split at h
      · simp only [Option.some.injEq, Prod.mk.injEq] at h
        obtain ⟨rfl, rfl⟩ := h
        exact ybegin_c _ (leB_iff.1 hp)
      · simp at h)).add 20 (fun
    | [.agg [.bool has, .b8 32 ck, .u64 n, .b8 32 chain, .b8 32 hash]] => some (leB chain.length 64, .ret (.agg [.bool true, .b8 32 (key1 chain []), .u64 0, .bool true, .b8 32 (key2 chain []), .u64 0]) [])
    | _ => none) (by
      intro args pre out h hp
      split at h
      · simp only [Option.some.injEq, Prod.mk.injEq] at h
        obtain ⟨rfl, rfl⟩ := h
        exact ysplit_c _ _ _ _ _ (leB_iff.1 hp)
      · simp at h)
end Go.Proofs.YtdipeoacmapehaaDoor

set_option linter.unusedSimpArgs false
set_option linter.unusedVariables false
namespace Go.Proofs.YtdipeoacmapehaaDoor
open Go Go.V
set_option maxHeartbeats 0
set_option maxRecDepth 100000

theorem ucut_eq (s : List UInt8) (m : Int) (K : AV → Heap → Prop) : walk Tryd.E (ROps.rows Tryd.E) (Ctr.nil Tryd.E).C (fun _ _ => .unroll 17) 5 13 [.str s, .int .i64 m] K = (
let x0 : Nat := (List.length s)
let x1 : Int := ((x0 : Nat) : Int)
cnd (sliceOk Option.none (Option.some (cond Bool.false (Max.max x1 m) (Min.min x1 m))) x0)
 (K (AV.str (sliceL Option.none (Option.some (cond Bool.false (Max.max x1 m) (Min.min x1 m))) s)) [])) := by kernel_rfl

end Go.Proofs.YtdipeoacmapehaaDoor

set_option linter.unusedSimpArgs false
set_option linter.unusedVariables false
namespace Go.Proofs.YtdipeoacmapehaaDoor
open Go Go.V
set_option maxRecDepth 100000
theorem ucut_c (s : List UInt8) (m : Int) (hm : 0 ≤ m) : HCall Tryd.E 13 [.str s, .int .i64 m] (.ret (.str (s.take m.toNat)) []) := by
  refine HCall.of_walk (R := ROps.rows Tryd.E) (T := Ctr.nil Tryd.E) (fun _ _ => .unroll 17) 5 rfl rfl ?_
  rw [ucut_eq]
  dsimp only
  rw [ucutOk _ _ hm, ucutL _ _ hm]
  exact ⟨rfl, rfl⟩
noncomputable def Ucut : Ctr Tryd.E := (Ctr.nil Tryd.E).add 13 (fun
    | [.str s, .int .i64 m] => some (nnB m, .ret (.str (s.take m.toNat)) [])
    | _ => none) (by
      intro args pre out h hp
      split at h
      · simp only [Option.some.injEq, Prod.mk.injEq] at h
        obtain ⟨rfl, rfl⟩ := h
        exact ucut_c _ _ (nnB_iff.1 hp)
      · simp at h)
end Go.Proofs.YtdipeoacmapehaaDoor

set_option linter.unusedSimpArgs false
set_option linter.unusedVariables false
namespace Go.Proofs.YtdipeoacmapehaaDoor
open Go Go.V
set_option maxHeartbeats 0
set_option maxRecDepth 100000

theorem usome_eq (full : Bool) (n : Nat) (f : Nat → List AV) (m : Int) (K : AV → Heap → Prop) : walk Tryd.E (ROps.rows Tryd.E) (Ctr.nil Tryd.E).C (fun _ _ => .unroll 17) 5 14 [.vecr full 4 n f, .int .i64 m] K = (
let x0 : Int := ((n : Nat) : Int)
cnd (Bool.true && (sliceOk Option.none (Option.some (cond Bool.false (Max.max x0 m) (Min.min x0 m))) n))
 (K (AV.vecr (full && Bool.false) 4 ((hiN n (Option.some (cond Bool.false (Max.max x0 m) (Min.min x0 m)))) - 0) (fun i => f ((loN Option.none) + i))) [])) := by kernel_rfl

end Go.Proofs.YtdipeoacmapehaaDoor

set_option linter.unusedSimpArgs false
set_option linter.unusedVariables false
namespace Go.Proofs.YtdipeoacmapehaaDoor
open Go Go.V
set_option maxRecDepth 100000
theorem usome_c (full : Bool) (n : Nat) (f : Nat → List AV) (m : Int) (hm : 0 ≤ m) : HCall Tryd.E 14 [.vecr full 4 n f, .int .i64 m] (.ret (.vecr false 4 (min n m.toNat) f) []) := by
  refine HCall.of_walk (R := ROps.rows Tryd.E) (T := Ctr.nil Tryd.E) (fun _ _ => .unroll 17) 5 rfl rfl ?_
  rw [usome_eq]
  dsimp only
  have e3 : (fun i => f (loN none + i)) = f := by
    funext i
    show f (0 + i) = f i
    rw [Nat.zero_add]
  rw [usomeOk n m hm, usomeN n m hm, e3, Bool.and_false]
  exact ⟨rfl, rfl⟩
noncomputable def Usome : Ctr Tryd.E := (Ctr.nil Tryd.E).add 14 (fun
    | [.vecr _ 4 n f, .int .i64 m] => some (nnB m, .ret (.vecr false 4 (min n m.toNat) f) [])
    | _ => none) (by
      intro args pre out h hp
      split at h
      · simp only [Option.some.injEq, Prod.mk.injEq] at h
        obtain ⟨rfl, rfl⟩ := h
        exact usome_c _ _ _ _ (nnB_iff.1 hp)
      · simp at h)
end Go.Proofs.YtdipeoacmapehaaDoor

set_option linter.unusedSimpArgs false
set_option linter.unusedVariables false
namespace Go.Proofs.YtdipeoacmapehaaDoor
open Go Go.V
set_option maxRecDepth 100000
theorem upicked_w (n m : Int) (K : AV → Heap → Prop) : walk Tryd.E (ROps.rows Tryd.E) (Ctr.nil Tryd.E).C (fun _ _ => .unroll 6) 3 6 [.int .i64 n, .int .i64 m] K =
    cnd (m != 0) (ite2 (ltI (n.tmod m) 0) (K (.int .i64 (wr .i64 (n.tmod m + m))) []) (K (.int .i64 (n.tmod m)) [])) := by kernel_rfl
theorem upicked_c (n m : Int) (h1 : 0 < m) (h2 : m ≤ 9223372036854775807) : HCall Tryd.E 6 [.int .i64 n, .int .i64 m] (.ret (.int .i64 (n % m)) []) := by
  refine HCall.of_walk (R := ROps.rows Tryd.E) (T := Ctr.nil Tryd.E) (fun _ _ => .unroll 6) 3 rfl rfl ?_
  rw [upicked_w, cnd_eq, ltI_eq, wr_eq]
  refine ⟨by simp; omega, ?_⟩
  have e := pick_val (n := n) h1
  have h6 := Int.emod_nonneg n (show m ≠ 0 by omega)
  have h7 := Int.emod_lt_of_pos n h1
  rw [ite2_eq]
  refine ⟨fun h => ?_, fun h => ?_⟩
  · rw [if_pos (of_decide_eq_true h)] at e
    rw [e, wrapI (by omega) (by omega)]; exact ⟨rfl, rfl⟩
  · rw [if_neg (of_decide_eq_false h)] at e
    rw [e]; exact ⟨rfl, rfl⟩
noncomputable def Upicked : Ctr Tryd.E := (Ctr.nil Tryd.E).add 6 (fun
    | [.int .i64 n, .int .i64 m] => some (decide (0 < m) && decide (m ≤ 9223372036854775807), .ret (.int .i64 (n % m)) [])
    | _ => none) (by
      intro args pre out h hp
      split at h
      · simp only [Option.some.injEq, Prod.mk.injEq] at h
        obtain ⟨rfl, rfl⟩ := h
        simp only [Bool.and_eq_true, decide_eq_true_eq] at hp
        exact upicked_c _ _ hp.1 hp.2
      · simp at h)
end Go.Proofs.YtdipeoacmapehaaDoor

/- The abstract layer (third state), part X: bytes and rows that are written no more from the beginning; arguments of calls that are written no more. -/
set_option linter.unusedSimpArgs false
set_option linter.unusedVariables false
namespace Go.V
open Go
noncomputable section

section
variable {g : Nat → Option (List AV)} {ρ : Rho} {I : Imm} {H : Heap} {w : World}
/-- A new block of which some is written no more, and that nobody owns. -/
theorem froz_new (c : Conc g ρ I H w) {w' : World} (hsz : w.heap.size ≤ w'.heap.size) (hold : ∀ b, b < w.heap.size → w'.heap[b]? = w.heap[b]?) (J : Imm) (hJ : ∀ b o, J b o → w.heap.size ≤ b ∧ b < w'.heap.size)
    (hos : w'.os = w.os) (htape : w'.tape = w.tape) (hout : w'.output = w.output) :
    Good ρ I H w ρ (fun b o => I b o ∨ J b o) H w' ∧ Conc g ρ (fun b o => I b o ∨ J b o) H w' ∧ Mono ρ I w ρ (fun b o => I b o ∨ J b o) w' := by
  have gd : Good ρ I H w ρ (fun b o => I b o ∨ J b o) H w' :=
    ⟨fun _ _ h => h, fun _ _ _ h => h, Nat.le_refl _, fun _ _ h => .inl h, fun b o hb h => h.elim .inl fun h => by have := (hJ b o h).1; omega, hos, htape, hout, hsz,
      fun b off h _ => by simp only [World.cell?, hold b h], fun b h _ => hold b h, fun b h => by unfold bsz; rw [hold b h], fun _ _ _ h => h, fun _ _ h => h⟩
  have m := c.mono gd fun _ _ h => h
  refine ⟨gd, ⟨c.dom, c.res, fun id b h => by have := c.blt id b h; omega, c.inj, ?_, ?_, ?_, ?_⟩, m⟩
  · intro id cs f h
    obtain ⟨b, el, fr, us, k1, k2, k3, k4⟩ := c.blk id cs f h
    exact ⟨b, el, fr, us, k1, by rw [hold b (c.blt id b k1)]; exact k2, RL_mono m _ _ k3, k4⟩
  · intro id e1 h he
    obtain ⟨q, h'⟩ := c.grow id e1 h he
    refine ⟨q, ?_⟩
    rcases h' with ⟨k1, k2⟩ | ⟨b, el, fr, us, rest, k1, k2, k3, k4⟩
    · exact .inl ⟨k1, k2⟩
    · exact .inr ⟨b, el, fr, us, rest, k1, by rw [hold b (c.blt id b k1)]; exact k2, RL_mono m _ _ k3, k4⟩
  · intro b o hb
    rcases hb with hb | hb
    · obtain ⟨q1, q2⟩ := c.imm b o hb
      exact ⟨by omega, q2⟩
    · obtain ⟨q1, q2⟩ := hJ b o hb
      refine ⟨q2, ?_⟩
      rintro ⟨i, e, _, _, k3, _⟩
      have := c.blt i b k3
      omega
  · intro n cs h
    obtain ⟨vs, k1, k2⟩ := c.glob n cs h
    exact ⟨vs, RL_mono m.none _ _ k1, k2.mono m.imm⟩
end

mutual
/-- A value, of which what it points into is written no more: on a condition. -/
def coldA (H : Heap) : AV → Bool × AV × List (Nat × Ent)
  | .sl id off k len => match H[id]? with
    | some (.grow8 l f) => (frzFree f off len && (k == 1 && leB (off + len) l.length), .vec8 false ((l.drop off).take len), [(id, .grow8 l ((off, off + len) :: f))])
    | some (.grow k' rows f) => (frzFree f 0 (len * k) && ((k == k' && off == 0) && len == rows.length), .vec false k rows, [(id, .grow k' rows ((0, len * k) :: f))])
    | _ => (true, .sl id off k len, [])
  | .slv _ k n f => (true, .vecr false k n f, [])
  | .agg l => match coldL H l with
    | (c, l', u) => (c, .agg l', u)
  | a => (true, a, [])
def coldL (H : Heap) : List AV → Bool × List AV × List (Nat × Ent)
  | [] => (true, [], [])
  | a :: as => match coldA H a with
    | (c, a', u) => match coldL (updH H u) as with
      | (c', as', u') => (c && c', a' :: as', u ++ u')
end

theorem coldA_ag (H : Heap) (a : AV) : isAg (coldA H a).2.1 = isAg a := by
  cases a <;> simp only [coldA] <;> try rfl
  split <;> rfl

section
variable {g : Nat → Option (List AV)} {ρ : Rho} {w : World}
mutual
theorem coldA_sound : ∀ (a : AV) (I : Imm) (H : Heap), Conc g ρ I H w → (coldA H a).1 = true → FrzOk g ρ I H w (coldA H a).2.2 fun I' => ∀ xs, R ρ I w a xs → R ρ I' w (coldA H a).2.1 xs
  | .sl id off k len, I, H, c, hc => by
    unfold coldA at hc ⊢
    split at hc
    · rename_i l f hid
      simp only [Bool.and_eq_true, beq_iff_eq] at hc
      obtain ⟨hfr, rfl, hle⟩ := hc
      simp only [hid]
      obtain ⟨I', f1, f2, f3, f4⟩ := frz_sl8 c hid hfr (leB_iff.1 hle)
      refine ⟨I', f1, f2, f3, ?_⟩
      rintro xs ⟨v, rfl, hv⟩
      exact ⟨v, rfl, f4 v hv⟩
    · rename_i k' rows f hid
      simp only [Bool.and_eq_true, beq_iff_eq] at hc
      obtain ⟨hfr, ⟨rfl, rfl⟩, hle⟩ := hc
      simp only [hid]
      obtain ⟨I', f1, f2, f3, f4⟩ := frz_slr c hid hfr hle
      refine ⟨I', f1, f2, f3, ?_⟩
      rintro xs ⟨v, rfl, hv⟩
      exact ⟨v, rfl, f4 v hv⟩
    · exact FrzOk.none c fun xs h => h
  | .slv id k n f, I, H, c, _ => FrzOk.none c fun xs ⟨v, h0, h1, ⟨vs, h2, h3, h4⟩, _⟩ => ⟨v, h0, h1, vs, h2, h3, h4⟩
  | .agg l, I, H, c, hc => by
    obtain ⟨I', f1, f2, f3, f4⟩ := coldL_sound l I H c hc
    exact ⟨I', f1, f2, f3, fun xs h => f4 xs h⟩
  | .any, I, H, c, _ | .raw _, I, H, c, _ | .int _ _, I, H, c, _ | .u8 _, I, H, c, _ | .u32 _, I, H, c, _ | .u64 _, I, H, c, _ | .bool _, I, H, c, _ | .str _, I, H, c, _ | .b8 _ _, I, H, c, _ | .w32 _ _, I, H, c, _ | .w64 _ _, I, H, c, _ | .n64 _ _, I, H, c, _
  | .ptr _ _, I, H, c, _ | .pix _ _ _ _, I, H, c, _ | .vec8 _ _, I, H, c, _ | .vec _ _ _, I, H, c, _ | .vecr _ _ _ _, I, H, c, _ | .vp _ _, I, H, c, _ | .vpx _ _ _ _, I, H, c, _ | .fn _ _ _, I, H, c, _ | .tup _, I, H, c, _ => FrzOk.none c fun xs h => h
theorem coldL_sound : ∀ (l : List AV) (I : Imm) (H : Heap), Conc g ρ I H w → (coldL H l).1 = true → FrzOk g ρ I H w (coldL H l).2.2 fun I' => ∀ xs, RL ρ I w l xs → RL ρ I' w (coldL H l).2.1 xs
  | [], I, H, c, _ => FrzOk.none c fun xs h => h
  | a :: as, I, H, c, hc => by
    have hc2 : (coldA H a).1 = true ∧ (coldL (updH H (coldA H a).2.2) as).1 = true := by simpa [coldL] using hc
    obtain ⟨I1, f1, f2, f3, f4⟩ := coldA_sound a I H c hc2.1
    obtain ⟨I2, g1, g2, g3, g4⟩ := coldL_sound as I1 (updH H (coldA H a).2.2) f2 hc2.2
    refine ⟨I2, ?_, ?_, f3.trans' g3, ?_⟩
    · show Good ρ I H w ρ I2 (updH H ((coldA H a).2.2 ++ (coldL (updH H (coldA H a).2.2) as).2.2)) w
      rw [updH_append]; exact f1.trans g1
    · show Conc g ρ I2 (updH H ((coldA H a).2.2 ++ (coldL (updH H (coldA H a).2.2) as).2.2)) w
      rw [updH_append]; exact g2
    · rintro xs ⟨ys, zs, rfl, h1, h2⟩
      exact ⟨ys, zs, rfl, R_mono g3 _ _ (f4 ys h1), g4 zs (RL_mono f3 _ _ h2)⟩
end

theorem coldL_rv : ∀ (l : List AV) (I : Imm) (H : Heap), Conc g ρ I H w → (coldL H l).1 = true → FrzOk g ρ I H w (coldL H l).2.2 fun I' => ∀ vs, RV ρ I w l vs → RV ρ I' w (coldL H l).2.1 vs
  | [], I, H, c, _ => FrzOk.none c fun xs h => h
  | a :: as, I, H, c, hc => by
    have hc2 : (coldA H a).1 = true ∧ (coldL (updH H (coldA H a).2.2) as).1 = true := by simpa [coldL] using hc
    obtain ⟨I1, f1, f2, f3, f4⟩ := coldA_sound a I H c hc2.1
    obtain ⟨I2, g1, g2, g3, g4⟩ := coldL_rv as I1 (updH H (coldA H a).2.2) f2 hc2.2
    refine ⟨I2, ?_, ?_, f3.trans' g3, ?_⟩
    · show Good ρ I H w ρ I2 (updH H ((coldA H a).2.2 ++ (coldL (updH H (coldA H a).2.2) as).2.2)) w
      rw [updH_append]; exact f1.trans g1
    · show Conc g ρ I2 (updH H ((coldA H a).2.2 ++ (coldL (updH H (coldA H a).2.2) as).2.2)) w
      rw [updH_append]; exact g2
    · intro vs h
      obtain ⟨x, xs, rfl, h1, h2⟩ := RV_cons.1 h
      exact RV_cons.2 ⟨x, xs, rfl, rel_mono g3 (rel_of_R (coldA_ag H a) f4 h1), g4 xs (RV_mono f3 _ _ h2)⟩
end

mutual
theorem coldA_congr : ∀ (a : AV) {H H' : Heap}, (∀ id ∈ refD a, H'[id]? = H[id]?) → coldA H' a = coldA H a
  | .sl id off k len, H, H', hr => by
    have := hr id (by simp [refD])
    simp only [coldA, this]
  | .slv id k n f, H, H', _ => rfl
  | .agg l, H, H', hr => by simp only [coldA, coldL_congr l (by simpa [refD] using hr)]
  | .any, _, _, _ | .raw _, _, _, _ | .int _ _, _, _, _ | .u8 _, _, _, _ | .u32 _, _, _, _ | .u64 _, _, _, _ | .bool _, _, _, _ | .str _, _, _, _ | .b8 _ _, _, _, _ | .w32 _ _, _, _, _ | .w64 _ _, _, _, _ | .n64 _ _, _, _, _
  | .ptr _ _, _, _, _ | .pix _ _ _ _, _, _, _ | .vec8 _ _, _, _, _ | .vec _ _ _, _, _, _ | .vecr _ _ _ _, _, _, _ | .vp _ _, _, _, _ | .vpx _ _ _ _, _, _, _ | .fn _ _ _, _, _, _ | .tup _, _, _, _ => rfl
theorem coldL_congr : ∀ (l : List AV) {H H' : Heap}, (∀ id ∈ refDL l, H'[id]? = H[id]?) → coldL H' l = coldL H l
  | [], _, _, _ => rfl
  | a :: as, H, H', hr => by
    have h1 := coldA_congr a fun id h => hr id (by simp [refDL, h])
    have h2 : coldL (updH H' (coldA H a).2.2) as = coldL (updH H (coldA H a).2.2) as := coldL_congr as fun id h => updH_point _ (hr id (by simp [refDL, h]))
    simp only [coldL, h1, h2]
end
mutual
theorem coldA_refs : ∀ (a : AV) (H : Heap) (id : Nat), id ∈ refD (coldA H a).2.1 → id ∈ refD a
  | .sl id off k len, H, x, h => by
    unfold coldA at h
    split at h
    · simp [refD] at h
    · simp [refD] at h
    · exact h
  | .slv id k n f, H, x, h => by simp [coldA, refD] at h
  | .agg l, H, x, h => by
    simp only [coldA, refD] at h ⊢
    exact coldL_refs l H x h
  | .any, _, _, h | .raw _, _, _, h | .int _ _, _, _, h | .u8 _, _, _, h | .u32 _, _, _, h | .u64 _, _, _, h | .bool _, _, _, h | .str _, _, _, h | .b8 _ _, _, _, h | .w32 _ _, _, _, h | .w64 _ _, _, _, h | .n64 _ _, _, _, h
  | .ptr _ _, _, _, h | .pix _ _ _ _, _, _, h | .vec8 _ _, _, _, h | .vec _ _ _, _, _, h | .vecr _ _ _ _, _, _, h | .vp _ _, _, _, h | .vpx _ _ _ _, _, _, h | .fn _ _ _, _, _, h | .tup _, _, _, h => h
theorem coldL_refs : ∀ (l : List AV) (H : Heap) (id : Nat), id ∈ refDL (coldL H l).2.1 → id ∈ refDL l
  | [], _, _, h => h
  | a :: as, H, x, h => by
    simp only [coldL, refDL, List.mem_append] at h ⊢
    rcases h with h | h
    · exact .inl (coldA_refs a H x h)
    · exact .inr (coldL_refs as _ x h)
end
theorem mem_refDL {id : Nat} : ∀ {l : List AV}, id ∈ refDL l ↔ ∃ a ∈ l, id ∈ refD a
  | [] => by simp [refDL]
  | a :: as => by simp [refDL, mem_refDL (l := as)]

section
variable {P : Program} (G : Env P)
/-- New rows: what their parts point into is written no more. -/
def coldBuild (op : Op) (ev : Operand → AV) (H : Heap) (nid : Nat) : Option Eff :=
  match op with
  | .buildSlice t len parts => match coldL H (parts.toList.map fun p => ev p.2) with
    | (c, vs, u) => match aBuildS G t len (updH H u) nid ((parts.toList.map fun p => p.1).zip vs) with
      | some E => some (.ck c (E.pre u))
      | none => none
  | _ => none
/-- A text's bytes, that nobody writes. -/
def coldConv (op : Op) (ev : Operand → AV) : Option Eff :=
  match op with
  | .convert s d x => match G.ty s, G.ty d, ev x with
    | some ts, some td, .str l => match ts.kind, td.kind with
      | .string, .slice e => match G.ty e with
        | some te => match te.kind with
          | .int .u8 => some (.ck (te.size == 1) (.one true (.vec8 false l) []))
          | _ => none
        | none => none
      | _, _ => none
    | _, _, _ => none
  | _ => none
end

theorem coldL_len : ∀ (l : List AV) (H : Heap), (coldL H l).2.1.length = l.length
  | [], _ => rfl
  | a :: as, H => by simp only [coldL, List.length_cons, coldL_len as]
section
variable {P : Program} {G : Env P} {ρ : Rho} {I : Imm} {H : Heap} {w : World}
theorem coldBuild_run (c : Conc G.g ρ I H w) {ev : Operand → AV} {e : Operand → Value} (r : ∀ x, rel ρ I w (ev x) (e x)) {t len nid : Nat} {parts : Array (Nat × Operand)} {vs : List AV} {u0 u1 : List (Nat × Ent)} {E : Eff} {v : AV}
    (hf : coldL H (parts.toList.map fun p => ev p.2) = (true, vs, u0)) (hE : aBuildS G t len (updH H u0) nid ((parts.toList.map fun p => p.1).zip vs) = some E) (hh : E.has v u1) :
    ∃ v' w' ρ' I', (Instr.buildSlice t len (parts.map fun p => (p.1, e p.2))).run P w = .ok v' w' ∧ Good ρ I H w ρ' I' (updH H (u0 ++ u1)) w' ∧ Conc G.g ρ' I' (updH H (u0 ++ u1)) w' ∧ Mono ρ I w ρ' I' w' ∧ rel ρ' I' w' v v' := by
  obtain ⟨I1, f1, f2, f3, f4⟩ := coldL_rv (g := G.g) (ρ := ρ) (w := w) (parts.toList.map fun p => ev p.2) I H c (by rw [hf])
  have hlen := coldL_len (parts.toList.map fun p => ev p.2) H
  rw [hf] at f1 f2 f4 hlen
  simp only [List.length_map] at hlen
  have hrv : RV ρ I w (parts.toList.map fun p => ev p.2) (parts.toList.map fun p => e p.2) := by
    refine RV_iff.2 ⟨by simp, fun i a x ha hx => ?_⟩
    rw [List.getElem?_map] at ha hx
    cases hp : parts.toList[i]? with
    | none => simp [hp] at ha
    | some p =>
      simp only [hp, Option.map_some, Option.some.injEq] at ha hx
      subst ha; subst hx
      exact r p.2
  have h2 := f4 _ hrv
  have hvp : (parts.map fun p => (p.1, e p.2)).toList = parts.toList.map fun p => (p.1, e p.2) := by simp
  have hi : ((parts.toList.map fun p => p.1).zip vs).map (·.1) = (parts.map fun p => (p.1, e p.2)).toList.map (·.1) := by
    rw [hvp, List.map_map, List.map_fst_zip (by simp [hlen])]
    rfl
  have hr : RV ρ I1 w (((parts.toList.map fun p => p.1).zip vs).map (·.2)) ((parts.map fun p => (p.1, e p.2)).toList.map (·.2)) := by
    rw [hvp, List.map_map, List.map_snd_zip (by simp [hlen])]
    exact h2
  obtain ⟨v', w', ρ', k1, k2, k3, k4, k5⟩ := aBuildS_sound f2 hi hr hE hh
  refine ⟨v', w', ρ', I1, k1, ?_, ?_, f3.trans' k4, k5⟩
  · rw [updH_append]; exact f1.trans k2
  · rw [updH_append]; exact k3

theorem coldBuild_sound (c : Conc G.g ρ I H w) (ev : Operand → AV) (e : Operand → Value) (r : ∀ x, rel ρ I w (ev x) (e x)) (o : Oper) (nid : Nat) (E : Eff) (v : AV) (u : List (Nat × Ent)) (h : coldBuild G o.op ev H nid = some E) (hh : E.has v u) :
    EffOk G ρ I H w ((execOp e o).run P w) v u := by
  unfold coldBuild at h
  split at h
  · rename_i t len parts hop
    split at h
    rename_i cc vs u0 hf
    split at h
    · rename_i E' hE
      simp only [Option.some.injEq] at h
      subst h
      obtain ⟨hcc, hh⟩ := hh
      subst hcc
      obtain ⟨u1, rfl, hh'⟩ := Eff.pre_has hh
      have key := coldBuild_run (t := t) (len := len) (nid := nid) (parts := parts) c r hf hE hh'
      have run : ∀ (y : Value) (w' : World), (Instr.buildSlice t len (parts.map fun p => (p.1, e p.2))).run P w = .ok y w' → (execOp e o).run P w = .ok (.value y) w' := by
        intro y w' h
        simp only [execOp, hop, Sem.run_bind, h, Result.andThen_ok]
        rfl
      exact EffOk.of_fin run key
    · simp at h
  · simp at h

theorem coldConv_sound (c : Conc G.g ρ I H w) (ev : Operand → AV) (e : Operand → Value) (r : ∀ x, rel ρ I w (ev x) (e x)) (o : Oper) (E : Eff) (v : AV) (u : List (Nat × Ent)) (h : coldConv G o.op ev = some E) (hh : E.has v u) :
    EffOk G ρ I H w ((execOp e o).run P w) v u := by
  unfold coldConv at h
  split at h
  case h_2 => cases h
  rename_i s d x hop
  split at h
  case h_2 => cases h
  rename_i ts td l hts htd hx
  obtain ⟨js, ds, _, s2, _, _, s5, _⟩ := ty_ok hts
  obtain ⟨jd, dd, _, d2, _, _, d5, _⟩ := ty_ok htd
  split at h
  case h_2 => cases h
  rename_i e' hks hkd
  rw [hks] at s5
  rw [hkd] at d5
  obtain rfl := TK.of_string s5
  obtain rfl := TK.of_slice d5
  split at h
  case h_2 => cases h
  rename_i te hte
  obtain ⟨je, de, _, e2, _, _, e5, _⟩ := ty_ok hte
  split at h
  case h_2 => cases h
  rename_i hke
  rw [hke] at e5
  obtain rfl := TK.of_int e5
  simp only [Option.some.injEq] at h
  subst h
  obtain ⟨_, _, rfl, rfl⟩ := hh
  have hv : e x = .string ⟨l.toArray⟩ := by
    have := r x
    rw [hx] at this
    exact rel_str.1 this
  have hrun := Lib.run_convert_string_bytes (P := P) w s d e' ⟨l.toArray⟩ s2 d2 e2
  have hcs : Lib.bytesCells w e' ⟨l.toArray⟩ = (v8 l ++ (Array.replicate (grownCap w l.length 0 e' - l.length) (Value.int .u8 0)).toList).toArray := by
    simp [Lib.bytesCells, v8, ByteArray.size]
  have hnew := Lib.bytesWorld_at_new w e' ⟨l.toArray⟩
  rw [hcs] at hnew
  have hge := grownCap_ge w l.length 0 e'
  have hsz := Lib.bytesWorld_size w e' ⟨l.toArray⟩
  obtain ⟨g1, g2, g3⟩ := froz_new (w' := Lib.bytesWorld w e' ⟨l.toArray⟩) c (by omega) (fun b hb => Lib.bytesWorld_at_old _ _ _ b hb) (fun b o => b = w.heap.size) (fun b o h => by omega) rfl rfl rfl
  refine ⟨.slice (some ⟨w.heap.size, 0, none⟩) l.length (grownCap w l.length 0 e'), _, .inl ?_, ρ, _, g1, g2, g3, rel_vec8.2 ⟨some ⟨w.heap.size, 0, none⟩, grownCap w l.length 0 e', rfl, hge, by simp, .inr ⟨w.heap.size, 0, rfl, by omega, fun i y hy => ⟨?_, .inr rfl⟩⟩⟩⟩
  · simp only [execOp, hop, hv, Sem.run_bind, hrun, Result.andThen_ok]
    simp [ByteArray.size]
  · rw [Nat.zero_add, cell_of_heap hnew, List.getElem?_append_left (List.getElem?_eq_some_iff.1 hy).1]
    exact hy

theorem coldBuild_congr (op : Op) (ev ev' : Operand → AV) (H H' : Heap) (nid : Nat) (he : ∀ x ∈ op.operands, ev' x = ev x) (hr : ∀ id ∈ readsE ev op nid (slots G op), H'[id]? = H[id]?) : coldBuild G op ev' H' nid = coldBuild G op ev H nid := by
  cases op with
  | buildSlice t len parts =>
    have h0 : H'[nid]? = H[nid]? := hr nid (by simp [readsE, slots, upTo])
    have hp : (parts.toList.map fun p => ev' p.2) = parts.toList.map fun p => ev p.2 := by
      apply List.map_congr_left
      intro p hp
      rw [he p.2 (by simp only [Op.operands, List.mem_toArray, List.mem_map]; exact ⟨p, hp, rfl⟩)]
    have hd : ∀ id ∈ refDL (parts.toList.map fun p => ev p.2), H'[id]? = H[id]? := by
      intro id h
      obtain ⟨a, h1, h2⟩ := mem_refDL.1 h
      obtain ⟨p, h3, rfl⟩ := List.mem_map.1 h1
      refine hr id ?_
      simp only [readsE]
      exact List.mem_append_left _ (mem_refIds (x := p.2) (by simp only [Op.operands, List.mem_map]; exact ⟨p, h3, rfl⟩) (refD_sub h2))
    have hz := coldL_congr (parts.toList.map fun p => ev p.2) hd
    have h0' : isRes (updH H' (coldL H (parts.toList.map fun p => ev p.2)).2.2) nid = isRes (updH H (coldL H (parts.toList.map fun p => ev p.2)).2.2) nid := isRes_congr (updH_point _ h0)
    simp only [coldBuild, hp, hz, aBuildS, h0']
  | _ => rfl
theorem coldConv_congr (op : Op) (ev ev' : Operand → AV) (he : ∀ x ∈ op.operands, ev' x = ev x) : coldConv G op ev' = coldConv G op ev := by
  cases op with
  | convert s d x => simp only [coldConv, he x (by simp [Op.operands])]
  | _ => rfl
end

/-- Operations: bytes of texts, parts of new rows, and arguments of calls are written no more. 'R': the other ones. -/
def ROps.cold {P : Program} {G : Env P} (R : ROps G) : ROps G where
  f := fun op ev H nid => match rowOps G op ev H nid with
    | some E => some E
    | none => match coldConv G op ev with
      | some E => some E
      | none => match coldBuild G op ev H nid with
        | some E => some E
        | none => R.f op ev H nid
  congr := fun op ev ev' H H' nid he hr => by rw [rowOps_congr op ev ev' H H' nid he hr, coldConv_congr op ev ev' he, coldBuild_congr op ev ev' H H' nid he hr, R.congr op ev ev' H H' nid he hr]
  sound := fun ρ I H w c ev e r o nid E v u h hh => by
    split at h
    · rename_i E' hE
      simp only [Option.some.injEq] at h
      subst h
      exact rowOps_sound c ev e r o nid E' v u hE hh
    · split at h
      · rename_i E' hE
        simp only [Option.some.injEq] at h
        subst h
        exact coldConv_sound c ev e r o E' v u hE hh
      · split at h
        · rename_i E' hE
          simp only [Option.some.injEq] at h
          subst h
          exact coldBuild_sound c ev e r o nid E' v u hE hh
        · exact R.sound ρ I H w c ev e r o nid E v u h hh
  pre := fun H args => some (coldL H args)
  preC := fun H H' args h => by
    rw [coldL_congr args fun id hid => by
      obtain ⟨a, h1, h2⟩ := mem_refDL.1 hid
      exact h a h1 id h2]
  preR := fun H args p args' u h a ha id hid => by
    simp only [Option.some.injEq] at h
    have := coldL_refs args H id (by rw [h]; exact mem_refDL.2 ⟨a, ha, refD_of0 hid⟩)
    exact mem_refDL.1 this
  preS := fun ρ I H w c args args' u h => by
    simp only [Option.some.injEq] at h
    obtain ⟨I', f1, f2, f3, f4⟩ := coldL_rv (g := G.g) (ρ := ρ) (w := w) args I H c (by rw [h])
    rw [h] at f1 f2 f4
    exact ⟨I', f1, f2, f3, f4⟩
/-- .. where parts of arrays are owned. -/
def ROps.cold0 {P : Program} (G : Env P) : ROps G := (ROps.std G).cold
/-- .. where they are written no more. -/
def ROps.coldF {P : Program} (G : Env P) : ROps G := (ROps.frz G).cold
end
end Go.V

set_option linter.unusedSimpArgs false
set_option linter.unusedVariables false
namespace Go.Proofs.YtdipeoacmapehaaDoor
open Go Go.V Go.Fld Go.Pol Go.Cha Go.Bla
noncomputable def RC : ROps Tryd.E := ROps.cold0 Tryd.E
noncomputable def Y5 : Ctr Tryd.E := Ctr.or (Ctr.or Ucut (Ctr.or Usome Upicked)) Y4
/-- What both know. -/
structure SS where
  i : Nat
  has : Bool
  ck : List UInt8
  n : UInt64
  chain : List UInt8
  hash : List UInt8
def SS.ok (x : SS) : Prop := x.chain.length = 32 ∧ x.hash.length = 32 ∧ ((x.has = true ∧ x.n.toNat ≤ x.i) ∨ (x.has = false ∧ x.ck = zero32' ∧ x.n = 0))
noncomputable def SS.ent (x : SS) : Ent := .blk [symV x.has x.ck x.n x.chain x.hash] []
noncomputable def alikeL : LPlan := .rel [5, 6, 23, 24] [24] SS (fun g x => Inv.upTo g x.i ∧ x.ok) (fun x => Inv.up x.i) (fun x => [(25, .int .i64 ((x.i : Nat) : Int))])
  (fun x => [(0, x.ent), (1, x.ent)])
end Go.Proofs.YtdipeoacmapehaaDoor

set_option linter.unusedSimpArgs false
set_option linter.unusedVariables false
namespace Go.Proofs.YtdipeoacmapehaaDoor
open Go Go.V Go.Fld Go.Pol Go.Cha Go.Bla
set_option maxHeartbeats 0
set_option maxRecDepth 100000

theorem alike_eq (s : List UInt8) (l : List Raw3) (K : AV → Heap → Prop) : walk Tryd.E RC Y5.C (fun f _ => bif f == 5 then alikeL else .unroll 5) 5 5 [.str s, .vecr false 4 l.length (rawsF l)] K = (
let x0 : List UInt8 := (List.take 60 s)
let x1 : Nat := (Min.min (List.length l) 10)
let x2 : Int := ((x1 : Nat) : Int)
cnd (leB (List.length x0) 1000000)
 ((∃ w0 : SS, ((Inv.upTo [AV.int IntKind.i64 x2] (SS.i w0)) ∧ (SS.ok w0)) ∧ ((AV.vecr Bool.false 4 x1 (rawsF l) = AV.vecr Bool.false 4 x1 (rawsF l)) ∧ ((AV.int IntKind.i64 x2 = AV.int IntKind.i64 x2) ∧ ((AV.int IntKind.i64 0 = AV.int IntKind.i64 (((SS.i w0) : Nat) : Int)) ∧ ((AV.bool Bool.false = AV.bool (SS.has w0)) ∧ ((AV.b8 32 zero32' = AV.b8 32 (SS.ck w0)) ∧ ((AV.u64 0 = AV.u64 (SS.n w0)) ∧ ((AV.b8 32 (nameS x0) = AV.b8 32 (SS.chain w0)) ∧ ((AV.b8 32 (nameS x0) = AV.b8 32 (SS.hash w0)) ∧ ((AV.bool Bool.false = AV.bool (SS.has w0)) ∧ ((AV.b8 32 zero32' = AV.b8 32 (SS.ck w0)) ∧ ((AV.u64 0 = AV.u64 (SS.n w0)) ∧ ((AV.b8 32 (nameS x0) = AV.b8 32 (SS.chain w0)) ∧ ((AV.b8 32 (nameS x0) = AV.b8 32 (SS.hash w0)) ∧ True)))))))))))))) ∧ (∀ w1 : SS, ((Inv.upTo [AV.int IntKind.i64 x2] (SS.i w1)) ∧ (SS.ok w1) → ite2 (ltI (((SS.i w1) : Nat) : Int) x2)
 -- THEN
 (cnd ((inB (((SS.i w1) : Nat) : Int) x1) && Bool.true)
 (ite2 (((Raw3.kind (List.getD l (Int.toNat (((SS.i w1) : Nat) : Int)) raw0)) % 5) == 0)
 -- THEN
 (cnd ((leB (List.length (SS.chain w1)) 64) && (leB (List.length (List.take 40 (Raw3.text (List.getD l (Int.toNat (((SS.i w1) : Nat) : Int)) raw0)))) 100000))
 (cnd ((leB (List.length (SS.chain w1)) 64) && (leB (List.length (List.take 40 (Raw3.text (List.getD l (Int.toNat (((SS.i w1) : Nat) : Int)) raw0)))) 100000))
 (ite2 (Bool.not ((Bool.true && (((key2 (SS.chain w1) (List.take 40 (Raw3.text (List.getD l (Int.toNat (((SS.i w1) : Nat) : Int)) raw0)))) == (key2 (SS.chain w1) (List.take 40 (Raw3.text (List.getD l (Int.toNat (((SS.i w1) : Nat) : Int)) raw0))))) && Bool.true)) && (((key1 (SS.chain w1) (List.take 40 (Raw3.text (List.getD l (Int.toNat (((SS.i w1) : Nat) : Int)) raw0)))) == (key1 (SS.chain w1) (List.take 40 (Raw3.text (List.getD l (Int.toNat (((SS.i w1) : Nat) : Int)) raw0))))) && (((SS.hash w1) == (SS.hash w1)) && Bool.true))))
 -- THEN
 (K (AV.bool Bool.false) [])
 -- ELSE
 ((∃ w2 : SS, ((((fun x => Inv.up (SS.i x)) w2) < ((fun x => Inv.up (SS.i x)) w1)) ∧ ((Inv.upTo [AV.int IntKind.i64 x2] (SS.i w2)) ∧ (SS.ok w2))) ∧ ((AV.vecr Bool.false 4 x1 (rawsF l) = AV.vecr Bool.false 4 x1 (rawsF l)) ∧ ((AV.int IntKind.i64 x2 = AV.int IntKind.i64 x2) ∧ ((AV.int IntKind.i64 (wr IntKind.i64 ((((SS.i w1) : Nat) : Int) + 1)) = AV.int IntKind.i64 (((SS.i w2) : Nat) : Int)) ∧ ((AV.bool Bool.true = AV.bool (SS.has w2)) ∧ ((AV.b8 32 (key2 (SS.chain w1) (List.take 40 (Raw3.text (List.getD l (Int.toNat (((SS.i w1) : Nat) : Int)) raw0)))) = AV.b8 32 (SS.ck w2)) ∧ ((AV.u64 0 = AV.u64 (SS.n w2)) ∧ ((AV.b8 32 (key1 (SS.chain w1) (List.take 40 (Raw3.text (List.getD l (Int.toNat (((SS.i w1) : Nat) : Int)) raw0)))) = AV.b8 32 (SS.chain w2)) ∧ ((AV.b8 32 (SS.hash w1) = AV.b8 32 (SS.hash w2)) ∧ ((AV.bool Bool.true = AV.bool (SS.has w2)) ∧ ((AV.b8 32 (key2 (SS.chain w1) (List.take 40 (Raw3.text (List.getD l (Int.toNat (((SS.i w1) : Nat) : Int)) raw0)))) = AV.b8 32 (SS.ck w2)) ∧ ((AV.u64 0 = AV.u64 (SS.n w2)) ∧ ((AV.b8 32 (key1 (SS.chain w1) (List.take 40 (Raw3.text (List.getD l (Int.toNat (((SS.i w1) : Nat) : Int)) raw0)))) = AV.b8 32 (SS.chain w2)) ∧ ((AV.b8 32 (SS.hash w1) = AV.b8 32 (SS.hash w2)) ∧ True))))))))))))))))))
 -- ELSE
 (ite2 (((Raw3.kind (List.getD l (Int.toNat (((SS.i w1) : Nat) : Int)) raw0)) % 5) == 1)
 -- THEN
 (cnd (leB ((List.length (SS.hash w1)) + (List.length (List.take 40 (Raw3.text (List.getD l (Int.toNat (((SS.i w1) : Nat) : Int)) raw0))))) 1000000)
 (cnd (leB ((List.length (SS.hash w1)) + (List.length (List.take 40 (Raw3.text (List.getD l (Int.toNat (((SS.i w1) : Nat) : Int)) raw0))))) 1000000)
 (ite2 (Bool.not ((((SS.has w1) == (SS.has w1)) && (((SS.ck w1) == (SS.ck w1)) && (((SS.n w1) == (SS.n w1)) && Bool.true))) && (((SS.chain w1) == (SS.chain w1)) && (((Bla.sumS ((SS.hash w1) ++ (List.take 40 (Raw3.text (List.getD l (Int.toNat (((SS.i w1) : Nat) : Int)) raw0))))) == (Bla.sumS ((SS.hash w1) ++ (List.take 40 (Raw3.text (List.getD l (Int.toNat (((SS.i w1) : Nat) : Int)) raw0)))))) && Bool.true))))
 -- THEN
 (K (AV.bool Bool.false) [])
 -- ELSE
 ((∃ w3 : SS, ((((fun x => Inv.up (SS.i x)) w3) < ((fun x => Inv.up (SS.i x)) w1)) ∧ ((Inv.upTo [AV.int IntKind.i64 x2] (SS.i w3)) ∧ (SS.ok w3))) ∧ ((AV.vecr Bool.false 4 x1 (rawsF l) = AV.vecr Bool.false 4 x1 (rawsF l)) ∧ ((AV.int IntKind.i64 x2 = AV.int IntKind.i64 x2) ∧ ((AV.int IntKind.i64 (wr IntKind.i64 ((((SS.i w1) : Nat) : Int) + 1)) = AV.int IntKind.i64 (((SS.i w3) : Nat) : Int)) ∧ ((AV.bool (SS.has w1) = AV.bool (SS.has w3)) ∧ ((AV.b8 32 (SS.ck w1) = AV.b8 32 (SS.ck w3)) ∧ ((AV.u64 (SS.n w1) = AV.u64 (SS.n w3)) ∧ ((AV.b8 32 (SS.chain w1) = AV.b8 32 (SS.chain w3)) ∧ ((AV.b8 32 (Bla.sumS ((SS.hash w1) ++ (List.take 40 (Raw3.text (List.getD l (Int.toNat (((SS.i w1) : Nat) : Int)) raw0))))) = AV.b8 32 (SS.hash w3)) ∧ ((AV.bool (SS.has w1) = AV.bool (SS.has w3)) ∧ ((AV.b8 32 (SS.ck w1) = AV.b8 32 (SS.ck w3)) ∧ ((AV.u64 (SS.n w1) = AV.u64 (SS.n w3)) ∧ ((AV.b8 32 (SS.chain w1) = AV.b8 32 (SS.chain w3)) ∧ ((AV.b8 32 (Bla.sumS ((SS.hash w1) ++ (List.take 40 (Raw3.text (List.getD l (Int.toNat (((SS.i w1) : Nat) : Int)) raw0))))) = AV.b8 32 (SS.hash w3)) ∧ True))))))))))))))))))
 -- ELSE
 (ite2 (((Raw3.kind (List.getD l (Int.toNat (((SS.i w1) : Nat) : Int)) raw0)) % 5) == 2)
 -- THEN
 (cnd ((leB (List.length (SS.chain w1)) 64) && ((leB (List.length (List.take 40 (Raw3.text (List.getD l (Int.toNat (((SS.i w1) : Nat) : Int)) raw0)))) 100000) && (leB (List.length (SS.hash w1)) 64)))
 (cnd ((leB (List.length (SS.chain w1)) 64) && ((leB (List.length (List.take 40 (Raw3.text (List.getD l (Int.toNat (((SS.i w1) : Nat) : Int)) raw0)))) 100000) && (leB (List.length (SS.hash w1)) 64)))
 (ite2 (Bool.not ((Bool.true && (((key3 (SS.chain w1) (List.take 40 (Raw3.text (List.getD l (Int.toNat (((SS.i w1) : Nat) : Int)) raw0)))) == (key3 (SS.chain w1) (List.take 40 (Raw3.text (List.getD l (Int.toNat (((SS.i w1) : Nat) : Int)) raw0))))) && Bool.true)) && (((key1 (SS.chain w1) (List.take 40 (Raw3.text (List.getD l (Int.toNat (((SS.i w1) : Nat) : Int)) raw0)))) == (key1 (SS.chain w1) (List.take 40 (Raw3.text (List.getD l (Int.toNat (((SS.i w1) : Nat) : Int)) raw0))))) && (((Bla.sumS ((SS.hash w1) ++ (key2 (SS.chain w1) (List.take 40 (Raw3.text (List.getD l (Int.toNat (((SS.i w1) : Nat) : Int)) raw0)))))) == (Bla.sumS ((SS.hash w1) ++ (key2 (SS.chain w1) (List.take 40 (Raw3.text (List.getD l (Int.toNat (((SS.i w1) : Nat) : Int)) raw0))))))) && Bool.true))))
 -- THEN
 (K (AV.bool Bool.false) [])
 -- ELSE
 ((∃ w4 : SS, ((((fun x => Inv.up (SS.i x)) w4) < ((fun x => Inv.up (SS.i x)) w1)) ∧ ((Inv.upTo [AV.int IntKind.i64 x2] (SS.i w4)) ∧ (SS.ok w4))) ∧ ((AV.vecr Bool.false 4 x1 (rawsF l) = AV.vecr Bool.false 4 x1 (rawsF l)) ∧ ((AV.int IntKind.i64 x2 = AV.int IntKind.i64 x2) ∧ ((AV.int IntKind.i64 (wr IntKind.i64 ((((SS.i w1) : Nat) : Int) + 1)) = AV.int IntKind.i64 (((SS.i w4) : Nat) : Int)) ∧ ((AV.bool Bool.true = AV.bool (SS.has w4)) ∧ ((AV.b8 32 (key3 (SS.chain w1) (List.take 40 (Raw3.text (List.getD l (Int.toNat (((SS.i w1) : Nat) : Int)) raw0)))) = AV.b8 32 (SS.ck w4)) ∧ ((AV.u64 0 = AV.u64 (SS.n w4)) ∧ ((AV.b8 32 (key1 (SS.chain w1) (List.take 40 (Raw3.text (List.getD l (Int.toNat (((SS.i w1) : Nat) : Int)) raw0)))) = AV.b8 32 (SS.chain w4)) ∧ ((AV.b8 32 (Bla.sumS ((SS.hash w1) ++ (key2 (SS.chain w1) (List.take 40 (Raw3.text (List.getD l (Int.toNat (((SS.i w1) : Nat) : Int)) raw0)))))) = AV.b8 32 (SS.hash w4)) ∧ ((AV.bool Bool.true = AV.bool (SS.has w4)) ∧ ((AV.b8 32 (key3 (SS.chain w1) (List.take 40 (Raw3.text (List.getD l (Int.toNat (((SS.i w1) : Nat) : Int)) raw0)))) = AV.b8 32 (SS.ck w4)) ∧ ((AV.u64 0 = AV.u64 (SS.n w4)) ∧ ((AV.b8 32 (key1 (SS.chain w1) (List.take 40 (Raw3.text (List.getD l (Int.toNat (((SS.i w1) : Nat) : Int)) raw0)))) = AV.b8 32 (SS.chain w4)) ∧ ((AV.b8 32 (Bla.sumS ((SS.hash w1) ++ (key2 (SS.chain w1) (List.take 40 (Raw3.text (List.getD l (Int.toNat (((SS.i w1) : Nat) : Int)) raw0)))))) = AV.b8 32 (SS.hash w4)) ∧ True))))))))))))))))))
 -- ELSE
 (cnd ((leB (List.length (SS.hash w1)) 200) && ((leB (List.length (List.take 40 (Raw3.text (List.getD l (Int.toNat (((SS.i w1) : Nat) : Int)) raw0)))) 800) && (symK (SS.has w1) (SS.ck w1) (SS.n w1))))
 (cnd (Bool.true && ((Bool.true && (Bool.true && (leB (0 + (List.length (symS (SS.has w1) (SS.ck w1) (SS.n w1) (SS.hash w1) (List.take 40 (Raw3.text (List.getD l (Int.toNat (((SS.i w1) : Nat) : Int)) raw0)))))) (List.length (symS (SS.has w1) (SS.ck w1) (SS.n w1) (SS.hash w1) (List.take 40 (Raw3.text (List.getD l (Int.toNat (((SS.i w1) : Nat) : Int)) raw0)))))))) && Bool.true))
 (cnd ((leB (List.length (SS.hash w1)) 200) && ((leB (List.length (List.take (List.length (symS (SS.has w1) (SS.ck w1) (SS.n w1) (SS.hash w1) (List.take 40 (Raw3.text (List.getD l (Int.toNat (((SS.i w1) : Nat) : Int)) raw0))))) (List.drop 0 (symS (SS.has w1) (SS.ck w1) (SS.n w1) (SS.hash w1) (List.take 40 (Raw3.text (List.getD l (Int.toNat (((SS.i w1) : Nat) : Int)) raw0))))))) 800) && ((symK (SS.has w1) (SS.ck w1) (SS.n w1)) && (symB (SS.has w1) (SS.ck w1) (SS.n w1) (SS.hash w1) (List.take (List.length (symS (SS.has w1) (SS.ck w1) (SS.n w1) (SS.hash w1) (List.take 40 (Raw3.text (List.getD l (Int.toNat (((SS.i w1) : Nat) : Int)) raw0))))) (List.drop 0 (symS (SS.has w1) (SS.ck w1) (SS.n w1) (SS.hash w1) (List.take 40 (Raw3.text (List.getD l (Int.toNat (((SS.i w1) : Nat) : Int)) raw0))))))))))
 (cnd (Bool.true && (leB (0 + (List.length (symO (SS.has w1) (SS.ck w1) (SS.n w1) (List.take (List.length (symS (SS.has w1) (SS.ck w1) (SS.n w1) (SS.hash w1) (List.take 40 (Raw3.text (List.getD l (Int.toNat (((SS.i w1) : Nat) : Int)) raw0))))) (List.drop 0 (symS (SS.has w1) (SS.ck w1) (SS.n w1) (SS.hash w1) (List.take 40 (Raw3.text (List.getD l (Int.toNat (((SS.i w1) : Nat) : Int)) raw0))))))))) (List.length (symO (SS.has w1) (SS.ck w1) (SS.n w1) (List.take (List.length (symS (SS.has w1) (SS.ck w1) (SS.n w1) (SS.hash w1) (List.take 40 (Raw3.text (List.getD l (Int.toNat (((SS.i w1) : Nat) : Int)) raw0))))) (List.drop 0 (symS (SS.has w1) (SS.ck w1) (SS.n w1) (SS.hash w1) (List.take 40 (Raw3.text (List.getD l (Int.toNat (((SS.i w1) : Nat) : Int)) raw0))))))))))
 (ite2 (cond Bool.false Bool.true ((List.take (List.length (symO (SS.has w1) (SS.ck w1) (SS.n w1) (List.take (List.length (symS (SS.has w1) (SS.ck w1) (SS.n w1) (SS.hash w1) (List.take 40 (Raw3.text (List.getD l (Int.toNat (((SS.i w1) : Nat) : Int)) raw0))))) (List.drop 0 (symS (SS.has w1) (SS.ck w1) (SS.n w1) (SS.hash w1) (List.take 40 (Raw3.text (List.getD l (Int.toNat (((SS.i w1) : Nat) : Int)) raw0)))))))) (List.drop 0 (symO (SS.has w1) (SS.ck w1) (SS.n w1) (List.take (List.length (symS (SS.has w1) (SS.ck w1) (SS.n w1) (SS.hash w1) (List.take 40 (Raw3.text (List.getD l (Int.toNat (((SS.i w1) : Nat) : Int)) raw0))))) (List.drop 0 (symS (SS.has w1) (SS.ck w1) (SS.n w1) (SS.hash w1) (List.take 40 (Raw3.text (List.getD l (Int.toNat (((SS.i w1) : Nat) : Int)) raw0))))))))) != (List.take 40 (Raw3.text (List.getD l (Int.toNat (((SS.i w1) : Nat) : Int)) raw0)))))
 -- THEN
 (K (AV.bool Bool.false) [])
 -- ELSE
 (ite2 (Bool.not ((((SS.has w1) == (SS.has w1)) && (((SS.ck w1) == (SS.ck w1)) && (((symN (SS.has w1) (SS.n w1)) == (symN (SS.has w1) (SS.n w1))) && Bool.true))) && (((SS.chain w1) == (SS.chain w1)) && (((Bla.sumS ((SS.hash w1) ++ (symS (SS.has w1) (SS.ck w1) (SS.n w1) (SS.hash w1) (List.take 40 (Raw3.text (List.getD l (Int.toNat (((SS.i w1) : Nat) : Int)) raw0)))))) == (Bla.sumS ((SS.hash w1) ++ (List.take (List.length (symS (SS.has w1) (SS.ck w1) (SS.n w1) (SS.hash w1) (List.take 40 (Raw3.text (List.getD l (Int.toNat (((SS.i w1) : Nat) : Int)) raw0))))) (List.drop 0 (symS (SS.has w1) (SS.ck w1) (SS.n w1) (SS.hash w1) (List.take 40 (Raw3.text (List.getD l (Int.toNat (((SS.i w1) : Nat) : Int)) raw0))))))))) && Bool.true))))
 -- THEN
 (K (AV.bool Bool.false) [])
 -- ELSE
 ((∃ w5 : SS, ((((fun x => Inv.up (SS.i x)) w5) < ((fun x => Inv.up (SS.i x)) w1)) ∧ ((Inv.upTo [AV.int IntKind.i64 x2] (SS.i w5)) ∧ (SS.ok w5))) ∧ ((AV.vecr Bool.false 4 x1 (rawsF l) = AV.vecr Bool.false 4 x1 (rawsF l)) ∧ ((AV.int IntKind.i64 x2 = AV.int IntKind.i64 x2) ∧ ((AV.int IntKind.i64 (wr IntKind.i64 ((((SS.i w1) : Nat) : Int) + 1)) = AV.int IntKind.i64 (((SS.i w5) : Nat) : Int)) ∧ ((AV.bool (SS.has w1) = AV.bool (SS.has w5)) ∧ ((AV.b8 32 (SS.ck w1) = AV.b8 32 (SS.ck w5)) ∧ ((AV.u64 (symN (SS.has w1) (SS.n w1)) = AV.u64 (SS.n w5)) ∧ ((AV.b8 32 (SS.chain w1) = AV.b8 32 (SS.chain w5)) ∧ ((AV.b8 32 (Bla.sumS ((SS.hash w1) ++ (symS (SS.has w1) (SS.ck w1) (SS.n w1) (SS.hash w1) (List.take 40 (Raw3.text (List.getD l (Int.toNat (((SS.i w1) : Nat) : Int)) raw0)))))) = AV.b8 32 (SS.hash w5)) ∧ ((AV.bool (SS.has w1) = AV.bool (SS.has w5)) ∧ ((AV.b8 32 (SS.ck w1) = AV.b8 32 (SS.ck w5)) ∧ ((AV.u64 (symN (SS.has w1) (SS.n w1)) = AV.u64 (SS.n w5)) ∧ ((AV.b8 32 (SS.chain w1) = AV.b8 32 (SS.chain w5)) ∧ ((AV.b8 32 (Bla.sumS ((SS.hash w1) ++ (List.take (List.length (symS (SS.has w1) (SS.ck w1) (SS.n w1) (SS.hash w1) (List.take 40 (Raw3.text (List.getD l (Int.toNat (((SS.i w1) : Nat) : Int)) raw0))))) (List.drop 0 (symS (SS.has w1) (SS.ck w1) (SS.n w1) (SS.hash w1) (List.take 40 (Raw3.text (List.getD l (Int.toNat (((SS.i w1) : Nat) : Int)) raw0)))))))) = AV.b8 32 (SS.hash w5)) ∧ True)))))))))))))))))))))))))
 -- ELSE
 (cnd (leB (List.length (SS.chain w1)) 64)
 (cnd (leB (List.length (SS.chain w1)) 64)
 (ite2 ((Bool.true && (((key1 (SS.chain w1) []) == (key1 (SS.chain w1) [])) && Bool.true)) && ((Bool.true && (((key2 (SS.chain w1) []) == (key2 (SS.chain w1) [])) && Bool.true)) && Bool.true))
 -- THEN
 (K (AV.bool (cond Bool.true ((nameS (Array.toList (ByteArray.data (ByteArray.mk (List.toArray [97]))))) == (List.set [0, 0, 0, 0, 0, 0, 0, 0, 0, 0, 0, 0, 0, 0, 0, 0, 0, 0, 0, 0, 0, 0, 0, 0, 0, 0, 0, 0, 0, 0, 0, 0] 0 97)) Bool.false)) [])
 -- ELSE
 (K (AV.bool Bool.false) [])))))))) := by kernel_rfl

end Go.Proofs.YtdipeoacmapehaaDoor

set_option linter.unusedSimpArgs false
set_option linter.unusedVariables false
namespace Go.Proofs.YtdipeoacmapehaaDoor
open Go Go.V Go.Fld Go.Pol Go.Cha Go.Bla
set_option maxRecDepth 100000
theorem length_sum (b : List UInt8) : (sumS b).length = 32 := length_sumS b
theorem length_nameS (s : List UInt8) : (nameS s).length = 32 := by
  rw [nameS_eq]
  unfold nameF
  cases h : ltB 32 s.length with
  | true => exact length_sumS s
  | false =>
    have := of_ltB_no h
    rw [cond_false, List.length_append, List.length_take, List.length_drop, show zero32'.length = 32 from rfl]; omega
theorem alike_one (x : SS) (b : List UInt8) (hi : x.i ≤ 10) (hb : b.length ≤ 40) (hx : x.ok) :
    symK x.has x.ck x.n = true ∧ symB x.has x.ck x.n x.hash (symS x.has x.ck x.n x.hash b) = true ∧ symO x.has x.ck x.n (symS x.has x.ck x.n x.hash b) = b ∧ (symS x.has x.ck x.n x.hash b).length ≤ 56 ∧
      ((x.has = true ∧ (symN x.has x.n).toNat ≤ x.i + 1) ∨ (x.has = false ∧ x.ck = zero32' ∧ symN x.has x.n = 0)) := by
  rw [symK_eq, symB_eq, symO_eq, symS_eq, symN_eq]
  obtain ⟨_, _, h | h⟩ := hx
  · obtain ⟨h1, h2⟩ := h
    rw [h1]
    have hl := length_sealS x.ck (cnonceS x.n) x.hash b
    refine ⟨?_, ?_, ?_, ?_, .inl ⟨rfl, ?_⟩⟩
    · show (!maxB x.n) = true
      unfold maxB
      rw [beq_false_of_ne (by omega)]; rfl
    · show (leB 16 (sealS x.ck (cnonceS x.n) x.hash b).length && !(badS x.ck (cnonceS x.n) x.hash (sealS x.ck (cnonceS x.n) x.hash b))) = true
      rw [bad_seal, leB_of (by omega)]; rfl
    · exact plain_seal _ _ _ _
    · show (sealS x.ck (cnonceS x.n) x.hash b).length ≤ _; omega
    · show (x.n + 1).toNat ≤ _
      rw [UInt64.toNat_add, show (1 : UInt64).toNat = 1 from rfl]; omega
  · obtain ⟨h1, h2, h3⟩ := h
    rw [h1]
    refine ⟨?_, rfl, rfl, ?_, .inr ⟨rfl, h2, h3⟩⟩
    · show nilC x.ck x.n = true
      rw [h2, h3, nilC_eq]; rfl
    · show b.length ≤ _; omega

theorem symAlike_c (s : List UInt8) (_hs : s.length ≤ maxLen) (l : List Raw3) (_hl : l.length ≤ maxLen ∧ ∀ r ∈ l, r.ok) :
    HCall Tryd.E 5 [.str s, .vecr false 4 l.length (rawsF l)] (.ret (.bool true) []) := by
  refine HCall.of_walk (R := RC) (T := Y5) (fun f _ => bif f == 5 then alikeL else .unroll 5) 5 rfl rfl ?_
  rw [alike_eq]
  dsimp only
  have hx0 : (s.take 60).length ≤ 60 := by rw [List.length_take]; omega
  rw [leB_of (by omega)]
  refine ⟨⟨⟨0, false, zero32', 0, nameS (s.take 60), nameS (s.take 60)⟩, ⟨by rw [Inv.upTo_int]; show (0 : Int) ≤ _; omega, length_nameS _, length_nameS _, .inr ⟨rfl, rfl, rfl⟩⟩, ?_⟩, fun x hx => ?_⟩
  · repeat' apply And.intro
    all_goals first | rfl | trivial
  obtain ⟨hi, hok⟩ := hx
  rw [Inv.upTo_int] at hi
  have hi10 : x.i ≤ 10 := by omega
  have hc := hok.1
  have hh := hok.2.1
  have hw2 : wr .i64 ((x.i : Int) + 1) = ((x.i + 1 : Nat) : Int) := by rw [wr_of (by omega) (by omega)]; rfl
  rcases Nat.lt_or_ge x.i (min l.length 10) with hlt | hge
  · rw [ltI_of (by omega), ite2_true, inB_of (by omega) (by omega), hw2]
    generalize hr : l.getD (Int.toNat ((x.i : Nat) : Int)) raw0 = r
    have hb : (r.text.take 40).length ≤ 40 := by rw [List.length_take]; omega
    generalize r.text.take 40 = b at *
    obtain ⟨a1, a2, a3, a4, a5⟩ := alike_one x b hi10 hb hok
    have f1 : leB b.length 100000 = true := leB_of (by omega)
    have f2 : leB (32 + b.length) 1000000 = true := leB_of (by omega)
    have f3 : leB b.length 800 = true := leB_of (by omega)
    have f4 : leB (symS x.has x.ck x.n x.hash b).length 800 = true := leB_of (by omega)
    have f5 : leB (0 + (symS x.has x.ck x.n x.hash b).length) (symS x.has x.ck x.n x.hash b).length = true := leB_of (by omega)
    have f6 : leB (0 + b.length) b.length = true := leB_of (by omega)
    have f7 : leB 32 64 = true := leB_of (by omega)
    have f8 : leB 32 200 = true := leB_of (by omega)
    simp only [all8, a1, a2, a3, hc, hh, f1, f2, f3, f4, f5, f6, f7, f8, beq_self_eq_true, bne_self_eq_false, Bool.and_true, Bool.true_and, Bool.and_self, Bool.not_true, ite2_false, cond_false, cnd_eq, true_and]
    have done : ∀ (y : SS), y.i = x.i + 1 → y.ok → (Inv.up y.i < Inv.up x.i ∧ Inv.upTo [AV.int IntKind.i64 ((min l.length 10 : Nat) : Int)] y.i ∧ y.ok) := fun y h1 h2 => by
      rw [h1, Inv.upTo_int]
      exact ⟨Inv.up_lt (by omega), by omega, h2⟩
    refine ite2_iff.2 ⟨fun _ => ⟨⟨x.i + 1, true, key2 x.chain b, 0, key1 x.chain b, x.hash⟩, done _ rfl ⟨length_key1 _ _, hh, .inl ⟨rfl, Nat.zero_le _⟩⟩, ?_⟩, fun _ => ?_⟩
    · repeat' apply And.intro
      all_goals first | rfl | trivial
    refine ite2_iff.2 ⟨fun _ => ⟨⟨x.i + 1, x.has, x.ck, x.n, x.chain, sumS (x.hash ++ b)⟩, done _ rfl ⟨hc, length_sum _, ?_⟩, ?_⟩, fun _ => ?_⟩
    · rcases hok.2.2 with ⟨h1, h2⟩ | h
      · exact .inl ⟨h1, Nat.le_succ_of_le h2⟩
      · exact .inr h
    · repeat' apply And.intro
      all_goals first | rfl | trivial
    refine ite2_iff.2 ⟨fun _ => ⟨⟨x.i + 1, true, key3 x.chain b, 0, key1 x.chain b, sumS (x.hash ++ key2 x.chain b)⟩, done _ rfl ⟨length_key1 _ _, length_sum _, .inl ⟨rfl, Nat.zero_le _⟩⟩, ?_⟩, fun _ => ?_⟩
    · repeat' apply And.intro
      all_goals first | rfl | trivial
    refine ⟨⟨x.i + 1, x.has, x.ck, symN x.has x.n, x.chain, sumS (x.hash ++ symS x.has x.ck x.n x.hash b)⟩, done _ rfl ⟨hc, length_sum _, a5⟩, ?_⟩
    repeat' apply And.intro
    all_goals first | rfl | trivial
  · rw [ltI_no (by omega), ite2_false, hc, leB_of (by omega)]
    simp only [beq_self_eq_true, Bool.and_true, Bool.and_self]
    have hn : nameS [97] = List.set zero32' 0 97 := by rw [nameS_eq]; rfl
    rw [hn]
    exact ⟨rfl, rfl⟩
end Go.Proofs.YtdipeoacmapehaaDoor

/- The abstract layer (third state): package-level tables of rows, off a row's condition. -/
set_option linter.unusedSimpArgs false
set_option linter.unusedVariables false
namespace Go.V
open Go

theorem flat_drop {α : Type} {m : Nat} : ∀ {l : List (List α)} (i : Nat) {r : List α}, (∀ x ∈ l, x.length = m) → l[i]? = some r → (l.flatten.drop (i * m)).take m = r
  | [], i, r, _, h => by simp at h
  | x :: l, 0, r, hm, h => by
    simp at h
    subst h
    rw [Nat.zero_mul, List.drop_zero, List.flatten_cons, List.take_left' (hm _ (by simp))]
  | x :: l, i + 1, r, hm, h => by
    have hx := hm x (by simp)
    rw [List.flatten_cons, show (i + 1) * m = x.length + i * m by rw [hx, Nat.add_mul, Nat.one_mul, Nat.add_comm], ← List.drop_drop, List.drop_left]
    exact flat_drop (l := l) i (fun y hy => hm y (by simp [hy])) (by simpa using h)

theorem length_flat {α : Type} {m : Nat} : ∀ {l : List (List α)}, (∀ x ∈ l, x.length = m) → l.flatten.length = l.length * m
  | [], _ => by simp
  | x :: l, hm => by
    rw [List.flatten_cons, List.length_append, hm x (by simp), length_flat (fun y hy => hm y (by simp [hy])), List.length_cons, Nat.add_mul, Nat.one_mul, Nat.add_comm]

/-- Two lists that are the same in each of their parts. -/
theorem ext_parts {α : Type} {m : Nat} (hm : 0 < m) {n : Nat} {a b : List α} (ha : a.length = n * m) (hb : b.length = n * m) (h : ∀ i, i < n → (a.drop (i * m)).take m = (b.drop (i * m)).take m) : a = b := by
  apply List.ext_getElem?
  intro j
  rcases Nat.lt_or_ge j (n * m) with hj | hj
  · have hi : j / m < n := by rw [Nat.div_lt_iff_lt_mul hm]; exact hj
    have e := congrArg (·[j % m]?) (h (j / m) hi)
    have hlt := Nat.mod_lt j hm
    simp only [List.getElem?_take, hlt, if_true, List.getElem?_drop] at e
    rwa [Nat.mul_comm, Nat.div_add_mod] at e
  · rw [List.getElem?_eq_none (by omega), List.getElem?_eq_none (by omega)]

theorem cells_of_tab2 {H : Type} {enc : TypeId × Value → H} {P : Program} {w : World} {base : Nat} {sp : Nat → Bool} {held : Bool} {fuel : Nat} {t e e' : TypeId} {n m : Nat} {k : IntKind} {cs : List Value} {zss : List (List Int)} {p : List MemPlace}
    (hm : 0 < m) (ht : P.underlying t = some (.array n e)) (he : P.underlying e = some (.array m e')) (he' : P.underlying e' = some (.int k)) (hce' : P.cellsOf e' = 1) (hce : P.cellsOf e = m) (hct : P.cellsOf t = n * m) (hz : ∀ zs ∈ zss, zs.length = m)
    (h : DataW.trod enc P w base sp held fuel t cs = some (.agg (zss.map (Lib.tabData k)), p)) : cs = zss.flatten.map fun z => Value.int k z := by
  cases fuel with
  | zero => simp [DataW.trod] at h
  | succ fuel =>
    simp only [DataW.trod, ht, hce, hct] at h
    split at h
    · rename_i hl
      obtain ⟨xs, hmm, hx⟩ := Option.map_eq_some_iff.1 h
      have hxs : xs.map (·.1) = zss.map (Lib.tabData k) := by
        have := congrArg Prod.fst hx
        simpa using this
      have hxl : xs.length = n := by simpa using Lib.mapM_length hmm
      have hzl : zss.length = n := by
        have := congrArg List.length hxs
        simp at this
        omega
      refine ext_parts hm (n := n) hl (by rw [List.length_map, length_flat hz, hzl]) fun i hi => ?_
      obtain ⟨b, hb, hf⟩ := Lib.mapM_at hmm i i (by simp [hi])
      obtain ⟨zs, hzs⟩ : ∃ zs, zss[i]? = some zs := ⟨zss[i], by simp [hzl, hi]⟩
      have h2 : (xs.map (·.1))[i]? = some b.1 := by simp [hb]
      rw [hxs] at h2
      simp only [List.getElem?_map, hzs, Option.map_some, Option.some.injEq] at h2
      have hf' : DataW.trod enc P w base sp held fuel e ((cs.drop (i * m)).take m) = some (Lib.tabData k zs, b.2) := by rw [h2]; exact hf
      rw [Lib.cells_of_tab he he' hce' hce hf', ← List.map_drop, ← List.map_take, flat_drop i hz hzs]
    · cases h

/-- The second table of a row's list. -/
theorem tab2_of_second {P : Program} {W : World} {n1 name : String} {d1 : DataW Unit} {k : IntKind} {zss : List (List Int)} {rest : List (String × DataW Unit)} {g : Nat} {t e e' : TypeId} {n m : Nat}
    (hg : P.globalNamed name = some g) (hty : (P.globals[g]?).map (·.type) = some t) (hm : 0 < m) (ht : P.underlying t = some (.array n e)) (he : P.underlying e = some (.array m e')) (he' : P.underlying e' = some (.int k)) (hce' : P.cellsOf e' = 1) (hce : P.cellsOf e = m) (hct : P.cellsOf t = n * m) (hz : ∀ zs ∈ zss, zs.length = m)
    (h : laidMet P ((n1, d1) :: (name, .agg (zss.map (Lib.tabData k))) :: rest) W) : Lib.TabIs P W name k zss.flatten := by
  obtain ⟨ps, ⟨_, _, _, _, _, _, _, _, _, _, h2, _⟩, _⟩ := h
  obtain ⟨g', t', cs, fuel, p, q, hg', ht', hvar, hd, _, _⟩ := h2
  obtain rfl := Option.some.inj (hg.symm.trans hg')
  obtain rfl := Option.some.inj (hty.symm.trans ht')
  unfold Lib.TabIs
  rw [hvar, ← cells_of_tab2 hm ht he he' hce' hce hct hz hd]
end Go.V
