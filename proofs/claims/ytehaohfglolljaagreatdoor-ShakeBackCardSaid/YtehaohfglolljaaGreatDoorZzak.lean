import Derived.Test.YtehaohfglolljaaGreatDoorZzag
import Derived.Test.YtehaohfglolljaaGreatDoorZzaj
import Derived.Test.YtehaohfglolljaaGreatDoorZzab
import Derived.Test.YtehaohfglolljaaGreatDoorZzal
import Derived.Test.YtehaohfglolljaaGreatDoorZzar
import Derived.Test.YtehaohfglolljaaGreatDoorZzai
import Derived.Test.YtehaohfglolljaaGreatDoorZzah
import Derived.Test.YtehaohfglolljaaGreatDoorZzaf
set_option linter.unusedSimpArgs false
set_option linter.unusedVariables false
namespace Go.Proofs.YtehaohfglolljaaGreatDoor
open Go Go.V
noncomputable def R1 : ROps Tryz.E := ROps.cold0 Tryz.E
noncomputable def R2 : ROps Tryz.E := ROps.lit (ROps.std Tryz.E)
set_option maxRecDepth 100000
theorem z123 (n m : Int) (K : AV → zc → Prop) : walk Tryz.E (ROps.rows Tryz.E) (Ctr.nil Tryz.E).C (fun _ _ => .unroll 6) 3 16 [.int .i64 n, .int .i64 m] K =
  cnd (m != 0) (za (ltI (n.tmod m) 0) (K (.int .i64 (wr .i64 (n.tmod m + m))) []) (K (.int .i64 (n.tmod m)) [])) := by kernel_rfl
theorem z154 (n m : Int) (h1 : 0 < m) (h2 : m ≤ 9223372036854775807) : HCall Tryz.E 16 [.int .i64 n, .int .i64 m] (.ret (.int .i64 (n % m)) []) := by
 refine HCall.of_walk (R := ROps.rows Tryz.E) (T := Ctr.nil Tryz.E) (fun _ _ => .unroll 6) 3 rfl rfl ?_
 rw [z123, zhj, z1p, z6n];refine ⟨by simp; omega, ?_⟩
 have e := ztw (n := n) h1;have h6 := Int.emod_nonneg n (show m ≠ 0 by omega)
 have h7 := Int.emod_lt_of_pos n h1;rw [z7f];refine ⟨fun h => ?_, fun h => ?_⟩
 ·rw [if_pos (of_decide_eq_true h)] at e;rw [e, z10r (by omega) (by omega)]; exact ⟨rfl, rfl⟩
 ·rw [if_neg (of_decide_eq_false h)] at e;rw [e]; exact ⟨rfl, rfl⟩
def zkz (x : Int) : Nat → Int → Out
 | 0, k => .ret (.int .i64 k) []
 | 1, k => .ret (.int .i64 k) []
 | n + 2, k => .alt (x == k) (.ret (.int .i64 k) []) (zkz x (n + 1) (k + 1))
theorem zt3 (x : Int) : ∀ (n : Nat) (k : Int), k ≤ x → x < k + n → (zkz x n k).has (.int .i64 x) []
 | 0, k, h1, h2 => by omega
 | 1, k, h1, h2 => by
  obtain rfl : x = k := by omega
  exact ⟨rfl, rfl⟩
 | n + 2, k, h1, h2 => by
  rw [zkz];cases hb : x == k with
  | true =>
   have : x = k := by simpa using hb
   subst this;exact ⟨rfl, rfl⟩
  | false =>
   have : x ≠ k := by simpa using hb
   exact zt3 x (n + 1) (k + 1) (by omega) (by omega)
theorem zwp (x : Int) : ∀ (n : Nat) (k : Int), (zkz x n k).okB = true
 | 0, k => rfl
 | 1, k => rfl
 | n + 2, k => by rw [zkz, Out.okB, zwp x (n + 1) (k + 1)]; rfl
theorem z16t (n m : Int) (h1 : 0 < m) (h2 : m ≤ 64) : HCall Tryz.E 16 [.int .i64 n, .int .i64 m] (zkz (n % m) m.toNat 0) := by
 obtain ⟨hp, _, hc⟩ := z154 n m h1 (by omega)
 refine ⟨hp, zwp _ _ _, fun ρ I w vs c r => (hc ρ I w vs c r).mono ?_⟩
 rintro e w' ⟨x, rfl, ρ', I', v, H', g, c', hr, hh⟩;obtain ⟨rfl, rfl⟩ := hh;refine ⟨x, rfl, ρ', I', _, _, g, c', hr, zt3 _ _ _ (Int.emod_nonneg n (by omega)) ?_⟩
 have := Int.emod_lt_of_pos n h1;omega
noncomputable def D0 : Ctr Tryz.E := (Ctr.nil Tryz.E).add 16 (fun
  | [.int .i64 n, .int .i64 m] => some (decide (0 < m) && decide (m ≤ 64), zkz (n % m) m.toNat 0)
  | _ => none) (by
   intro args pre out h hp
   split at h
   ·obtain ⟨rfl, rfl⟩ := spE h;simp only [Bool.and_eq_true, decide_eq_true_eq] at hp;exact z16t _ _ hp.1 hp.2
   ·simp at h)
end Go.Proofs.YtehaohfglolljaaGreatDoor
namespace Go.Proofs.YtehaohfglolljaaGreatDoor
open Go Go.V Go.Pat
set_option maxRecDepth 100000
def z10t (l : List Int) (x : AV) : Bool := z5q x && decide (z5w x = l)
theorem z16k {l : List Int} {x : AV} (h : z10t l x = true) : leV x (vI l) := by
 simp only [z10t, Bool.and_eq_true, decide_eq_true_eq] at h;rw [← h.2];exact za1 h.1
def zjy : List (Int × Int) := (List.range 16).flatMap fun (k : Nat) => [(2, (k : Int)), (3, (k : Int))]
theorem z15r : zb9 (fun x : Int × Int => z5m Tryz.E R1 (Ctr.nil Tryz.E).C (fun _ _ => .unroll 6) 4 32 [.int .i64 x.1, .int .i64 x.2] [] (zbf (z10t (plL x.1 x.2)))) zjy = zeb zjy := by kernel_rfl
theorem z17f (m k : Int) (h : (m, k) ∈ zjy) : HCall Tryz.E 32 [.int .i64 m, .int .i64 k] (.ret (vI (plL m k)) []) :=
 HCall.of_walkB (R := R1) (T := Ctr.nil Tryz.E) (fun _ _ => .unroll 6) 4 rfl (z9t z15r (m, k) h) (fun _ => z16k) rfl
noncomputable def D1 : Ctr Tryz.E := D0.add 32 (fun
  | [.int .i64 m, .int .i64 k] => some (decide ((m, k) ∈ zjy), .ret (vI (plL m k)) [])
  | _ => none) (by
   intro args pre out h hp
   split at h
   ·obtain ⟨rfl, rfl⟩ := spE h;exact z17f _ _ (of_decide_eq_true hp)
   ·simp at h)
theorem z1cl : zb9 (fun x : List UInt8 × List Int => z5m Tryz.E R2 (Ctr.nil Tryz.E).C (fun _ _ => .unroll 8) 4 31 [.str x.1, vI x.2] [] (zbf (zrj (zgm x.1 x.2)))) zt9 = zeb zt9 := by kernel_rfl
theorem z1ec (s : List UInt8) (l : List Int) (h : isW s l = true) : HCall Tryz.E 31 [.str s, vI l] (.ret (.tup [zi3 (zgm s l), .int .i64 0]) []) :=
 HCall.of_walkB (R := R2) (T := Ctr.nil Tryz.E) (fun _ _ => .unroll 8) 4 rfl (z9t z1cl (s, l) (of_decide_eq_true h)) (fun _ => ztf) rfl
theorem z1do (s : List UInt8) (l : List Int) (h : isW s l = true) : HCall Tryz.E 31 [.str s, vI l] (.ret (.tup [z9k (zgm s l), .int .i64 0]) []) :=
 HCall.weak (z1ec s l h) (z9m (z1b (zla _) (z1b (leV.refl _) z4w))) (z41 _ (by show zw _ = true; rw [zw, zd5]; rfl) _)
noncomputable def D2 : Ctr Tryz.E := D1.add 31 (fun
  | [.str s, x] => some (z5q x && isWT s (z5w x), zzb s (z5w x))
  | _ => none) (by
   intro args pre out h hp
   split at h
   ·obtain ⟨rfl, rfl⟩ := spE h;simp only [Bool.and_eq_true, z183] at hp;rw [z15m hp.2];refine HCall.args (z1do _ _ hp.2) (by simp [zw, z1a, z11y hp.1]) fun ρ I w vs r => ?_
    obtain ⟨x, xs, rfl, k1, k2⟩ := zq.1 r;obtain ⟨y, ys, rfl, k3, k4⟩ := zq.1 k2;exact zq.2 ⟨x, _, rfl, k1, zq.2 ⟨y, ys, rfl, za1 hp.1 _ _ _ _ k3, k4⟩⟩
   ·simp at h)
theorem z1fp : zb9 (fun a => z5m Tryz.E R2 (Ctr.nil Tryz.E).C (fun _ _ => .unroll 12) 4 51 [a] [] (zbf zl4)) (z9j.take 33) = zeb (z9j.take 33) := by kernel_rfl
theorem z1d7 : zb9 (fun a => z5m Tryz.E R2 (Ctr.nil Tryz.E).C (fun _ _ => .unroll 12) 4 51 [a] [] (zbf zl4)) ((z9j.drop 33).take 12) = zeb ((z9j.drop 33).take 12) := by kernel_rfl
theorem z1a4 : zb9 (fun a => z5m Tryz.E R2 (Ctr.nil Tryz.E).C (fun _ _ => .unroll 12) 4 51 [a] [] (zbf zl4)) ((z9j.drop 45).take 10) = zeb ((z9j.drop 45).take 10) := by kernel_rfl
theorem z1c0 : zb9 (fun a => z5m Tryz.E R2 (Ctr.nil Tryz.E).C (fun _ _ => .unroll 12) 4 51 [a] [] (zbf zl4)) (z9j.drop 55) = zeb (z9j.drop 55) := by kernel_rfl
theorem zym (p : Pat) (h : p ∈ z2e) : HCall Tryz.E 51 [z9k p] (.ret (.int .i64 0) []) := by
 have hm : z9k p ∈ z9j := by rw [← z1c4]; exact List.mem_map_of_mem h
 have hp : zw [z9k p] = true := by rw [zw, zd5]; rfl
 have key : ∀ L : List AV, (∀ a ∈ L, z5m Tryz.E R2 (Ctr.nil Tryz.E).C (fun _ _ => .unroll 12) 4 51 [a] [] (zbf zl4)) → z9k p ∈ L → HCall Tryz.E 51 [z9k p] (.ret (.int .i64 0) []) :=
  fun L hL hm => HCall.of_walkB (R := R2) (T := Ctr.nil Tryz.E) (fun _ _ => .unroll 12) 4 hp (hL _ hm) (fun _ => z1b9) rfl
 rw [← List.take_append_drop 33 z9j, List.mem_append] at hm;rcases hm with hm | hm
 ·exact key _ (z9t z1fp) hm
 rw [← List.take_append_drop 12 (z9j.drop 33), List.mem_append, List.drop_drop] at hm;rcases hm with hm | hm
 ·exact key _ (z9t z1d7) hm
 rw [← List.take_append_drop 10 (z9j.drop (33 + 12)), List.mem_append, List.drop_drop] at hm;rcases hm with hm | hm
 ·exact key _ (z9t z1a4) hm
 ·exact key _ (z9t z1c0) hm
end Go.Proofs.YtehaohfglolljaaGreatDoor
namespace Go.Proofs.YtehaohfglolljaaGreatDoor
open Go Go.V Go.Fld Go.Pol Go.Cha Go.Bla
set_option maxRecDepth 100000
noncomputable def zj3 (has : Bool) (ck : List UInt8) (n : UInt64) (hash b : List UInt8) : List UInt8 := bif has then z6m ck (z2f n) hash b else b
noncomputable def z2b : Bool → List UInt8 → UInt64 → List UInt8 → List UInt8 → List UInt8 := (zf zj3).val
theorem zje : z2b = zj3 := by rw [z2b, (zf zj3).property]
noncomputable def zmw (has : Bool) (ck : List UInt8) (n : UInt64) (b : List UInt8) : List UInt8 := bif has then z81 ck (z2f n) b else b
noncomputable def z47 : Bool → List UInt8 → UInt64 → List UInt8 → List UInt8 := (zf zmw).val
theorem zp0 : z47 = zmw := by rw [z47, (zf zmw).property]
noncomputable def zrb (has : Bool) (n : UInt64) : UInt64 := bif has then n + 1 else n
noncomputable def symN : Bool → UInt64 → UInt64 := (zf zrb).val
theorem zo0 : symN = zrb := by rw [symN, (zf zrb).property]
noncomputable def zbm (has : Bool) (ck : List UInt8) (n : UInt64) : Bool := bif has then !z9b n else z8b ck n
noncomputable def symK : Bool → List UInt8 → UInt64 → Bool := (zf zbm).val
theorem zjt : symK = zbm := by rw [symK, (zf zbm).property]
noncomputable def zgj (has : Bool) (ck : List UInt8) (n : UInt64) (hash b : List UInt8) : Bool := bif has then leB 16 b.length && !(zb6 ck (z2f n) hash b) else true
noncomputable def z7v : Bool → List UInt8 → UInt64 → List UInt8 → List UInt8 → Bool := (zf zgj).val
theorem zou : z7v = zgj := by rw [z7v, (zf zgj).property]
noncomputable def zmu (has : Bool) (ck : List UInt8) (n : UInt64) (chain hash b : List UInt8) : Out :=
 .ret (.tup [z7a has ck (symN has n) chain (sumS (hash ++ z2b has ck n hash b)), .sl 0 0 1 (z2b has ck n hash b).length, .int .i64 0]) [.grow8 (z2b has ck n hash b) []]
noncomputable def ztb (has : Bool) (ck : List UInt8) (n : UInt64) (chain hash b : List UInt8) : Out :=
 .ret (.tup [z7a has ck (symN has n) chain (sumS (hash ++ b)), .sl 0 0 1 (z47 has ck n b).length, .int .i64 0]) [.grow8 (z47 has ck n b) []]
theorem zxp (chain hash ck b : List UInt8) (has fb : Bool) (n : UInt64) (h1 : hash.length ≤ 200) (h2 : b.length ≤ 800) (h3 : symK has ck n = true) :
  HCall Tryz.E 54 [.agg [.bool has, .b8 32 ck, .u64 n, .b8 32 chain, .b8 32 hash], .vec8 fb b] (zmu has ck n chain hash b) := by
 refine HCall.of_walk (R := RQ) (T := Y3) (fun f l => .unroll 5) 5 rfl rfl ?_
 rw [z15b];dsimp only;unfold zmu;rw [zje, zo0];rw [zjt] at h3;rw [z3l (by omega), z3l (by omega)]
 cases has with
 | true =>
  have h3 : z9b n = false := by simpa [zbm] using h3
  have hl := z7c ck (z2f n) hash b;have e1 : List.take (b.length + 16) (List.drop 0 (z6m ck (z2f n) hash b)) = z6m ck (z2f n) hash b := by rw [← hl, List.drop_zero, List.take_length]
  rw [h3, e1, zp (by omega), zp (by omega), ← hl]
  exact ⟨rfl, rfl⟩
 | false =>
  have h3 : z8b ck n = true := by simpa [zbm] using h3
  rw [h3, all8, zp (a := 0 + b.length) (by omega), zp (a := hash.length + b.length) (by omega)]
  exact ⟨rfl, rfl⟩
theorem zwu (chain hash ck b : List UInt8) (has fb : Bool) (n : UInt64) (h1 : hash.length ≤ 200) (h2 : b.length ≤ 800) (h3 : symK has ck n = true) (h4 : z7v has ck n hash b = true) :
  HCall Tryz.E 57 [.agg [.bool has, .b8 32 ck, .u64 n, .b8 32 chain, .b8 32 hash], .vec8 fb b] (ztb has ck n chain hash b) := by
 refine HCall.of_walk (R := RQ) (T := Y3) (fun f l => .unroll 5) 5 rfl rfl ?_
 rw [zst];dsimp only;unfold ztb;rw [zp0, zo0];rw [zjt] at h3;rw [zou] at h4;rw [z3l (a := 800) (by omega), z3l (a := 200) (by omega), z3l (a := 816) (by omega), zp (a := b.length) (by omega), zp (a := hash.length + b.length) (by omega)]
 cases has with
 | true =>
  have h3 : z9b n = false := by simpa [zbm] using h3
  have h4 : (leB 16 b.length && !(zb6 ck (z2f n) hash b)) = true := by simpa [zgj] using h4
  simp only [Bool.and_eq_true, Bool.not_eq_true'] at h4;have hl : (z81 ck (z2f n) b).length = b.length - 16 := zh1 _ _ _;rw [h3, z3l (zh.1 h4.1), h4.2, ← hl];exact ⟨rfl, rfl⟩
 | false =>
  have h3 : z8b ck n = true := by simpa [zbm] using h3
  rw [h3];exact ⟨rfl, rfl⟩
def zn : List UInt8 := [0, 0, 0, 0, 0, 0, 0, 0, 0, 0, 0, 0, 0, 0, 0, 0, 0, 0, 0, 0, 0, 0, 0, 0, 0, 0, 0, 0, 0, 0, 0, 0]
noncomputable def zlx (s : List UInt8) : List UInt8 := bif ltB 32 s.length then sumS s else List.take 32 s ++ List.drop (min s.length 32) zn
noncomputable def zu : List UInt8 → List UInt8 := (zf zlx).val
theorem zv8 : zu = zlx := by rw [zu, (zf zlx).property]
theorem z17i (s : List UInt8) (h : s.length ≤ 1000000) : HCall Tryz.E 19 [.str s] (.ret (z7a false zn 0 (zu s) (zu s)) []) := by
 refine HCall.weak (a := AV.agg [AV.agg [AV.bool false, AV.b8 32 zn, AV.u64 0], AV.b8 32 (zu s), AV.b8 32 (zu s)]) ?_ (z4n _) rfl;refine HCall.of_walk (R := RQ) (T := Y1) (fun _ _ => .unroll 5) 5 rfl rfl ?_
 rw [z13y, zv8];unfold zlx;dsimp only;rw [show ltI 32 ((s.length : Nat) : Int) = ltB 32 s.length from rfl, zp (a := 0 + s.length) (by omega), all8, zp (a := s.length) (by omega)]
 cases ltB 32 s.length with
 | true => exact ⟨rfl, rfl⟩
 | false => exact ⟨rfl, rfl⟩
theorem z16v (chain hash ck : List UInt8) (has : Bool) (n : UInt64) (h : chain.length ≤ 64) :
  HCall Tryz.E 30 [.agg [.bool has, .b8 32 ck, .u64 n, .b8 32 chain, .b8 32 hash]] (.ret (.agg [.bool true, .b8 32 (z25 chain []), .u64 0, .bool true, .b8 32 (z23 chain []), .u64 0]) []) := by
 refine HCall.weak (a := AV.agg [AV.agg [AV.bool true, AV.b8 32 (z25 chain []), AV.u64 0], AV.agg [AV.bool true, AV.b8 32 (z23 chain []), AV.u64 0]]) ?_ (z4n _) rfl;refine HCall.of_walk (R := RQ) (T := Y1) (fun _ _ => .unroll 5) 5 rfl rfl ?_
 rw [z126, zp h];exact ⟨rfl, rfl⟩
noncomputable def Y4 : Ctr Tryz.E := (((Y3.add 54 (fun
  | [.agg [.bool has, .b8 32 ck, .u64 n, .b8 32 chain, .b8 32 hash], .vec8 _ b] => some (leB hash.length 200 && (leB b.length 800 && symK has ck n), zmu has ck n chain hash b)
  | _ => none) (by
   intro args pre out h hp
   split at h
   ·obtain ⟨rfl, rfl⟩ := spE h;simp only [Bool.and_eq_true] at hp;exact zxp _ _ _ _ _ _ _ (zh.1 hp.1) (zh.1 hp.2.1) hp.2.2
   ·simp at h)).add 57 (fun
  | [.agg [.bool has, .b8 32 ck, .u64 n, .b8 32 chain, .b8 32 hash], .vec8 _ b] => some (leB hash.length 200 && (leB b.length 800 && (symK has ck n && z7v has ck n hash b)), ztb has ck n chain hash b)
  | _ => none) (by
   intro args pre out h hp
   split at h
   ·obtain ⟨rfl, rfl⟩ := spE h;simp only [Bool.and_eq_true] at hp;exact zwu _ _ _ _ _ _ _ (zh.1 hp.1) (zh.1 hp.2.1) hp.2.2.1 hp.2.2.2
   ·simp at h)).add 19 (fun
  | [.str s] => some (leB s.length 1000000, .ret (z7a false zn 0 (zu s) (zu s)) [])
  | _ => none) (by
   intro args pre out h hp
   split at h
   ·obtain ⟨rfl, rfl⟩ := spE h;exact z17i _ (zh.1 hp)
   ·simp at h)).add 30 (fun
  | [.agg [.bool has, .b8 32 ck, .u64 n, .b8 32 chain, .b8 32 hash]] => some (leB chain.length 64, .ret (.agg [.bool true, .b8 32 (z25 chain []), .u64 0, .bool true, .b8 32 (z23 chain []), .u64 0]) [])
  | _ => none) (by
   intro args pre out h hp
   split at h
   ·obtain ⟨rfl, rfl⟩ := spE h;exact z16v _ _ _ _ _ (zh.1 hp)
   ·simp at h)
end Go.Proofs.YtehaohfglolljaaGreatDoor
namespace Go.Proofs.YtehaohfglolljaaGreatDoor
open Go Go.V
set_option maxHeartbeats 0
set_option maxRecDepth 100000
theorem z1c7 (s : List UInt8) (m : Int) (K : AV → zc → Prop) : walk Tryz.E (ROps.rows Tryz.E) (Ctr.nil Tryz.E).C (fun _ _ => .unroll 17) 5 9 [.str s, .int .i64 m] K = (
 let x0 : Nat := (List.length s)
 let x1 : Int := ((x0 : Nat) : Int)
 cnd (z19 Option.none (Option.some (cond false (Max.max x1 m) (Min.min x1 m))) x0)
 (K (AV.str (zt Option.none (Option.some (cond false (Max.max x1 m) (Min.min x1 m))) s)) [])) := by kernel_rfl
theorem z1en (s : List UInt8) (m : Int) (hm : 0 ≤ m) : HCall Tryz.E 9 [.str s, .int .i64 m] (.ret (.str (s.take m.toNat)) []) := by
 refine HCall.of_walk (R := ROps.rows Tryz.E) (T := Ctr.nil Tryz.E) (fun _ _ => .unroll 17) 5 rfl rfl ?_
 rw [z1c7];dsimp only;rw [z1fr _ _ hm, z1g2 _ _ hm];exact ⟨rfl, rfl⟩
noncomputable def Ucut : Ctr Tryz.E := (Ctr.nil Tryz.E).add 9 (fun
  | [.str s, .int .i64 m] => some (nnB m, .ret (.str (s.take m.toNat)) [])
  | _ => none) (by
   intro args pre out h hp
   split at h
   ·obtain ⟨rfl, rfl⟩ := spE h;exact z1en _ _ (z3j.1 hp)
   ·simp at h)
end Go.Proofs.YtehaohfglolljaaGreatDoor