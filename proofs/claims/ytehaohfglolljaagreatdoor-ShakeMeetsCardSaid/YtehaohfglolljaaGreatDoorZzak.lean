import Derived.Test.YtehaohfglolljaaGreatDoorZzag
import Derived.Test.YtehaohfglolljaaGreatDoorZzaj
import Derived.Test.YtehaohfglolljaaGreatDoorZzab
import Derived.Test.YtehaohfglolljaaGreatDoorZzal
import Derived.Test.YtehaohfglolljaaGreatDoorZzar
import Derived.Test.YtehaohfglolljaaGreatDoorZzai
import Derived.Test.YtehaohfglolljaaGreatDoorZzah
import Derived.Test.YtehaohfglolljaaGreatDoorZzaf
noncomputable section
set_option linter.unusedSimpArgs false
set_option linter.unusedVariables false
namespace Go.Proofs.YtehaohfglolljaaGreatDoor
open Go Go.V
def R1 : ROps Tryz.E := ROps.z1ms Tryz.E
def R2 : ROps Tryz.E := ROps.lit (ROps.std Tryz.E)
set_option maxRecDepth 100000
theorem z15n (n m : Int) (K : AV → Heap → Prop) : walk Tryz.E (ROps.rows Tryz.E) (Ctr.nil Tryz.E).C (fun _ _ => .unroll 6) 3 16 [.int .i64 n, .int .i64 m] K =
  cnd (m != 0) (za (ltI (n.tmod m) 0) (K (.int .i64 (wr .i64 (n.tmod m + m))) []) (K (.int .i64 (n.tmod m)) [])) := by kernel_rfl
theorem zis (n m : Int) (h1 : 0 < m) (h2 : m ≤ 9223372036854775807) : HCall Tryz.E 16 [.int .i64 n, .int .i64 m] (.ret (.int .i64 (n % m)) []) := by
 refine HCall.z1lg (R := ROps.rows Tryz.E) (T := Ctr.nil Tryz.E) (fun _ _ => .unroll 6) 3 rfl rfl ?_
 rw [z15n, zjm, z1o, z6v];refine ⟨by simp; omega, ?_⟩
 have e := zvm (n := n) h1;have h6 := Int.emod_nonneg n (show m ≠ 0 by omega)
 have h7 := Int.emod_lt_of_pos n h1;rw [z7r];refine ⟨fun h => ?_, fun h => ?_⟩
 ·rw [if_pos (of_decide_eq_true h)] at e;rw [e, z10i (by omega) (by omega)]; exact ⟨rfl, rfl⟩
 ·rw [if_neg (of_decide_eq_false h)] at e;rw [e]; exact ⟨rfl, rfl⟩
def z1d1 : Ctr Tryz.E := (Ctr.nil Tryz.E).add 16 (fun
  | [.int .i64 n, .int .i64 m] => some (decide (0 < m) && decide (m ≤ 9223372036854775807), .ret (.int .i64 (n % m)) [])
  | _ => none) (by
   intro args pre out h hp
   split at h
   ·obtain ⟨rfl, rfl⟩ := spE h;simp only [Bool.and_eq_true, decide_eq_true_eq] at hp;exact zis _ _ hp.1 hp.2
   ·simp at h)
def zjd (x : Int) : Nat → Int → Out
 | 0, k => .ret (.int .i64 k) []
 | 1, k => .ret (.int .i64 k) []
 | n + 2, k => .alt (x == k) (.ret (.int .i64 k) []) (zjd x (n + 1) (k + 1))
theorem zwa (x : Int) : ∀ (n : Nat) (k : Int), k ≤ x → x < k + n → (zjd x n k).has (.int .i64 x) []
 | 0, k, h1, h2 => by omega
 | 1, k, h1, h2 => by
  obtain rfl : x = k := by omega
  exact ⟨rfl, rfl⟩
 | n + 2, k, h1, h2 => by
  rw [zjd];cases hb : x == k with
  | true =>
   have : x = k := by simpa using hb
   subst this;exact ⟨rfl, rfl⟩
  | false =>
   have : x ≠ k := by simpa using hb
   exact zwa x (n + 1) (k + 1) (by omega) (by omega)
theorem zzc (x : Int) : ∀ (n : Nat) (k : Int), (zjd x n k).okB = true
 | 0, k => rfl
 | 1, k => rfl
 | n + 2, k => by rw [zjd, Out.okB, zzc x (n + 1) (k + 1)]; rfl
theorem zul (n m : Int) (h1 : 0 < m) (h2 : m ≤ 64) : HCall Tryz.E 16 [.int .i64 n, .int .i64 m] (zjd (n % m) m.toNat 0) := by
 obtain ⟨hp, _, hc⟩ := zis n m h1 (by omega)
 refine ⟨hp, zzc _ _ _, fun ρ I w vs c r => (hc ρ I w vs c r).mono ?_⟩
 rintro e w' ⟨x, rfl, ρ', I', v, H', g, c', hr, hh⟩;obtain ⟨rfl, rfl⟩ := hh;refine ⟨x, rfl, ρ', I', _, _, g, c', hr, zwa _ _ _ (Int.emod_nonneg n (by omega)) ?_⟩
 have := Int.emod_lt_of_pos n h1;omega
def D0 : Ctr Tryz.E := (Ctr.nil Tryz.E).add 16 (fun
  | [.int .i64 n, .int .i64 m] => some (decide (0 < m) && decide (m ≤ 64), zjd (n % m) m.toNat 0)
  | _ => none) (by
   intro args pre out h hp
   split at h
   ·obtain ⟨rfl, rfl⟩ := spE h;simp only [Bool.and_eq_true, decide_eq_true_eq] at hp;exact zul _ _ hp.1 hp.2
   ·simp at h)
end Go.Proofs.YtehaohfglolljaaGreatDoor
namespace Go.Proofs.YtehaohfglolljaaGreatDoor
open Go Go.V Go.Pat
set_option maxRecDepth 100000
def z13b (l : List Int) (x : AV) : Bool := z64 x && decide (z63 x = l)
theorem z19a {l : List Int} {x : AV} (h : z13b l x = true) : leV x (vI l) := by
 simp only [z13b, Bool.and_eq_true, decide_eq_true_eq] at h;rw [← h.2];exact za2 h.1
def zjt : List (Int × Int) := (List.range 16).flatMap fun (k : Nat) => [(2, (k : Int)), (3, (k : Int))]
theorem z17o : zac (fun x : Int × Int => z5e Tryz.E R1 (Ctr.nil Tryz.E).C (fun _ _ => .unroll 6) 4 32 [.int .i64 x.1, .int .i64 x.2] [] (zav (z13b (plL x.1 x.2)))) zjt = zd8 zjt := by kernel_rfl
theorem z1ag (m k : Int) (h : (m, k) ∈ zjt) : HCall Tryz.E 32 [.int .i64 m, .int .i64 k] (.ret (vI (plL m k)) []) :=
 HCall.z1lq (R := R1) (T := Ctr.nil Tryz.E) (fun _ _ => .unroll 6) 4 rfl (z91 z17o (m, k) h) (fun _ => z19a) rfl
def D1 : Ctr Tryz.E := D0.add 32 (fun
  | [.int .i64 m, .int .i64 k] => some (decide ((m, k) ∈ zjt), .ret (vI (plL m k)) [])
  | _ => none) (by
   intro args pre out h hp
   split at h
   ·obtain ⟨rfl, rfl⟩ := spE h;exact z1ag _ _ (of_decide_eq_true hp)
   ·simp at h)
theorem z1ia : zac (fun x : List UInt8 × List Int => z5e Tryz.E R2 (Ctr.nil Tryz.E).C (fun _ _ => .unroll 8) 4 31 [.str x.1, vI x.2] [] (zav (zsb (ze9 x.1 x.2)))) zwb = zd8 zwb := by kernel_rfl
theorem z1h5 (s : List UInt8) (l : List Int) (h : isW s l = true) : HCall Tryz.E 31 [.str s, vI l] (.ret (.tup [z9w (ze9 s l), .int .i64 0]) []) :=
 HCall.z1lq (R := R2) (T := Ctr.nil Tryz.E) (fun _ _ => .unroll 8) 4 rfl (z91 z1ia (s, l) (of_decide_eq_true h)) (fun _ => zvu) rfl
theorem z1ij (s : List UInt8) (l : List Int) (h : isW s l = true) : HCall Tryz.E 31 [.str s, vI l] (.ret (.tup [z54 (ze9 s l), .int .i64 0]) []) :=
 HCall.weak (z1h5 s l h) (z80 (z14 (zgg _) (z14 (leV.refl _) z3t))) (z3p _ (by show zw _ = true; rw [zw, zba]; rfl) _)
def D2 : Ctr Tryz.E := D1.add 31 (fun
  | [.str s, x] => some (z64 x && isWT s (z63 x), z12u s (z63 x))
  | _ => none) (by
   intro args pre out h hp
   split at h
   ·obtain ⟨rfl, rfl⟩ := spE h;simp only [Bool.and_eq_true, z188] at hp;rw [z19l hp.2];refine HCall.args (z1ij _ _ hp.2) (by simp [zw, z1b, z15m hp.1]) fun ρ I w vs r => ?_
    obtain ⟨x, xs, rfl, k1, k2⟩ := zr.1 r;obtain ⟨y, ys, rfl, k3, k4⟩ := zr.1 k2;exact zr.2 ⟨x, _, rfl, k1, zr.2 ⟨y, ys, rfl, za2 hp.1 _ _ _ _ k3, k4⟩⟩
   ·simp at h)
theorem z1hi : zac (fun a => z5e Tryz.E R2 (Ctr.nil Tryz.E).C (fun _ _ => .unroll 12) 4 51 [a] [] (zav zmf)) (z8t.take 33) = zd8 (z8t.take 33) := by kernel_rfl
theorem z1gg : zac (fun a => z5e Tryz.E R2 (Ctr.nil Tryz.E).C (fun _ _ => .unroll 12) 4 51 [a] [] (zav zmf)) ((z8t.drop 33).take 12) = zd8 ((z8t.drop 33).take 12) := by kernel_rfl
theorem z1c1 : zac (fun a => z5e Tryz.E R2 (Ctr.nil Tryz.E).C (fun _ _ => .unroll 12) 4 51 [a] [] (zav zmf)) ((z8t.drop 45).take 10) = zd8 ((z8t.drop 45).take 10) := by kernel_rfl
theorem z1dc : zac (fun a => z5e Tryz.E R2 (Ctr.nil Tryz.E).C (fun _ _ => .unroll 12) 4 51 [a] [] (zav zmf)) (z8t.drop 55) = zd8 (z8t.drop 55) := by kernel_rfl
theorem z12v (p : Pat) (h : p ∈ z1q) : HCall Tryz.E 51 [z54 p] (.ret (.int .i64 0) []) := by
 have hm : z54 p ∈ z8t := by rw [← zzg]; exact List.mem_map_of_mem h
 have hp : zw [z54 p] = true := by rw [zw, zba]; rfl
 have key : ∀ L : List AV, (∀ a ∈ L, z5e Tryz.E R2 (Ctr.nil Tryz.E).C (fun _ _ => .unroll 12) 4 51 [a] [] (zav zmf)) → z54 p ∈ L → HCall Tryz.E 51 [z54 p] (.ret (.int .i64 0) []) :=
  fun L hL hm => HCall.z1lq (R := R2) (T := Ctr.nil Tryz.E) (fun _ _ => .unroll 12) 4 hp (hL _ hm) (fun _ => z1ec) rfl
 rw [← List.take_append_drop 33 z8t, List.mem_append] at hm;rcases hm with hm | hm
 ·exact key _ (z91 z1hi) hm
 rw [← List.take_append_drop 12 (z8t.drop 33), List.mem_append, List.drop_drop] at hm;rcases hm with hm | hm
 ·exact key _ (z91 z1gg) hm
 rw [← List.take_append_drop 10 (z8t.drop (33 + 12)), List.mem_append, List.drop_drop] at hm;rcases hm with hm | hm
 ·exact key _ (z91 z1c1) hm
 ·exact key _ (z91 z1dc) hm
theorem z18t (n m k : Int) (h1 : 0 < m) (h2 : m ≤ 1000) (h : n % m = k) : HCall Tryz.E 16 [.int .i64 n, .int .i64 m] (.ret (.int .i64 k) []) := by
 subst h;exact zis n m h1 (by omega)
def zkf (T : Ctr Tryz.E) (k : Int) : Ctr Tryz.E := T.add 16 (fun
  | [.int .i64 n, .int .i64 m] => bif m == 6 then some (n % m == k, .ret (.int .i64 k) []) else some (decide (0 < m) && decide (m ≤ 64), zjd (n % m) m.toNat 0)
  | _ => none) (by
   intro args pre out h hp
   split at h
   ·rename_i n m;cases hb : m == 6 with
    | true =>
     rw [hb] at h;simp only [cond_true, Option.some.injEq, Prod.mk.injEq] at h;obtain ⟨rfl, rfl⟩ := h;obtain rfl : m = 6 := by simpa using hb
     exact z18t _ _ _ (by decide) (by decide) (by simpa using hp)
    | false =>
     rw [hb] at h;simp only [cond_false, Option.some.injEq, Prod.mk.injEq] at h;obtain ⟨rfl, rfl⟩ := h;simp only [Bool.and_eq_true, decide_eq_true_eq] at hp;exact zul _ _ hp.1 hp.2
   ·simp at h)
end Go.Proofs.YtehaohfglolljaaGreatDoor
namespace Go.Proofs.YtehaohfglolljaaGreatDoor
open Go Go.V Go.Fld Go.Pol Go.Cha Go.Bla
set_option maxRecDepth 100000
def zjr (has : Bool) (ck : List UInt8) (n : UInt64) (hash b : List UInt8) : List UInt8 := bif has then z6y ck (z2g n) hash b else b
def z2c : Bool → List UInt8 → UInt64 → List UInt8 → List UInt8 → List UInt8 := (zf zjr).val
theorem zk1 : z2c = zjr := by rw [z2c, (zf zjr).property]
def zo8 (has : Bool) (ck : List UInt8) (n : UInt64) (b : List UInt8) : List UInt8 := bif has then z8f ck (z2g n) b else b
def z4f : Bool → List UInt8 → UInt64 → List UInt8 → List UInt8 := (zf zo8).val
theorem zoz : z4f = zo8 := by rw [z4f, (zf zo8).property]
def zst (has : Bool) (n : UInt64) : UInt64 := bif has then n + 1 else n
def symN : Bool → UInt64 → UInt64 := (zf zst).val
theorem zq0 : symN = zst := by rw [symN, (zf zst).property]
def zc1 (has : Bool) (ck : List UInt8) (n : UInt64) : Bool := bif has then !z9d n else z8m ck n
def symK : Bool → List UInt8 → UInt64 → Bool := (zf zc1).val
theorem zk8 : symK = zc1 := by rw [symK, (zf zc1).property]
def zgt (has : Bool) (ck : List UInt8) (n : UInt64) (hash b : List UInt8) : Bool := bif has then leB 16 b.length && !(zbm ck (z2g n) hash b) else true
def z88 : Bool → List UInt8 → UInt64 → List UInt8 → List UInt8 → Bool := (zf zgt).val
theorem zps : z88 = zgt := by rw [z88, (zf zgt).property]
def zoe (has : Bool) (ck : List UInt8) (n : UInt64) (chain hash b : List UInt8) : Out :=
 .ret (.tup [z7b has ck (symN has n) chain (sumS (hash ++ z2c has ck n hash b)), .sl 0 0 1 (z2c has ck n hash b).length, .int .i64 0]) [.grow8 (z2c has ck n hash b) []]
def zwj (has : Bool) (ck : List UInt8) (n : UInt64) (chain hash b : List UInt8) : Out :=
 .ret (.tup [z7b has ck (symN has n) chain (sumS (hash ++ b)), .sl 0 0 1 (z4f has ck n b).length, .int .i64 0]) [.grow8 (z4f has ck n b) []]
theorem zyr (chain hash ck b : List UInt8) (has fb : Bool) (n : UInt64) (h1 : hash.length ≤ 200) (h2 : b.length ≤ 800) (h3 : symK has ck n = true) :
  HCall Tryz.E 54 [.agg [.bool has, .b8 32 ck, .u64 n, .b8 32 chain, .b8 32 hash], .vec8 fb b] (zoe has ck n chain hash b) := by
 refine HCall.z1lg (R := RQ) (T := Y3) (fun f l => .unroll 5) 5 rfl rfl ?_
 rw [z19c];dsimp only;unfold zoe;rw [zk1, zq0];rw [zk8] at h3;rw [z3m (by omega), z3m (by omega)]
 cases has with
 | true =>
  have h3 : z9d n = false := by simpa [zc1] using h3
  have hl := z7o ck (z2g n) hash b;have e1 : List.take (b.length + 16) (List.drop 0 (z6y ck (z2g n) hash b)) = z6y ck (z2g n) hash b := by rw [← hl, List.drop_zero, List.take_length]
  rw [h3, e1, zp (by omega), zp (by omega), ← hl]
  exact ⟨rfl, rfl⟩
 | false =>
  have h3 : z8m ck n = true := by simpa [zc1] using h3
  rw [h3, all8, zp (a := 0 + b.length) (by omega), zp (a := hash.length + b.length) (by omega)]
  exact ⟨rfl, rfl⟩
theorem zz4 (chain hash ck b : List UInt8) (has fb : Bool) (n : UInt64) (h1 : hash.length ≤ 200) (h2 : b.length ≤ 800) (h3 : symK has ck n = true) (h4 : z88 has ck n hash b = true) :
  HCall Tryz.E 57 [.agg [.bool has, .b8 32 ck, .u64 n, .b8 32 chain, .b8 32 hash], .vec8 fb b] (zwj has ck n chain hash b) := by
 refine HCall.z1lg (R := RQ) (T := Y3) (fun f l => .unroll 5) 5 rfl rfl ?_
 rw [zus];dsimp only;unfold zwj;rw [zoz, zq0];rw [zk8] at h3;rw [zps] at h4;rw [z3m (a := 800) (by omega), z3m (a := 200) (by omega), z3m (a := 816) (by omega), zp (a := b.length) (by omega), zp (a := hash.length + b.length) (by omega)]
 cases has with
 | true =>
  have h3 : z9d n = false := by simpa [zc1] using h3
  have h4 : (leB 16 b.length && !(zbm ck (z2g n) hash b)) = true := by simpa [zgt] using h4
  simp only [Bool.and_eq_true, Bool.not_eq_true'] at h4;have hl : (z8f ck (z2g n) b).length = b.length - 16 := zhp _ _ _;rw [h3, z3m (zh.1 h4.1), h4.2, ← hl];exact ⟨rfl, rfl⟩
 | false =>
  have h3 : z8m ck n = true := by simpa [zc1] using h3
  rw [h3];exact ⟨rfl, rfl⟩
def zk : List UInt8 := [0, 0, 0, 0, 0, 0, 0, 0, 0, 0, 0, 0, 0, 0, 0, 0, 0, 0, 0, 0, 0, 0, 0, 0, 0, 0, 0, 0, 0, 0, 0, 0]
def zng (s : List UInt8) : List UInt8 := bif ltB 32 s.length then sumS s else List.take 32 s ++ List.drop (min s.length 32) zk
def zt : List UInt8 → List UInt8 := (zf zng).val
theorem zwq : zt = zng := by rw [zt, (zf zng).property]
theorem z19v (s : List UInt8) (h : s.length ≤ 1000000) : HCall Tryz.E 19 [.str s] (.ret (z7b false zk 0 (zt s) (zt s)) []) := by
 refine HCall.weak (a := AV.agg [AV.agg [AV.bool false, AV.b8 32 zk, AV.u64 0], AV.b8 32 (zt s), AV.b8 32 (zt s)]) ?_ (z42 _) rfl;refine HCall.z1lg (R := RQ) (T := Y1) (fun _ _ => .unroll 5) 5 rfl rfl ?_
 rw [z16j, zwq];unfold zng;dsimp only;rw [show ltI 32 ((s.length : Nat) : Int) = ltB 32 s.length from rfl, zp (a := 0 + s.length) (by omega), all8, zp (a := s.length) (by omega)]
 cases ltB 32 s.length with
 | true => exact ⟨rfl, rfl⟩
 | false => exact ⟨rfl, rfl⟩
theorem z18u (chain hash ck : List UInt8) (has : Bool) (n : UInt64) (h : chain.length ≤ 64) :
  HCall Tryz.E 30 [.agg [.bool has, .b8 32 ck, .u64 n, .b8 32 chain, .b8 32 hash]] (.ret (.agg [.bool true, .b8 32 (z28 chain []), .u64 0, .bool true, .b8 32 (z29 chain []), .u64 0]) []) := by
 refine HCall.weak (a := AV.agg [AV.agg [AV.bool true, AV.b8 32 (z28 chain []), AV.u64 0], AV.agg [AV.bool true, AV.b8 32 (z29 chain []), AV.u64 0]]) ?_ (z42 _) rfl;refine HCall.z1lg (R := RQ) (T := Y1) (fun _ _ => .unroll 5) 5 rfl rfl ?_
 rw [z15d, zp h];exact ⟨rfl, rfl⟩
def Y4 : Ctr Tryz.E := (((Y3.add 54 (fun
  | [.agg [.bool has, .b8 32 ck, .u64 n, .b8 32 chain, .b8 32 hash], .vec8 _ b] => some (leB hash.length 200 && (leB b.length 800 && symK has ck n), zoe has ck n chain hash b)
  | _ => none) (by
   intro args pre out h hp
   split at h
   ·obtain ⟨rfl, rfl⟩ := spE h;simp only [Bool.and_eq_true] at hp;exact zyr _ _ _ _ _ _ _ (zh.1 hp.1) (zh.1 hp.2.1) hp.2.2
   ·simp at h)).add 57 (fun
  | [.agg [.bool has, .b8 32 ck, .u64 n, .b8 32 chain, .b8 32 hash], .vec8 _ b] => some (leB hash.length 200 && (leB b.length 800 && (symK has ck n && z88 has ck n hash b)), zwj has ck n chain hash b)
  | _ => none) (by
   intro args pre out h hp
   split at h
   ·obtain ⟨rfl, rfl⟩ := spE h;simp only [Bool.and_eq_true] at hp;exact zz4 _ _ _ _ _ _ _ (zh.1 hp.1) (zh.1 hp.2.1) hp.2.2.1 hp.2.2.2
   ·simp at h)).add 19 (fun
  | [.str s] => some (leB s.length 1000000, .ret (z7b false zk 0 (zt s) (zt s)) [])
  | _ => none) (by
   intro args pre out h hp
   split at h
   ·obtain ⟨rfl, rfl⟩ := spE h;exact z19v _ (zh.1 hp)
   ·simp at h)).add 30 (fun
  | [.agg [.bool has, .b8 32 ck, .u64 n, .b8 32 chain, .b8 32 hash]] => some (leB chain.length 64, .ret (.agg [.bool true, .b8 32 (z28 chain []), .u64 0, .bool true, .b8 32 (z29 chain []), .u64 0]) [])
  | _ => none) (by
   intro args pre out h hp
   split at h
   ·obtain ⟨rfl, rfl⟩ := spE h;exact z18u _ _ _ _ _ (zh.1 hp)
   ·simp at h)
end Go.Proofs.YtehaohfglolljaaGreatDoor
namespace Go.Proofs.YtehaohfglolljaaGreatDoor
open Go Go.V
set_option maxHeartbeats 0
set_option maxRecDepth 100000
theorem z1en (s : List UInt8) (m : Int) (K : AV → Heap → Prop) : walk Tryz.E (ROps.rows Tryz.E) (Ctr.nil Tryz.E).C (fun _ _ => .unroll 17) 5 9 [.str s, .int .i64 m] K = (
 let x0 : Nat := s.length
 let x1 : Int := (x0 : Int)
 let u0 := (Option.some (cond false (Max.max x1 m) (Min.min x1 m)))
 cnd (z1d Option.none u0 x0)
 (K (.str (zx Option.none u0 s)) [])) := by kernel_rfl
theorem z1gs (s : List UInt8) (m : Int) (hm : 0 ≤ m) : HCall Tryz.E 9 [.str s, .int .i64 m] (.ret (.str (s.take m.toNat)) []) := by
 refine HCall.z1lg (R := ROps.rows Tryz.E) (T := Ctr.nil Tryz.E) (fun _ _ => .unroll 17) 5 rfl rfl ?_
 rw [z1en];dsimp only;rw [z1h7 _ _ hm, z1kw _ _ hm];exact ⟨rfl, rfl⟩
def Ucut : Ctr Tryz.E := (Ctr.nil Tryz.E).add 9 (fun
  | [.str s, .int .i64 m] => some (nnB m, .ret (.str (s.take m.toNat)) [])
  | _ => none) (by
   intro args pre out h hp
   split at h
   ·obtain ⟨rfl, rfl⟩ := spE h;exact z1gs _ _ (z3e.1 hp)
   ·simp at h)
end Go.Proofs.YtehaohfglolljaaGreatDoor
namespace Go.Proofs.YtehaohfglolljaaGreatDoor
open Go Go.V Go.Pin
set_option maxHeartbeats 0
set_option maxRecDepth 100000
theorem z1dr (n : Int) (K : AV → Heap → Prop) : walk Tryz.E (ROps.rows Tryz.E) (Ctr.nil Tryz.E).C (fun _ _ => .unroll 34) 5 35 [.int .i64 n] K = (
 let x0 : UInt32 := (UInt32.ofNat (Int.toNat (n % 4294967296)))
 let x1 : UInt8 := (UInt32.toUInt8 (zb1 x0 0))
 let x2 : UInt8 := (UInt32.toUInt8 (zb1 x0 8))
 let x3 : UInt8 := (UInt32.toUInt8 (zb1 x0 16))
 let x4 : UInt8 := (UInt32.toUInt8 (zb1 x0 24))
 K (.b8 32 (List.set (List.set (List.set (List.set (List.set (List.set (List.set (List.set (List.set (List.set (List.set (List.set (List.set (List.set (List.set (List.set (List.set (List.set (List.set (List.set (List.set (List.set (List.set (List.set (List.set (List.set (List.set (List.set (List.set (List.set (List.set (List.set [0, 0, 0, 0, 0, 0, 0, 0, 0, 0, 0, 0, 0, 0, 0, 0, 0, 0, 0, 0, 0, 0, 0, 0, 0, 0, 0, 0, 0, 0, 0, 0] 0 (x1 + 0)) 1 (x2 + 1)) 2 (x3 + 4)) 3 (x4 + 9)) 4 (x1 + 16)) 5 (x2 + 25)) 6 (x3 + 36)) 7 (x4 + 49)) 8 (x1 + 64)) 9 (x2 + 81)) 10 (x3 + 100)) 11 (x4 + 121)) 12 (x1 + 144)) 13 (x2 + 169)) 14 (x3 + 196)) 15 (x4 + 225)) 16 (x1 + 0)) 17 (x2 + 33)) 18 (x3 + 68)) 19 (x4 + 105)) 20 (x1 + 144)) 21 (x2 + 185)) 22 (x3 + 228)) 23 (x4 + 17)) 24 (x1 + 64)) 25 (x2 + 113)) 26 (x3 + 164)) 27 (x4 + 217)) 28 (x1 + 16)) 29 (x2 + 73)) 30 (x3 + 132)) 31 (x4 + 193))) []) := by kernel_rfl
theorem add0 (x : UInt8) : x + 0 = x := UInt8.add_zero x
theorem z1ig (n : Int) : HCall Tryz.E 35 [.int .i64 n] (.ret (.b8 32 (keyS n)) []) := by
 refine HCall.z1lg (R := ROps.rows Tryz.E) (T := Ctr.nil Tryz.E) (fun _ _ => .unroll 34) 5 rfl rfl ?_
 rw [z1dr, zz5];dsimp only;rw [add0];refine ⟨?_, rfl⟩
 kernel_rfl
def zef : Ctr Tryz.E := (Ctr.nil Tryz.E).add 35 (fun
  | [.int .i64 n] => some (true, .ret (.b8 32 (keyS n)) [])
  | _ => none) (by
   intro args pre out h hp
   split at h
   ·obtain ⟨rfl, rfl⟩ := spE h;exact z1ig _
   ·simp at h)
end Go.Proofs.YtehaohfglolljaaGreatDoor
namespace Go.Proofs.YtehaohfglolljaaGreatDoor
open Go Go.V Go.Pat Go.Tm
set_option maxRecDepth 100000
def z1ja (k : Int) : List UInt8 := if k = 0 then [78, 78] else if k = 1 then [78, 75] else if k = 2 then [88, 88] else if k = 3 then [73, 75] else if k = 4 then [88, 75] else [75, 75]
def zgy (k m : Int) : Pat := ze9 (z1ja k) (plL (if k = 2 ∨ k = 4 then 3 else 2) m)
def z4t : Int → Int → Pat := (zf fun n mask => zgy (n % 6) (mask % 16)).val
theorem zp5 (n mask : Int) : z4t n mask = zgy (n % 6) (mask % 16) := by rw [z4t, (zf fun n mask => zgy (n % 6) (mask % 16)).property]
theorem z1al : ((List.range 6).all fun (k : Nat) => (List.range 16).all fun (m : Nat) => zia.contains (zgy (k : Int) (m : Int))) = true := by kernel_rfl
theorem z18x (n mask : Int) : z4t n mask ∈ zia := by
 have h1 := Int.emod_nonneg n (show (6 : Int) ≠ 0 by decide)
 have h2 := Int.emod_lt_of_pos n (show (0 : Int) < 6 by decide)
 have h3 := Int.emod_nonneg mask (show (16 : Int) ≠ 0 by decide)
 have h4 := Int.emod_lt_of_pos mask (show (0 : Int) < 16 by decide)
 rw [zp5];have := List.all_eq_true.1 z1al (n % 6).toNat (List.mem_range.2 (by omega))
 have := List.all_eq_true.1 this (mask % 16).toNat (List.mem_range.2 (by omega))
 rw [Int.toNat_of_nonneg h1, Int.toNat_of_nonneg h3] at this;exact List.contains_iff_mem.1 this
theorem z1eu (p : Pat) : leV (z54 p) (z9w p) :=
 Go.Shk.leV_cells (Go.Shk.RLe.same (Go.Shk.RLe.same (Go.Shk.RLe.cons (Go.Shk.Re.of (a := vL _) rfl (by simp [vL]) rfl rfl (by simp) (Go.Shk.leV_vLI _)) (Go.Shk.RLe.cons (Go.Shk.Re.of (a := vL _) rfl (by simp [vL]) rfl rfl (by simp) (Go.Shk.leV_vLI _)) (Go.Shk.RLe.cons (Go.Shk.Re.of (a := vL _) rfl (by simp [vL]) rfl rfl (by simp) (Go.Shk.leV_vLI _)) (Go.Shk.RLe.cons (Go.Shk.Re.of (a := vLL _) rfl (by simp [vLL]) rfl rfl (by simp) (Go.Shk.leV_vLT _)) (Go.Shk.RLe.refl _)))))))
def zhh (k mask : Int) (K : AV → Heap → Prop) : Nat → Nat → Prop
 | 0, m => K (.tup [z54 (zgy k (m : Nat)), .bool true]) []
 | f + 1, m => za ((mask % 16) == ((m : Nat) : Int)) (K (.tup [z54 (zgy k (m : Nat)), .bool true]) []) (zhh k mask K f (m + 1))
theorem zwf {n mask k m : Int} (hk : n % 6 = k) (hm : mask % 16 = m) : okOut (.ret (.tup [z9w (z4t n mask), .bool true]) []) (.tup [z54 (zgy k m), .bool true]) [] := by
 rw [zp5, hk, hm];exact okOut.cold (v' := .tup [z54 (zgy k m), .bool true]) (u := []) rfl (z80 (z14 (z1eu _) (z14 (leV.refl _) z3t))) rfl ⟨rfl, rfl⟩
theorem zrf {n mask k : Int} (hk : n % 6 = k) : ∀ f m : Nat, m + f = 15 → ((m : Nat) : Int) ≤ mask % 16 → zhh k mask (okOut (.ret (.tup [z9w (z4t n mask), .bool true]) [])) f m
 | 0, m, h, hm => by
  have h4 := Int.emod_lt_of_pos mask (show (0 : Int) < 16 by decide)
  exact zwf hk (by omega)
 | f + 1, m, h, hm => zq.2 ⟨fun e => zwf hk (eq_of_beq e), fun e => zrf hk f (m + 1) (by omega) (by have := ne_of_beq_false e; omega)⟩
theorem z1gx (n mask : Int) (K : AV → Heap → Prop) : walk Tryz.E R2 (zkf D2 0).C (fun _ _ => .unroll 12) 5 12 [.int .i64 n, .int .i64 mask] K = cnd ((n % 6) == 0) (zhh 0 mask K 15 0) := by kernel_rfl
theorem z1gd (n mask : Int) (K : AV → Heap → Prop) : walk Tryz.E R2 (zkf D2 1).C (fun _ _ => .unroll 12) 5 12 [.int .i64 n, .int .i64 mask] K = cnd ((n % 6) == 1) (zhh 1 mask K 15 0) := by kernel_rfl
theorem z1fa (n mask : Int) (K : AV → Heap → Prop) : walk Tryz.E R2 (zkf D2 2).C (fun _ _ => .unroll 12) 5 12 [.int .i64 n, .int .i64 mask] K = cnd ((n % 6) == 2) (zhh 2 mask K 15 0) := by kernel_rfl
theorem z1gb (n mask : Int) (K : AV → Heap → Prop) : walk Tryz.E R2 (zkf D2 3).C (fun _ _ => .unroll 12) 5 12 [.int .i64 n, .int .i64 mask] K = cnd ((n % 6) == 3) (zhh 3 mask K 15 0) := by kernel_rfl
theorem z1hp (n mask : Int) (K : AV → Heap → Prop) : walk Tryz.E R2 (zkf D2 4).C (fun _ _ => .unroll 12) 5 12 [.int .i64 n, .int .i64 mask] K = cnd ((n % 6) == 4) (zhh 4 mask K 15 0) := by kernel_rfl
theorem z1i5 (n mask : Int) (K : AV → Heap → Prop) : walk Tryz.E R2 (zkf D2 5).C (fun _ _ => .unroll 12) 5 12 [.int .i64 n, .int .i64 mask] K = cnd ((n % 6) == 5) (zhh 5 mask K 15 0) := by kernel_rfl
theorem za6 {n mask k : Int} {T : Ctr Tryz.E} (hk : n % 6 = k) (h : ∀ K, walk Tryz.E R2 T.C (fun _ _ => .unroll 12) 5 12 [.int .i64 n, .int .i64 mask] K = cnd ((n % 6) == k) (zhh k mask K 15 0)) :
  HCall Tryz.E 12 [.int .i64 n, .int .i64 mask] (.ret (.tup [z9w (z4t n mask), .bool true]) []) := by
 refine HCall.z1li (R := R2) (T := T) (fun _ _ => .unroll 12) 5 rfl rfl ?_
 rw [h];exact zd.2 ⟨by rw [hk]; exact beq_self_eq_true _, zrf hk 15 0 rfl (Int.emod_nonneg mask (by decide))⟩
theorem zwx (n mask : Int) : HCall Tryz.E 12 [.int .i64 n, .int .i64 mask] (.ret (.tup [z9w (z4t n mask), .bool true]) []) := by
 have h1 := Int.emod_nonneg n (show (6 : Int) ≠ 0 by decide)
 have h2 := Int.emod_lt_of_pos n (show (0 : Int) < 6 by decide)
 have : n % 6 = 0 ∨ n % 6 = 1 ∨ n % 6 = 2 ∨ n % 6 = 3 ∨ n % 6 = 4 ∨ n % 6 = 5 := by omega
 rcases this with h | h | h | h | h | h
 ·exact za6 h (z1gx n mask)
 ·exact za6 h (z1gd n mask)
 ·exact za6 h (z1fa n mask)
 ·exact za6 h (z1gb n mask)
 ·exact za6 h (z1hp n mask)
 ·exact za6 h (z1i5 n mask)
end Go.Proofs.YtehaohfglolljaaGreatDoor