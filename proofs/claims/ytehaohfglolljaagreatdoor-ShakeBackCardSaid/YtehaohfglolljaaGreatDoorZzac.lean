import Derived.Test.YtehaohfglolljaaGreatDoorZzab
import Derived.KernelRfl
import Derived.Test.YtehaohfglolljaaGreatDoorZzas
set_option linter.unusedSimpArgs false
set_option linter.unusedVariables false
namespace Go.Bla
open Go Go.V Go.Cha
def iv : List UInt32 := [0x6a09e667, 0xbb67ae85, 0x3c6ef372, 0xa54ff53a, 0x510e527f, 0x9b05688c, 0x1f83d9ab, 0x5be0cd19]
def ordersL : List Int := [0, 1, 2, 3, 4, 5, 6, 7, 8, 9, 10, 11, 12, 13, 14, 15, 14, 10, 4, 8, 9, 15, 13, 6, 1, 12, 0, 2, 11, 7, 5, 3, 11, 8, 12, 0, 5, 2, 15, 13, 10, 14, 3, 6, 7, 1, 9, 4, 7, 9, 3, 1, 13, 12, 11, 14, 2, 6, 5, 10, 4, 0, 15, 8, 9, 0, 5, 7, 2, 4, 10, 15, 14, 1, 11, 12, 6, 8, 3, 13, 2, 12, 6, 10, 0, 11, 8, 3, 4, 13, 7, 5, 15, 14, 1, 9, 12, 5, 1, 15, 14, 13, 4, 10, 0, 7, 6, 3, 9, 2, 8, 11, 13, 11, 7, 14, 12, 1, 3, 9, 5, 0, 15, 4, 8, 6, 2, 10, 6, 15, 14, 9, 11, 3, 0, 8, 12, 2, 13, 7, 1, 4, 10, 5, 10, 2, 8, 4, 7, 6, 1, 5, 15, 11, 9, 14, 3, 12, 13, 0]
def rowB (n : Nat) : List Int := (ordersL.drop (n * 16)).take 16
def z18z (a b d n m : Nat) (x : UInt32) (l : List UInt32) : List UInt32 :=
 (l.set a (l.getD a 0 + (l.getD b 0 + x))).set d (z4a ((l.set a (l.getD a 0 + (l.getD b 0 + x))).getD d 0 ^^^ (l.set a (l.getD a 0 + (l.getD b 0 + x))).getD a 0) n m)
def z18v (c d b n m : Nat) (l : List UInt32) : List UInt32 :=
 (l.set c (l.getD c 0 + l.getD d 0)).set b (z4a ((l.set c (l.getD c 0 + l.getD d 0)).getD b 0 ^^^ (l.set c (l.getD c 0 + l.getD d 0)).getD c 0) n m)
def zi6 (a b c d : Nat) (x y : UInt32) (l : List UInt32) : List UInt32 := z18v c d b 25 7 (z18z a b d 24 8 y (z18v c d b 20 12 (z18z a b d 16 16 x l)))
def z5l (m : List UInt32) (n i : Nat) : UInt32 := m.getD ((rowB n).getD i 0).toNat 0
def zms (m : List UInt32) (n : Nat) (l : List UInt32) : List UInt32 :=
 zi6 3 4 9 14 (z5l m n 14) (z5l m n 15) (zi6 2 7 8 13 (z5l m n 12) (z5l m n 13) (zi6 1 6 11 12 (z5l m n 10) (z5l m n 11) (zi6 0 5 10 15 (z5l m n 8) (z5l m n 9)
  (zi6 3 7 11 15 (z5l m n 6) (z5l m n 7) (zi6 2 6 10 14 (z5l m n 4) (z5l m n 5) (zi6 1 5 9 13 (z5l m n 2) (z5l m n 3) (zi6 0 4 8 12 (z5l m n 0) (z5l m n 1) l)))))))
def zeq (m v : List UInt32) : Nat → List UInt32
 | 0 => v
 | n + 1 => zms m n (zeq m v n)
noncomputable def z4u : List UInt32 → List UInt32 → Nat → List UInt32 := (zf zeq).val
theorem zbt (m v : List UInt32) (n : Nat) : z4u m v n = zeq m v n := by rw [z4u, (zf zeq).property]
def zyo (b : List UInt8) (i : Nat) : UInt32 := z98 (z98 (z98 (z98 0 8 ||| (b.getD (4 * i + 3) 0).toUInt32) 8 ||| (b.getD (4 * i + 2) 0).toUInt32) 8 ||| (b.getD (4 * i + 1) 0).toUInt32) 8 ||| (b.getD (4 * i) 0).toUInt32
def zaw (b : List UInt8) (n : Nat) : List UInt32 := (List.range 16).map fun i => if i < n then zyo b i else 0
noncomputable def z2p : List UInt8 → Nat → List UInt32 := (zf zaw).val
theorem z8i (b : List UInt8) (n : Nat) : z2p b n = zaw b n := by rw [z2p, (zf zaw).property]
def zdl (v : List UInt32) (i : Nat) (l : List UInt32) : List UInt32 := l.set i (l.getD i 0 ^^^ (v.getD i 0 ^^^ v.getD (8 + i) 0))
def outB (h v : List UInt32) : List UInt32 := zdl v 7 (zdl v 6 (zdl v 5 (zdl v 4 (zdl v 3 (zdl v 2 (zdl v 1 (zdl v 0 h)))))))
def z80 (h : List UInt32) (len : Int) (last : Bool) : List UInt32 :=
 [h.getD 0 0, h.getD 1 0, h.getD 2 0, h.getD 3 0, h.getD 4 0, h.getD 5 0, h.getD 6 0, h.getD 7 0, 0x6a09e667, 0xbb67ae85, 0x3c6ef372, 0xa54ff53a,
  0x510e527f ^^^ UInt32.ofNat (Int.toNat (len % 4294967296)), 0x9b05688c ^^^ UInt32.ofNat (Int.toNat (Int.fdiv len 4294967296 % 4294967296)), cond last (~~~ 0x1f83d9ab) 0x1f83d9ab, 0x5be0cd19]
noncomputable def zgq (h : List UInt32) (held : List UInt8) (len : Int) (last : Bool) : List UInt32 := outB h (zeq (zaw held 16) (z80 h len last) 10)
noncomputable def squeezeS : List UInt32 → List UInt8 → Int → Bool → List UInt32 := (zf zgq).val
theorem zvt (h : List UInt32) (held : List UInt8) (len : Int) (last : Bool) : squeezeS h held len last = zgq h held len last := by rw [squeezeS, (zf zgq).property]
def cB (n i : Nat) : Bool := inB ((rowB n).getD i 0) 16
theorem z1ej : ((List.range 10).all fun r => (List.range 16).all fun i => cB r i) = true := by kernel_rfl
theorem z1h1 {r i : Nat} (hr : r < 10) (hi : i < 16) : cB r i = true := by
 have h := z1ej;rw [List.all_eq_true] at h;have h2 := h r (List.mem_range.2 hr);rw [List.all_eq_true] at h2;exact h2 i (List.mem_range.2 hi)
theorem z10x (b : List UInt8) : z2p b 0 = [0, 0, 0, 0, 0, 0, 0, 0, 0, 0, 0, 0, 0, 0, 0, 0] := by
 rw [z8i]; unfold zaw
 simp only [Nat.not_lt_zero, if_false]; rfl
theorem z13p (b : List UInt8) {n i : Nat} (h : n ≤ i) : (z2p b n).getD i 0 = 0 := by
 rw [z8i]; unfold zaw
 rw [List.getD_eq_getElem?_getD, List.getElem?_map];rcases Nat.lt_or_ge i 16 with hi | hi
 ·rw [List.getElem?_range hi];simp only [Option.map_some, Option.getD_some];rw [if_neg (by omega)]
 ·rw [List.getElem?_eq_none (by simpa using hi)]; rfl
theorem zr4 (b : List UInt8) (n : Nat) : (z2p b n).length = 16 := by rw [z8i]; simp [zaw]
theorem z111 (b : List UInt8) (n : Nat) : (z2p b n).set n (zyo b n) = z2p b (n + 1) := by
 rw [z8i, z8i]; unfold zaw
 apply List.ext_getElem?;intro i;rw [List.getElem?_set, List.getElem?_map, List.getElem?_map]
 by_cases e : n = i
 ·subst e;rw [if_pos rfl];rcases Nat.lt_or_ge n 16 with hi | hi
  ·rw [if_pos (by simpa using hi), List.getElem?_range hi]
   simp
  ·rw [if_neg (by simpa using hi), List.getElem?_eq_none (by simpa using hi)]; rfl
 ·rw [if_neg e];rcases Nat.lt_or_ge i 16 with hi | hi
  ·rw [List.getElem?_range hi];simp only [Option.map_some]
   congr 1
   by_cases h : i < n
   ·rw [if_pos h, if_pos (by omega)]
   ·rw [if_neg h, if_neg (by omega)]
  ·rw [List.getElem?_eq_none (by simpa using hi)]; rfl
theorem rounds_zero (m v : List UInt32) : z4u m v 0 = v := by rw [zbt]; rfl
theorem rounds_succ (m v : List UInt32) (n : Nat) : zms m n (z4u m v n) = z4u m v (n + 1) := by rw [zbt, zbt]; rfl
theorem zba {l : List UInt32} {i : Nat} {x : UInt32} (h : i < l.length) : (l.set i x).getD i 0 = x := by
 rw [List.getD_eq_getElem?_getD, List.getElem?_set, if_pos rfl, if_pos h]; rfl
def zd0 : List UInt8 := List.replicate 64 0
structure BS where
 h : List UInt32
 held : List UInt8
 n : Nat
 len : Nat
noncomputable def zgh (s : BS) (c : UInt8) : BS :=
 if s.n = 64 then ⟨squeezeS s.h s.held (s.len : Int) false, zd0.set 0 c, 1, s.len + 1⟩ else ⟨s.h, s.held.set s.n c, s.n + 1, s.len + 1⟩
noncomputable def zs9 (s : BS) (b : List UInt8) : BS := b.foldl zgh s
noncomputable def addB : BS → List UInt8 → BS := (zf zs9).val
theorem zbz (s : BS) (b : List UInt8) : addB s b = zs9 s b := by rw [addB, (zf zs9).property]
def okP (held : List UInt8) (n len : Int) : Prop := 0 ≤ n ∧ n ≤ 64 ∧ n ≤ len ∧ len ≤ 1073741824 ∧ (len - n) % 64 = 0 ∧ (n = 0 → len = 0) ∧ ∀ i, n.toNat ≤ i → held.getD i 0 = 0
noncomputable def okF (held : List UInt8) (n len : Int) : Bool := @decide (okP held n len) (Classical.propDecidable _)
noncomputable def okS : List UInt8 → Int → Int → Bool := (zf okF).val
theorem z5v {held : List UInt8} {n len : Int} : okS held n len = true ↔ okP held n len := by
 rw [okS, (zf okF).property]; exact @decide_eq_true_iff _ (Classical.propDecidable _)
structure BS.ok (s : BS) : Prop where
 hh : s.held.length = 64
 p : okP s.held (s.n : Int) (s.len : Int)
theorem BS.ok.s {s : BS} (o : s.ok) : okS s.held (s.n : Int) (s.len : Int) = true := z5v.2 o.p
theorem BS.ok.n {s : BS} (o : s.ok) : s.n ≤ 64 := by have := o.p.2.1; omega
theorem BS.ok.l {s : BS} (o : s.ok) : s.len ≤ 1073741824 := by have := o.p.2.2.2.1; omega
theorem zkf (i : Nat) : zd0.getD i 0 = 0 := by
 unfold zd0;rw [List.getD_eq_getElem?_getD, List.getElem?_replicate]
 split <;> rfl
theorem getD_set_ne {l : List UInt8} {i j : Nat} {x : UInt8} (h : i ≠ j) : (l.set i x).getD j 0 = l.getD j 0 := by
 rw [List.getD_eq_getElem?_getD, List.getD_eq_getElem?_getD, List.getElem?_set_ne h]
theorem zps (s : BS) (c : UInt8) : (zgh s c).len = s.len + 1 := by unfold zgh; split <;> rfl
theorem z186 {s : BS} (o : s.ok) (hl : s.len < 1073741824) (c : UInt8) : (zgh s c).ok := by
 obtain ⟨p1, p2, p3, p4, p5, p6, p7⟩ := o.p;unfold zgh
 split
 ·rename_i h;refine ⟨by simp [zd0], by simp, by simp, ?_, ?_, ?_, by simp, fun i hi => ?_⟩
  ·simp only []; omega
  ·simp only []; omega
  ·simp only []; omega
  ·simp only [] at hi ⊢;rw [getD_set_ne (by omega), zkf]
 ·rename_i h;refine ⟨by simpa using o.hh, ?_, ?_, ?_, ?_, ?_, ?_, fun i hi => ?_⟩
  ·simp only []; omega
  ·simp only []; omega
  ·simp only []; omega
  ·simp only []; omega
  ·simp only []; omega
  ·simp only []; omega
  ·simp only [] at hi ⊢;rw [getD_set_ne (by omega)]
   exact p7 i (by omega)
theorem zxu : ∀ {b : List UInt8} {s : BS}, s.ok → s.len + b.length ≤ 1073741824 → (zs9 s b).ok ∧ (zs9 s b).len = s.len + b.length
 | [], s, o, _ => ⟨o, rfl⟩
 | c :: b, s, o, h => by
  rw [List.length_cons] at h;have h1 := z186 o (by omega) c
  have h2 := zxu (b := b) h1 (by rw [zps]; omega)
  rw [zps] at h2;rw [List.length_cons];exact ⟨h2.1, by rw [show s.len + (b.length + 1) = s.len + 1 + b.length by omega]; exact h2.2⟩
theorem zxh {b : List UInt8} {s : BS} (o : s.ok) (h : s.len + b.length ≤ 1073741824) : (addB s b).ok ∧ (addB s b).len = s.len + b.length := by rw [zbz]; exact zxu o h
theorem zw1 (s : BS) (b c : List UInt8) : addB s (b ++ c) = addB (addB s b) c := by
 rw [zbz, zbz, zbz]; exact List.foldl_append
theorem z189 (s : BS) : addB s [] = s := by rw [zbz]; rfl
theorem z13q {s : BS} {b : List UInt8} {i : Nat} (h : i < b.length) : addB s (b.take (i + 1)) = zgh (addB s (b.take i)) (b.getD i 0) := by
 have : b.take (i + 1) = b.take i ++ [b.getD i 0] := by
  rw [List.take_succ_eq_append_getElem h, List.getD_eq_getElem?_getD, List.getElem?_eq_getElem h]; rfl
 rw [this, zw1];generalize addB s (b.take i) = t;rw [zbz]; rfl
def startS : BS := ⟨iv.set 0 1795745351, zd0, 0, 0⟩
theorem zq9 : startS.ok := ⟨by simp [startS, zd0], by decide, by decide, by decide, by decide, by decide, fun _ => rfl, fun i _ => zkf i⟩
def zs4 (h : List UInt32) : List UInt8 := (List.range 32).map fun i => (znf (h.getD (i / 4) 0) (8 * (i % 4))).toUInt8
noncomputable def zdx (s : BS) : List UInt8 := zs4 (squeezeS s.h s.held (s.len : Int) true)
noncomputable def endB : BS → List UInt8 := (zf zdx).val
theorem zxg (s : BS) : endB s = zdx s := by rw [endB, (zf zdx).property]
noncomputable def sumF (b : List UInt8) : List UInt8 := endB (addB startS b)
noncomputable def sumS : List UInt8 → List UInt8 := (zf sumF).val
theorem zxe (b : List UInt8) : sumS b = sumF b := by rw [sumS, (zf sumF).property]
theorem zvo (s : BS) : (endB s).length = 32 := by rw [zxg]; simp [zdx, zs4]
theorem z1l (b : List UInt8) : (sumS b).length = 32 := by rw [zxe]; exact zvo _
end Go.Bla
namespace Go.Fld
open Go Go.V
def z5t : Nat → Nat → List UInt8
 | 0, _ => []
 | k + 1, n => UInt8.ofNat n :: z5t k (n / 256)
theorem zh5 : ∀ (k n : Nat), (z5t k n).length = k
 | 0, _ => rfl
 | k + 1, n => by simp [z5t, zh5 k]
theorem zgv : ∀ (k n : Nat), n < 256 ^ k → leB (z5t k n) = n
 | 0, n, h => by simp at h; subst h; rfl
 | k + 1, n, h => by
  rw [z5t, leB, zgv k _ (by rw [Nat.pow_succ] at h; omega), UInt8.toNat_ofNat']
  omega
theorem z6o (a : UInt64) (k : Nat) (hk : k ≤ 56) : (zd a k).toUInt8 = UInt8.ofNat (a.toNat / 2 ^ k) := by
 apply UInt8.toNat.inj;have h := z1z a;rw [UInt64.toNat_toUInt8, UInt8.toNat_ofNat'];unfold zd;rw [z42, Nat.mod_eq_of_lt (Nat.lt_of_le_of_lt (Nat.div_le_self _ _) h)]
theorem zac (a : UInt64) (k m : Nat) : z5t (k + 8) (a.toNat + 18446744073709551616 * m) =
  (zd a 0).toUInt8 :: (zd a 8).toUInt8 :: (zd a 16).toUInt8 :: (zd a 24).toUInt8 :: (zd a 32).toUInt8 :: (zd a 40).toUInt8 :: (zd a 48).toUInt8 :: (zd a 56).toUInt8 :: z5t k m := by
 have h := z1z a;have e : ∀ x y : Nat, x % 256 = y % 256 → UInt8.ofNat x = UInt8.ofNat y := fun x y hxy => by
  apply UInt8.toNat.inj; rw [UInt8.toNat_ofNat', UInt8.toNat_ofNat']; exact hxy
 simp only [z6o a 0 (by decide), z6o a 8 (by decide), z6o a 16 (by decide), z6o a 24 (by decide), z6o a 32 (by decide), z6o a 40 (by decide), z6o a 48 (by decide), z6o a 56 (by decide)]
 simp only [z5t];rw [show (a.toNat + 18446744073709551616 * m) / 256 / 256 / 256 / 256 / 256 / 256 / 256 / 256 = m by omega]
 simp only [List.cons.injEq, and_true];refine ⟨e _ _ ?_, e _ _ ?_, e _ _ ?_, e _ _ ?_, e _ _ ?_, e _ _ ?_, e _ _ ?_, e _ _ ?_⟩ <;> omega
theorem z12a (a0 a1 a2 a3 : UInt64) : z5t 32 (val a0 a1 a2 a3) = [(zd a0 0).toUInt8, (zd a0 8).toUInt8, (zd a0 16).toUInt8, (zd a0 24).toUInt8, (zd a0 32).toUInt8, (zd a0 40).toUInt8, (zd a0 48).toUInt8, (zd a0 56).toUInt8, (zd a1 0).toUInt8, (zd a1 8).toUInt8, (zd a1 16).toUInt8, (zd a1 24).toUInt8, (zd a1 32).toUInt8, (zd a1 40).toUInt8, (zd a1 48).toUInt8, (zd a1 56).toUInt8, (zd a2 0).toUInt8, (zd a2 8).toUInt8, (zd a2 16).toUInt8, (zd a2 24).toUInt8, (zd a2 32).toUInt8, (zd a2 40).toUInt8, (zd a2 48).toUInt8, (zd a2 56).toUInt8, (zd a3 0).toUInt8, (zd a3 8).toUInt8, (zd a3 16).toUInt8, (zd a3 24).toUInt8, (zd a3 32).toUInt8, (zd a3 40).toUInt8, (zd a3 48).toUInt8, (zd a3 56).toUInt8] := by
 have e : val a0 a1 a2 a3 = a0.toNat + 18446744073709551616 * (a1.toNat + 18446744073709551616 * (a2.toNat + 18446744073709551616 * (a3.toNat + 18446744073709551616 * 0))) := by
  unfold val; omega
 rw [e, show (32 : Nat) = 0 + 8 + 8 + 8 + 8 from rfl, zac, zac, zac, zac]
 rfl
theorem zvb : Go.Num.Pr prm := Go.Num.pr_57896044618658097711785492504343953926634992332820282019728792003956564819949
def nv (l : List UInt64) : Nat := val (l.getD 0 0) (l.getD 1 0) (l.getD 2 0) (l.getD 3 0)
noncomputable def fes : Nat → List UInt64 := (zf fe).val
theorem zex (n : Nat) : fes n = fe n := by rw [fes, (zf fe).property]
theorem za6 {l : List UInt64} (h : l.length = 4) : l = [l.getD 0 0, l.getD 1 0, l.getD 2 0, l.getD 3 0] := by
 match l, h with
 | [a, b, c, d], _ => rfl
theorem z1g5 {l : List UInt64} (h : l.length = 4) : fe (nv l) = l := by
 unfold nv; rw [zt1]; exact (za6 h).symm
theorem zfk {l : List UInt64} (h : l.length = 4) : fes (nv l) = l := by rw [zex, z1g5 h]
theorem z18q (l : List UInt64) : nv l < top := z6b _ _ _ _
theorem z1hj {n : Nat} (h : n < top) : nv (fe n) = n := by
 obtain ⟨a0, a1, a2, a3, rfl⟩ := z14x h;rw [zt1]; rfl
theorem zee {n : Nat} (h : n < top) : nv (fes n) = n := by rw [zex, z1hj h]
theorem zc4 (a0 a1 a2 a3 : UInt64) : fes (val a0 a1 a2 a3) = [a0, a1, a2, a3] := by rw [zex, zt1]
theorem zdm (a0 a1 a2 a3 : UInt64) : nv [a0, a1, a2, a3] = val a0 a1 a2 a3 := rfl
noncomputable def ltN : Nat → Nat → Bool := (zf fun a b => decide (a < b)).val
theorem z2j (a b : Nat) : ltN a b = decide (a < b) := by rw [ltN, (zf fun a b => decide (a < b)).property]
noncomputable def mulhi : UInt64 → UInt64 → UInt64 := (zf fun x y => UInt64.ofNat (x.toNat * y.toNat / 18446744073709551616)).val
theorem zle (x y : UInt64) : mulhi x y = UInt64.ofNat (x.toNat * y.toNat / 18446744073709551616) := by
 rw [mulhi, (zf fun (x y : UInt64) => UInt64.ofNat (x.toNat * y.toNat / 18446744073709551616)).property]
end Go.Fld
namespace Go.Fld
def subT (x y : Nat) : Nat := if x < y then x + top - y else x - y
end Go.Fld
namespace Go.Fld
open Go Go.V
def fromN (b : List UInt8) : Nat := leB b % 57896044618658097711785492504343953926634992332820282019728792003956564819968 % prm
noncomputable def bytesS : Nat → List UInt8 := (zf (z5t 32)).val
theorem zan (n : Nat) : bytesS n = z5t 32 n := by rw [bytesS, (zf (z5t 32)).property]
theorem zh3 (n : Nat) : (bytesS n).length = 32 := by rw [zan, zh5]
theorem mod_lt (n : Nat) : n % prm < prm := Nat.mod_lt _ (by decide)
theorem zxb : prm < top := by decide
theorem z1cd (n : Nat) : n % prm < top := Nat.lt_trans (mod_lt n) zxb
theorem z15j (b : List UInt8) : fromN b < prm := mod_lt _
theorem zfa (n : Nat) : nv (fes (n % prm)) = n % prm := zee (z1cd n)
theorem zjg (n : Nat) : ltN (n % prm) prm = true := by rw [z2j]; exact decide_eq_true (mod_lt n)
theorem zg3 {n : Nat} (h : n < prm) : fromN (bytesS n) = n := by
 have e : prm < 57896044618658097711785492504343953926634992332820282019728792003956564819968 := by decide
 rw [fromN, zan, zgv 32 n (Nat.lt_trans (Nat.lt_trans h e) (by decide)), Nat.mod_eq_of_lt (Nat.lt_trans h e), Nat.mod_eq_of_lt h]
noncomputable def zsp (a : List UInt64) : Nat → List UInt64 → List UInt64
 | 0, out => out
 | k + 1, out => zsp a k (bif k == 4 || k == 2 then fes (nv out * nv out % prm) else fes (nv (fes (nv out * nv out % prm)) * nv a % prm))
theorem z166 : (List.range 255).all (fun i => (prm - 2) / 2 ^ i == 2 * ((prm - 2) / 2 ^ (i + 1)) + if i = 4 ∨ i = 2 then 0 else 1) = true := by kernel_rfl
theorem z1a1 {i : Nat} (h : i < 255) : (prm - 2) / 2 ^ i = 2 * ((prm - 2) / 2 ^ (i + 1)) + if i = 4 ∨ i = 2 then 0 else 1 := by
 have := List.all_eq_true.1 z166 i (by simpa using h)
 simpa using this
theorem zy7 {a : List UInt64} : ∀ (k : Nat) (out : List UInt64), k ≤ 255 → out = fes (nv a ^ ((prm - 2) / 2 ^ k) % prm) → zsp a k out = fes (nv a ^ (prm - 2) % prm)
 | 0, out, _, h => by rw [zsp, h]; simp
 | k + 1, out, hk, h => by
  rw [zsp];refine zy7 k _ (by omega) ?_
  have hb := z1a1 (i := k) (by omega)
  have hn : nv out = nv a ^ ((prm - 2) / 2 ^ (k + 1)) % prm := by rw [h, zfa]
  rw [zfa, hn];generalize nv a = x at *;generalize (prm - 2) / 2 ^ (k + 1) = e at *
  by_cases hc : k = 4 ∨ k = 2
  ·rw [if_pos hc] at hb;have : (k == 4 || k == 2) = true := by simpa using hc
   rw [this, cond_true, hb, ← Nat.mul_mod, Nat.add_zero, ← Nat.pow_add, Nat.two_mul]
  ·rw [if_neg hc] at hb;have : (k == 4 || k == 2) = false := by simpa using hc
   rw [this, cond_false, hb, Nat.mod_mul_mod, Nat.pow_succ, Nat.two_mul, Nat.pow_add]
   congr 1
   rw [Nat.mul_mod (x ^ e % prm * (x ^ e % prm)) x, ← Nat.mul_mod (x ^ e) (x ^ e), ← Nat.mul_mod]
theorem cell (x y o c : UInt64) : ((((x * y) + o) + 0 + c) + 0).toNat + 18446744073709551616 * ((mulhi x y + zg (x * y) o 0) + zg (((x * y) + o) + 0) c 0).toNat = x.toNat * y.toNat + o.toNat + c.toNat := by
 have p0 := z64 (x * y) o 0 (by decide)
 have p1 := z64 (x * y + o + 0) c 0 (by decide)
 have hx := z1z x;have hy := z1z y;have ho := z1z o;have hc := z1z c;have z : (0 : UInt64).toNat = 0 := rfl;rw [z] at p0 p1;have m : (x * y).toNat + 18446744073709551616 * (mulhi x y).toNat = x.toNat * y.toNat := by
  rw [zle, UInt64.toNat_mul, z42];have : x.toNat * y.toNat < 18446744073709551616 * 18446744073709551616 := Nat.mul_lt_mul'' hx hy;omega
 have hm : x.toNat * y.toNat ≤ 18446744073709551615 * 18446744073709551615 := Nat.mul_le_mul (by omega) (by omega)
 generalize x.toNat * y.toNat = w at *;generalize x * y + o + 0 = u at *;generalize zg (x * y) o 0 = k0 at *;generalize x * y = v at *;rw [UInt64.toNat_add (mulhi x y + k0), UInt64.toNat_add (mulhi x y)];generalize zg u c 0 = k1 at *;generalize u + c + 0 = t at *;generalize mulhi x y = h at *;have := z1z t;have := z1z u;omega
noncomputable def z4d {α : Type} (x y o c : UInt64) (k : UInt64 → UInt64 → α) : α := k ((((x * y) + o) + 0 + c) + 0) ((mulhi x y + zg (x * y) o 0) + zg (((x * y) + o) + 0) c 0)
theorem z1r {α : Type} {Q : α → Prop} (x y o c : UInt64) (k : UInt64 → UInt64 → α) (h : ∀ l u, l.toNat + 18446744073709551616 * u.toNat = x.toNat * y.toNat + o.toNat + c.toNat → Q (k l u)) : Q (z4d x y o c k) := h _ _ (cell x y o c)
noncomputable def zf8 (a0 a1 a2 a3 b0 b1 b2 b3 : UInt64) : List UInt64 × UInt64 :=
 z4d a0 b0 0 0 fun l00 c00 =>
 z4d a0 b1 0 c00 fun l01 c01 =>
 z4d a0 b2 0 c01 fun l02 c02 =>
 z4d a0 b3 0 c02 fun l03 c03 =>
 z4d a1 b0 l01 0 fun l10 c10 =>
 z4d a1 b1 l02 c10 fun l11 c11 =>
 z4d a1 b2 l03 c11 fun l12 c12 =>
 z4d a1 b3 c03 c12 fun l13 c13 =>
 z4d a2 b0 l11 0 fun l20 c20 =>
 z4d a2 b1 l12 c20 fun l21 c21 =>
 z4d a2 b2 l13 c21 fun l22 c22 =>
 z4d a2 b3 c13 c22 fun l23 c23 =>
 z4d a3 b0 l21 0 fun l30 c30 =>
 z4d a3 b1 l22 c30 fun l31 c31 =>
 z4d a3 b2 l23 c31 fun l32 c32 =>
 z4d a3 b3 c23 c32 fun l33 c33 =>
 z4d l31 38 l00 0 fun r0 d0 =>
 z4d l32 38 l10 d0 fun r1 d1 =>
 z4d l33 38 l20 d1 fun r2 d2 =>
 z4d c33 38 l30 d2 fun r3 d3 =>
 ([r0, r1, r2, r3], 38 * d3)
def z4c (a0 a1 a2 a3 b0 b1 b2 b3 : UInt64) (z : List UInt64 × UInt64) : Prop := z.2.toNat ≤ 1444 ∧ (nv z.1 + z.2.toNat) % prm = (val a0 a1 a2 a3 * val b0 b1 b2 b3) % prm
theorem z108 (a0 a1 a2 a3 b0 b1 b2 b3 : UInt64) : z4c a0 a1 a2 a3 b0 b1 b2 b3 (zf8 a0 a1 a2 a3 b0 b1 b2 b3) := by
 unfold zf8;refine z1r (Q := z4c a0 a1 a2 a3 b0 b1 b2 b3) _ _ _ _ _ fun l00 c00 e00 => ?_
 refine z1r (Q := z4c a0 a1 a2 a3 b0 b1 b2 b3) _ _ _ _ _ fun l01 c01 e01 => ?_
 refine z1r (Q := z4c a0 a1 a2 a3 b0 b1 b2 b3) _ _ _ _ _ fun l02 c02 e02 => ?_
 refine z1r (Q := z4c a0 a1 a2 a3 b0 b1 b2 b3) _ _ _ _ _ fun l03 c03 e03 => ?_
 refine z1r (Q := z4c a0 a1 a2 a3 b0 b1 b2 b3) _ _ _ _ _ fun l10 c10 e10 => ?_
 refine z1r (Q := z4c a0 a1 a2 a3 b0 b1 b2 b3) _ _ _ _ _ fun l11 c11 e11 => ?_
 refine z1r (Q := z4c a0 a1 a2 a3 b0 b1 b2 b3) _ _ _ _ _ fun l12 c12 e12 => ?_
 refine z1r (Q := z4c a0 a1 a2 a3 b0 b1 b2 b3) _ _ _ _ _ fun l13 c13 e13 => ?_
 refine z1r (Q := z4c a0 a1 a2 a3 b0 b1 b2 b3) _ _ _ _ _ fun l20 c20 e20 => ?_
 refine z1r (Q := z4c a0 a1 a2 a3 b0 b1 b2 b3) _ _ _ _ _ fun l21 c21 e21 => ?_
 refine z1r (Q := z4c a0 a1 a2 a3 b0 b1 b2 b3) _ _ _ _ _ fun l22 c22 e22 => ?_
 refine z1r (Q := z4c a0 a1 a2 a3 b0 b1 b2 b3) _ _ _ _ _ fun l23 c23 e23 => ?_
 refine z1r (Q := z4c a0 a1 a2 a3 b0 b1 b2 b3) _ _ _ _ _ fun l30 c30 e30 => ?_
 refine z1r (Q := z4c a0 a1 a2 a3 b0 b1 b2 b3) _ _ _ _ _ fun l31 c31 e31 => ?_
 refine z1r (Q := z4c a0 a1 a2 a3 b0 b1 b2 b3) _ _ _ _ _ fun l32 c32 e32 => ?_
 refine z1r (Q := z4c a0 a1 a2 a3 b0 b1 b2 b3) _ _ _ _ _ fun l33 c33 e33 => ?_
 refine z1r (Q := z4c a0 a1 a2 a3 b0 b1 b2 b3) _ _ _ _ _ fun r0 d0 f0 => ?_
 refine z1r (Q := z4c a0 a1 a2 a3 b0 b1 b2 b3) _ _ _ _ _ fun r1 d1 f1 => ?_
 refine z1r (Q := z4c a0 a1 a2 a3 b0 b1 b2 b3) _ _ _ _ _ fun r2 d2 f2 => ?_
 refine z1r (Q := z4c a0 a1 a2 a3 b0 b1 b2 b3) _ _ _ _ _ fun r3 d3 f3 => ?_
 obtain ⟨k1, k2, k3⟩ := z1bk (a0 := a0) (a1 := a1) (a2 := a2) (a3 := a3) (b0 := b0) (b1 := b1) (b2 := b2) (b3 := b3) e00 e01 e02 e03 e10 e11 e12 e13 e20 e21 e22 e23 e30 e31 e32 e33 f0 f1 f2 f3;exact ⟨by show (38 * d3).toNat ≤ 1444; omega, by show (nv [r0, r1, r2, r3] + (38 * d3).toNat) % prm = _; rw [zdm, k1]; exact k3⟩
end Go.Fld
namespace Go.Pol
open Go Go.V Go.Fld
def q : Nat := 1361129467683753853853498429727072845819
def v3F (l : List UInt64) : Nat := (l.getD 0 0).toNat + 18446744073709551616 * (l.getD 1 0).toNat + 340282366920938463463374607431768211456 * (l.getD 2 0).toNat
def w3F (n : Nat) : List UInt64 := [UInt64.ofNat n, UInt64.ofNat (n / 18446744073709551616), UInt64.ofNat (n / 340282366920938463463374607431768211456)]
def v2F (l : List UInt64) : Nat := (l.getD 0 0).toNat + 18446744073709551616 * (l.getD 1 0).toNat
noncomputable def v3 : List UInt64 → Nat := (zf v3F).val
noncomputable def w3 : Nat → List UInt64 := (zf w3F).val
noncomputable def v2 : List UInt64 → Nat := (zf v2F).val
theorem z19f (l : List UInt64) : v3 l = v3F l := by rw [v3, (zf v3F).property]
theorem zgd (n : Nat) : w3 n = w3F n := by rw [w3, (zf w3F).property]
theorem z1gn (l : List UInt64) : v2 l = v2F l := by rw [v2, (zf v2F).property]
def ltF (a b : Nat) : Bool := Nat.ble (a + 1) b
noncomputable def ltQ : Nat → Nat → Bool := (zf ltF).val
theorem zev {a b : Nat} : ltQ a b = true ↔ a < b := by
 rw [ltQ, (zf ltF).property]; exact z8o
theorem z7y {a b : Nat} (h : a < b) : ltQ a b = true := zev.2 h
theorem zia {a b : Nat} (h : b ≤ a) : ltQ a b = false := by
 cases e : ltQ a b
 ·rfl
 ·have := zev.1 e; omega
theorem zye {l : List UInt64} (h : l.length = 3) : l = [l.getD 0 0, l.getD 1 0, l.getD 2 0] := by
 match l, h with
 | [a, b, c], _ => rfl
theorem eta2 {l : List UInt64} (h : l.length = 2) : l = [l.getD 0 0, l.getD 1 0] := by
 match l, h with
 | [a, b], _ => rfl
theorem z82 (a b c : UInt64) : v3 [a, b, c] = a.toNat + 18446744073709551616 * b.toNat + 340282366920938463463374607431768211456 * c.toNat := by rw [z19f]; rfl
theorem z18x (a b : UInt64) : v2 [a, b] = a.toNat + 18446744073709551616 * b.toNat := by rw [z1gn]; rfl
theorem z1g8 (n : Nat) : v3 (w3 n) = n % 6277101735386680763835789423207666416102355444464034512896 := by
 rw [zgd]; unfold w3F
 rw [z82];simp only [z42];omega
theorem z55 {n : Nat} (h : n < 6277101735386680763835789423207666416102355444464034512896) : v3 (w3 n) = n := by
 rw [z1g8, Nat.mod_eq_of_lt h]
theorem z11c {a b c : UInt64} {n : Nat} (h : n % 6277101735386680763835789423207666416102355444464034512896 = a.toNat + 18446744073709551616 * b.toNat + 340282366920938463463374607431768211456 * c.toNat) : w3 n = [a, b, c] := by
 have := z1z a; have := z1z b; have := z1z c
 rw [zgd]; unfold w3F
 rw [z87 (a := a) (by omega), z87 (a := b) (by omega), z87 (a := c) (by omega)]
theorem z1h7 (a b c : UInt64) : w3 (v3 [a, b, c]) = [a, b, c] := by
 have := z1z a; have := z1z b; have := z1z c
 apply z11c; rw [z82]; omega
theorem zmk {l : List UInt64} (h : l.length = 3) : w3 (v3 l) = l := by
 rw [zye h, z1h7]
theorem w3_0 (n : Nat) : (w3 n).getD 0 0 = UInt64.ofNat n := by rw [zgd]; rfl
theorem w3_1 (n : Nat) : (w3 n).getD 1 0 = UInt64.ofNat (n / 18446744073709551616) := by rw [zgd]; rfl
theorem w3_2 (n : Nat) : (w3 n).getD 2 0 = UInt64.ofNat (n / 340282366920938463463374607431768211456) := by rw [zgd]; rfl
def zyd (b : List UInt8) : UInt64 := (z2m ((z2m ((z2m ((z2m ((z2m ((z2m ((z2m (0 ||| (UInt8.toUInt64 (List.getD b 7 0))) 8) ||| (UInt8.toUInt64 (List.getD b 6 0))) 8) ||| (UInt8.toUInt64 (List.getD b 5 0))) 8) ||| (UInt8.toUInt64 (List.getD b 4 0))) 8) ||| (UInt8.toUInt64 (List.getD b 3 0))) 8) ||| (UInt8.toUInt64 (List.getD b 2 0))) 8) ||| (UInt8.toUInt64 (List.getD b 1 0))) 8) ||| (UInt8.toUInt64 (List.getD b 0 0))
noncomputable def halfS : List UInt8 → UInt64 := (zf zyd).val
theorem z17z (b : List UInt8) : halfS b = zyd b := by rw [halfS, (zf zyd).property]
theorem and3 (x : UInt64) : (x &&& 3).toNat = x.toNat % 4 := by
 rw [UInt64.toNat_and];exact Nat.and_two_pow_sub_one_eq_mod x.toNat 2
theorem shr2 (x : UInt64) : (zd x 2).toNat = x.toNat / 4 := by
 have := z1z x;unfold zd;rw [z42]; omega
theorem z1h8 (x : UInt64) : (z2m x 62).toNat = 4611686018427387904 * (x.toNat % 4) := by
 have := z1z x;unfold z2m;rw [z42]; omega
theorem join (x y : UInt64) : (zd x 2 ||| z2m y 62).toNat = x.toNat / 4 + 4611686018427387904 * (y.toNat % 4) := by
 have := z1z x;rw [UInt64.toNat_or, shr2, z1h8, Nat.or_comm, show (4611686018427387904 : Nat) = 2 ^ 62 from rfl, ← Nat.two_pow_add_eq_or_of_lt (by omega)]
 omega
theorem zu1 {n : Nat} : (w3 n).set 2 ((w3 n).getD 2 0 &&& 3) = w3 (n % 1361129467683753853853498429727072845824) := by
 symm;have e : (w3 n).set 2 ((w3 n).getD 2 0 &&& 3) = [(w3 n).getD 0 0, (w3 n).getD 1 0, (w3 n).getD 2 0 &&& 3] := by rw [zgd]; rfl
 rw [e];apply z11c;rw [and3, w3_0, w3_1, w3_2, z42, z42, z42];omega
theorem z1he {n : Nat} (h : n < 6277101735386680763835789423207666416102355444464034512896) : (zd ((w3 n).getD 2 0) 2).toNat = n / 1361129467683753853853498429727072845824 := by
 rw [shr2, w3_2, z42]; omega
theorem big3 {n : Nat} (h : n < 6277101735386680763835789423207666416102355444464034512896) : ltI 3 ((((w3 n).getD 2 0).toNat : Nat) : Int) = ltQ 1361129467683753853853498429727072845823 n := by
 rw [w3_2, z42];rcases Nat.lt_or_ge 1361129467683753853853498429727072845823 n with h1 | h1
 ·rw [z7y h1, z5a (by omega)]
 ·rw [zia h1, z4g (by omega)]
theorem z1e4 {x : UInt64} (h : x.toNat < 3689348814741910323) : (5 * x).toNat = 5 * x.toNat := by
 rw [UInt64.toNat_mul, show (5 : UInt64).toNat = 5 from rfl]; omega
theorem z1g9 {a0 a1 a2 r0 r1 l00 c00 l01 c01 l10 c10 l11 c11 l20 c20 l21 c21 : Nat}
  (h0 : l00 + 18446744073709551616 * c00 = a0 * r0 + 0 + 0) (h1 : l01 + 18446744073709551616 * c01 = a0 * r1 + 0 + c00) (h2 : l10 + 18446744073709551616 * c10 = a1 * r0 + l01 + 0)
  (h3 : l11 + 18446744073709551616 * c11 = a1 * r1 + c01 + c10) (h4 : l20 + 18446744073709551616 * c20 = a2 * r0 + l11 + 0) (h5 : l21 + 18446744073709551616 * c21 = a2 * r1 + c11 + c20) :
  l00 + 18446744073709551616 * l10 + 340282366920938463463374607431768211456 * l20 + 6277101735386680763835789423207666416102355444464034512896 * l21 + 115792089237316195423570985008687907853269984665640564039457584007913129639936 * c21 =
   (a0 + 18446744073709551616 * a1 + 340282366920938463463374607431768211456 * a2) * (r0 + 18446744073709551616 * r1) := by
 have e : (a0 + 18446744073709551616 * a1 + 340282366920938463463374607431768211456 * a2) * (r0 + 18446744073709551616 * r1) =
   a0 * r0 + 18446744073709551616 * (a0 * r1 + a1 * r0) + 340282366920938463463374607431768211456 * (a1 * r1 + a2 * r0) + 6277101735386680763835789423207666416102355444464034512896 * (a2 * r1) := by grind
 rw [e];generalize a0 * r0 = p00 at *;generalize a0 * r1 = p01 at *;generalize a1 * r0 = p10 at *;generalize a1 * r1 = p11 at *;generalize a2 * r0 = p20 at *;generalize a2 * r1 = p21 at *;omega
theorem fin {V : Nat} (hV : V < 57896044618658097711785492504343953926634992332820282019728792003956564819968) {L : Nat} (hL : L = V % 1361129467683753853853498429727072845824 + 5 * (V / 1361129467683753853853498429727072845824)) :
  L < 1361129467683753853853498429727072845824 + 340282366920938463463374607431768211456 ∧ (1361129467683753853853498429727072845824 ≤ L → L % 1361129467683753853853498429727072845824 + 5 * (L / 1361129467683753853853498429727072845824) = V % q) ∧
   (L < 1361129467683753853853498429727072845824 → q ≤ L → L + 5 - 1361129467683753853853498429727072845824 = V % q) ∧ (L < q → L = V % q) := by
 unfold q at *;refine ⟨by omega, fun h => ?_, fun h h2 => ?_, fun h => ?_⟩ <;> omega
theorem z1hd {l0 l1 l2 l3 l4 : Nat} (b0 : l0 < 18446744073709551616) (b1 : l1 < 18446744073709551616) : l0 + 18446744073709551616 * l1 + 340282366920938463463374607431768211456 * (l2 % 4) =
  (l0 + 18446744073709551616 * l1 + 340282366920938463463374607431768211456 * l2 + 6277101735386680763835789423207666416102355444464034512896 * l3 + 115792089237316195423570985008687907853269984665640564039457584007913129639936 * l4) % 1361129467683753853853498429727072845824 := by omega
theorem z1h5 {l0 l1 l2 l3 l4 : Nat} (b0 : l0 < 18446744073709551616) (b1 : l1 < 18446744073709551616) :
  l2 / 4 + 4611686018427387904 * (l3 % 4) + 18446744073709551616 * (l3 / 4 + 4611686018427387904 * (l4 % 4)) + 340282366920938463463374607431768211456 * (l4 / 4) =
  (l0 + 18446744073709551616 * l1 + 340282366920938463463374607431768211456 * l2 + 6277101735386680763835789423207666416102355444464034512896 * l3 + 115792089237316195423570985008687907853269984665640564039457584007913129639936 * l4) / 1361129467683753853853498429727072845824 := by omega
theorem z15k {n m : Nat} (h1 : m ≤ n) (h2 : n < 2 * m) : n % m = n - m := by
 rw [Nat.mod_eq_sub_mod h1, Nat.mod_eq_of_lt (by omega)]
set_option maxRecDepth 100000 in
theorem last {h s V : Nat} {y29 y31 y37 y39 : List UInt64} (e28 : h = V / 1361129467683753853853498429727072845824) (e29 : y29 = w3 (v3 (w3 (v3 (w3 (v3 (w3 (v3 (w3 (V % 1361129467683753853853498429727072845824 + h)) + h)) + h)) + h)) + h))
  (e31 : y31 = w3 (v3 (y29.set 2 (y29.getD 2 0 &&& 3)) + v3 [5 * zd (y29.getD 2 0) 2, 0, 0])) (e34 : s = v3 [5, 0, 0]) (e37 : y37 = w3 (v3 y31 + s)) (e39 : y39 = w3 (v3 y29 + s))
  (hV : V < 57896044618658097711785492504343953926634992332820282019728792003956564819968) :
  (ltI 3 (((y29.getD 2 0).toNat : Nat) : Int) = false ∧ ltI 3 (((y39.getD 2 0).toNat : Nat) : Int) = false ∧ y29 = w3 (V % q)) ∨
  (ltI 3 (((y29.getD 2 0).toNat : Nat) : Int) = false ∧ ltI 3 (((y39.getD 2 0).toNat : Nat) : Int) = true ∧ y39.set 2 (y39.getD 2 0 &&& 3) = w3 (V % q)) ∨
  (ltI 3 (((y29.getD 2 0).toNat : Nat) : Int) = true ∧ (ltI 3 (((y31.getD 2 0).toNat : Nat) : Int) = false ∧ ltI 3 (((y37.getD 2 0).toNat : Nat) : Int) = false) ∧ y31 = w3 (V % q)) := by
 have e5 : v3 [5, 0, 0] = 5 := by rw [z82]; rfl
 rw [e5] at e34;subst e34;obtain ⟨g1, g2, g3, g4⟩ := fin hV rfl;have hb := Nat.mod_lt V (show 0 < 1361129467683753853853498429727072845824 by decide)
 have hh : h < 42535295865117307932921825928971026432 := by omega
 have eW : V % q < 1361129467683753853853498429727072845819 := Nat.mod_lt _ (by decide)
 have hq : q = 1361129467683753853853498429727072845819 := rfl;generalize V % q = W at *;rw [← e28] at g1 g2 g3 g4;generalize V % 1361129467683753853853498429727072845824 = u at *;clear e28 hV;rw [z55 (n := u + h) (by omega), z55 (n := u + h + h) (by omega), z55 (n := u + h + h + h) (by omega), z55 (n := u + h + h + h + h) (by omega),
  show u + h + h + h + h + h = u + 5 * h by omega] at e29
 have hL : u + 5 * h < 6277101735386680763835789423207666416102355444464034512896 := by omega
 generalize u + 5 * h = L at *;clear hb hh u h;subst e29;rw [z55 hL] at e39;rw [zu1, z55 (n := L % _) (by omega)] at e31
 rw [big3 hL];subst e37 e39;rw [big3 (n := L + 5) (by omega), zu1]
 rcases Nat.lt_or_ge L 1361129467683753853853498429727072845824 with h | h
 ·rw [zia (b := L) (by omega)]
  rcases Nat.lt_or_ge L q with h2 | h2
  ·exact .inl ⟨rfl, zia (by omega), by rw [g4 h2]⟩
  ·refine .inr (.inl ⟨rfl, z7y (by omega), ?_⟩)
   rw [← g3 h h2];exact congrArg w3 (z15k (by omega) (by omega))
 ·have e6 : v3 [5 * zd ((w3 L).getD 2 0) 2, 0, 0] = 5 * (L / 1361129467683753853853498429727072845824) := by
   have := z1he hL;clear e31 g2 g3 g4;rw [z82, z1e4 (by omega), this, show (0 : UInt64).toNat = 0 from rfl]; omega
  rw [e6, g2 h] at e31;subst e31;refine .inr (.inr ⟨z7y (by omega), ⟨?_, ?_⟩, rfl⟩)
  ·rw [big3 (n := W) (by omega), zia (by omega)]
  ·rw [z55 (n := W) (by omega), big3 (n := W + 5) (by omega), zia (by omega)]
def zeros : List UInt8 := [0, 0, 0, 0, 0, 0, 0, 0, 0, 0, 0, 0, 0, 0, 0, 0]
noncomputable def znh (h : List UInt8) : List UInt64 := (List.set (List.set (List.set [0, 0, 0] 0 (halfS (List.take 8 h))) 1 (halfS (List.drop 8 h))) 2 1)
noncomputable def zda (h : List UInt8) (n : Nat) : Nat :=
 if n < 16 then v3 (List.set (List.set (znh h) 2 0) (n / 8) ((List.getD (List.set (znh h) 2 0) (n / 8) 0) ||| (z2m 1 (8 * (n % 8))))) else v3 (znh h)
noncomputable def part : List UInt8 → Nat → Nat := (zf zda).val
theorem zfd (h : List UInt8) (n : Nat) : part h n = zda h n := by rw [part, (zf zda).property]
theorem zy8 (h : List UInt8) {n : Nat} (hn : n ≤ 16) : part h n < 680564733841876926926749214863536422912 := by
 rw [zfd]; unfold zda znh
 generalize halfS (List.take 8 h) = a;generalize halfS (List.drop 8 h) = b;have ha := z1z a; have hb := z1z b
 split
 ·rename_i h1;rcases Nat.lt_or_ge n 8 with h2 | h2
  ·rw [show n / 8 = 0 by omega]
   show v3 [a ||| z2m 1 (8 * (n % 8)), b, 0] < _;have := z1z (a ||| z2m 1 (8 * (n % 8)));rw [z82, show (0 : UInt64).toNat = 0 from rfl]; omega
  ·rw [show n / 8 = 1 by omega]
   show v3 [a, b ||| z2m 1 (8 * (n % 8)), 0] < _;have := z1z (b ||| z2m 1 (8 * (n % 8)));rw [z82, show (0 : UInt64).toNat = 0 from rfl]; omega
 ·show v3 [a, b, 1] < _;rw [z82, show (1 : UInt64).toNat = 1 from rfl]; omega
structure PS where
 a : Nat
 h : List UInt8
 n : Nat
noncomputable def soakN (r : Nat) (a : Nat) (h : List UInt8) (n : Nat) : Nat := (a + part h n) * r % q
theorem z17l (r a : Nat) (h : List UInt8) (n : Nat) : soakN r a h n < q := Nat.mod_lt _ (by decide)
noncomputable def zjj (r : Nat) (s : PS) (c : UInt8) : PS :=
 if s.n = 15 then ⟨soakN r s.a (s.h.set s.n c) 16, zeros, 0⟩ else ⟨s.a, s.h.set s.n c, s.n + 1⟩
noncomputable def zl2 (r : Nat) (s : PS) (b : List UInt8) : PS := b.foldl (zjj r) s
structure PS.ok (s : PS) : Prop where
 a : s.a < q
 h : s.h.length = 16
 n : s.n < 16
 z : ∀ i, s.n ≤ i → s.h.getD i 0 = 0
theorem znc (i : Nat) : zeros.getD i 0 = 0 := by
 rw [show zeros = List.replicate 16 0 from rfl, List.getD_eq_getElem?_getD, List.getElem?_replicate]
 split <;> rfl
theorem getD_set_ne {l : List UInt8} {i j : Nat} {x : UInt8} (h : i ≠ j) : (l.set i x).getD j 0 = l.getD j 0 := by
 rw [List.getD_eq_getElem?_getD, List.getD_eq_getElem?_getD, List.getElem?_set_ne h]
theorem z16r {r : Nat} {s : PS} (o : s.ok) (c : UInt8) : (zjj r s c).ok := by
 unfold zjj
 split
 ·exact ⟨z17l .., rfl, Nat.succ_pos 15, fun i _ => znc i⟩
 ·rename_i h;have := o.n;refine ⟨o.a, by simpa using o.h, by show s.n + 1 < 16; omega, fun i hi => ?_⟩
  have hi : s.n + 1 ≤ i := hi;show (s.h.set s.n c).getD i 0 = 0;rw [getD_set_ne (by omega)]
  exact o.z i (by omega)
theorem z1cf {r : Nat} {b : List UInt8} : ∀ {s : PS}, s.ok → (zl2 r s b).ok := by
 induction b with
 | nil => exact fun o => o
 | cons c b ih => exact fun o => ih (z16r o c)
theorem zwa (r : Nat) (s : PS) (b c : List UInt8) : zl2 r s (b ++ c) = zl2 r (zl2 r s b) c := List.foldl_append
def okP (r a : List UInt64) (h : List UInt8) (n : Int) : Prop :=
 ((r.getD 0 0) &&& 17293822586014138368).toNat = 0 ∧ ((r.getD 1 0) &&& 17293822586014138371).toNat = 0 ∧ v3 a < q ∧ 0 ≤ n ∧ n < 16 ∧ ∀ i, n.toNat ≤ i → h.getD i 0 = 0
noncomputable def okF (r a : List UInt64) (h : List UInt8) (n : Int) : Bool := @decide (okP r a h n) (Classical.propDecidable _)
noncomputable def okS : List UInt64 → List UInt64 → List UInt8 → Int → Bool := (zf okF).val
theorem z5v {r a : List UInt64} {h : List UInt8} {n : Int} : okS r a h n = true ↔ okP r a h n := by
 rw [okS, (zf okF).property]; exact @decide_eq_true_iff _ (Classical.propDecidable _)
theorem z1fc {r : List UInt64} {s : PS} (o : s.ok) (h0 : ((r.getD 0 0) &&& 17293822586014138368).toNat = 0) (h1 : ((r.getD 1 0) &&& 17293822586014138371).toNat = 0) : okS r (w3 s.a) s.h ((s.n : Nat) : Int) = true := by
 have ha := o.a;unfold q at ha;exact z5v.2 ⟨h0, h1, by rw [z55 (by omega)]; exact o.a, by omega, by have := o.n; omega, fun i hi => o.z i (by simpa using hi)⟩
theorem z1gb {x : UInt64} (h : (x &&& 17293822586014138371).toNat = 0) : x.toNat < 1152921504606846976 := by
 rw [UInt64.toNat_and, show (17293822586014138371 : UInt64).toNat = 17293822586014138371 from rfl] at h
 have h2 : (x.toNat &&& 17293822586014138371) / 2 ^ 60 = x.toNat / 2 ^ 60 &&& 17293822586014138371 / 2 ^ 60 := Nat.and_div_two_pow;rw [h, show 17293822586014138371 / 2 ^ 60 = 2 ^ 4 - 1 from rfl, Nat.and_two_pow_sub_one_eq_mod] at h2
 have := z1z x;omega
theorem okP.r2 {r a : List UInt64} {h : List UInt8} {n : Int} (o : okP r a h n) (hr : r.length = 2) : v2 r < 21267647932558653966460912964485513216 := by
 have h1 := z1gb o.2.1;rw [eta2 hr, z18x];have := z1z (r.getD 0 0);omega
theorem z1gu {l : List UInt8} (h : l.length = 16) : l = [l.getD 0 0, l.getD 1 0, l.getD 2 0, l.getD 3 0, l.getD 4 0, l.getD 5 0, l.getD 6 0, l.getD 7 0, l.getD 8 0, l.getD 9 0, l.getD 10 0, l.getD 11 0, l.getD 12 0, l.getD 13 0, l.getD 14 0, l.getD 15 0] := by
 match l, h with
 | [_, _, _, _, _, _, _, _, _, _, _, _, _, _, _, _], _ => rfl
end Go.Pol
namespace Go.Fld
open Go.V
structure Rg where
 x0 : Nat
 x1 : Nat
 z0 : Nat
 z1 : Nat
def addm (a b : Nat) : Nat := (a + b) % prm
def subm (a b : Nat) : Nat := (a + prm - b) % prm
def mulm (a b : Nat) : Nat := a * b % prm
def Rg.swap (r : Rg) : Rg := ⟨r.x1, r.x0, r.z1, r.z0⟩
def Rg.swapB (b : Bool) (r : Rg) : Rg := match b with
 | true => r.swap
 | false => r
def Rg.step (u : Nat) (r : Rg) : Rg :=
 let a := addm r.x0 r.z0
 let b := subm r.x0 r.z0
 let c := addm r.x1 r.z1
 let d := subm r.x1 r.z1
 let aa := mulm a a
 let bb := mulm b b
 let e := subm aa bb
 let da := mulm d a
 let cb := mulm c b
 let s := addm da cb
 let t := subm da cb
 ⟨mulm aa bb, mulm s s, mulm e (addm aa (mulm 121665 e)), mulm u (mulm t t)⟩
def z3w (k : List UInt8) (i : Nat) : Bool := ((k.getD (i / 8) 0).toNat / 2 ^ (i % 8)) % 2 == 1
def lastB (k : List UInt8) : Nat → Bool
 | 0 => false
 | n + 1 => z3w k (254 - n)
def lad (k : List UInt8) (u : Nat) : Nat → Rg
 | 0 => ⟨1, u, 0, 1⟩
 | n + 1 => ((lad k u n).swapB (lastB k n ^^ z3w k (254 - n))).step u
def zf3 (k : List UInt8) (u : Nat) : Rg := (lad k u 255).swapB (lastB k 255)
def z2n (k : List UInt8) (u : Nat) : Nat :=
 let r := zf3 k u
 mulm r.x0 (r.z0 ^ (prm - 2) % prm)
def clampB (k : List UInt8) : List UInt8 := (k.set 0 ((k.getD 0 0) &&& 248)).set 31 (((k.getD 31 0) &&& 127) ||| 64)
def Rg.lt (r : Rg) : Prop := r.x0 < prm ∧ r.x1 < prm ∧ r.z0 < prm ∧ r.z1 < prm
theorem Rg.lt_step (u : Nat) (r : Rg) : (r.step u).lt := ⟨mod_lt _, mod_lt _, mod_lt _, mod_lt _⟩
theorem zi7 (k : List UInt8) {u : Nat} (hu : u < prm) : ∀ n, (lad k u n).lt
 | 0 => ⟨(by decide : 1 < prm), hu, (by decide : 0 < prm), (by decide : 1 < prm)⟩
 | n + 1 => Rg.lt_step _ _
theorem z158 {k : List UInt8} (h : k.length = 32) : (clampB k).getD 31 0 = (k.getD 31 0 &&& 127) ||| 64 := by
 simp [clampB, List.getD_eq_getElem?_getD, List.getElem?_set, h]
theorem z1bv {k : List UInt8} (h : k.length = 32) : (clampB k).getD 0 0 = k.getD 0 0 &&& 248 := by
 simp [clampB, List.getD_eq_getElem?_getD, List.getElem?_set, h]
end Go.Fld
namespace Go.Fld
open Go.V Go.Num
def zjw (u x0 x1 z0 z1 : Nat) (k : Nat → Nat → Nat → Nat → Rg) : Rg :=
 force (addm x0 z0) fun a => force (subm x0 z0) fun bb => force (addm x1 z1) fun c => force (subm x1 z1) fun d =>
 force (mulm a a) fun aa => force (mulm bb bb) fun b2 => force (subm aa b2) fun e => force (mulm d a) fun da => force (mulm c bb) fun cb =>
 force (addm da cb) fun s => force (subm da cb) fun t =>
 force (mulm aa b2) fun p0 => force (mulm s s) fun p1 => force (mulm e (addm aa (mulm 121665 e))) fun q0 => force (mulm u (mulm t t)) fun q1 => k p0 p1 q0 q1
theorem z17y (u x0 x1 z0 z1 : Nat) (k : Nat → Nat → Nat → Nat → Rg) : zjw u x0 x1 z0 z1 k =
  k (Rg.step u ⟨x0, x1, z0, z1⟩).x0 (Rg.step u ⟨x0, x1, z0, z1⟩).x1 (Rg.step u ⟨x0, x1, z0, z1⟩).z0 (Rg.step u ⟨x0, x1, z0, z1⟩).z1 := by
 rw [zjw]; simp only [force_eq, Rg.step]
def zfp (k : List UInt8) (u : Nat) : Nat → Bool → Nat → Nat → Nat → Nat → Rg
 | 0, last, x0, x1, z0, z1 => Rg.swapB last ⟨x0, x1, z0, z1⟩
 | j + 1, last, y0, y1, w0, w1 =>
  match z3w k j with
  | true => match last with
   | true => zjw u y0 y1 w0 w1 (zfp k u j true)
   | false => zjw u y1 y0 w1 w0 (zfp k u j true)
  | false => match last with
   | true => zjw u y1 y0 w1 w0 (zfp k u j false)
   | false => zjw u y0 y1 w0 w1 (zfp k u j false)
theorem zww (k : List UInt8) (u : Nat) : ∀ (j n : Nat), n + j = 255 → zfp k u j (lastB k n) (lad k u n).x0 (lad k u n).x1 (lad k u n).z0 (lad k u n).z1 = zf3 k u
 | 0, n, h => by
  obtain rfl : n = 255 := by omega
  rw [zfp, zf3]
 | j + 1, n, h => by
  have hb : 254 - n = j := by omega
  have ih := zww k u j (n + 1) (by omega)
  have hl : lastB k (n + 1) = z3w k j := by rw [lastB, hb]
  have hn : lad k u (n + 1) = ((lad k u n).swapB (lastB k n ^^ z3w k j)).step u := by rw [lad, hb]
  rw [hl, hn] at ih
  conv => lhs; unfold zfp
  generalize lad k u n = r at *;cases hk : z3w k j <;> cases hq : lastB k n <;> rw [hk, hq] at ih <;> simp only [z17y] <;> exact ih
end Go.Fld
namespace Go.Edw
open Go.Fld
instance : NeZero prm := ⟨by decide⟩
abbrev F := Fin prm
instance decF (a b : F) : Decidable (a = b) := instDecidableEqFin prm a b
def inj (n : Nat) : F := Fin.ofNat prm n
theorem z2g (n : Nat) : (inj n).val = n % prm := rfl
theorem z15e (a : F) : inj a.val = a := by apply Fin.ext; rw [z2g, Nat.mod_eq_of_lt a.isLt]
theorem zt4 {a b : Nat} (ha : a < prm) (hb : b < prm) (h : inj a = inj b) : a = b := by
 have := congrArg Fin.val h;rw [z2g, z2g, Nat.mod_eq_of_lt ha, Nat.mod_eq_of_lt hb] at this;exact this
theorem z1bz (a : Nat) : inj (a % prm) = inj a := by apply Fin.ext; rw [z2g, z2g, Nat.mod_mod]
theorem zwo (a b : Nat) : inj (addm a b) = inj a + inj b := by
 apply Fin.ext; rw [z2g, Fin.val_add, z2g, z2g, addm, Nat.mod_mod, ← Nat.add_mod]
theorem zor (a b : Nat) : inj (mulm a b) = inj a * inj b := by
 apply Fin.ext; rw [z2g, Fin.val_mul, z2g, z2g, mulm, Nat.mod_mod, ← Nat.mul_mod]
theorem zot (a : Nat) {b : Nat} (hb : b < prm) : inj (subm a b) = inj a - inj b := by
 have h : inj (subm a b) + inj b = inj a := by
  rw [← zwo, addm, subm, z1bz];apply Fin.ext; rw [z2g, z2g, Nat.mod_add_mod, show a + prm - b + b = a + prm by omega, Nat.add_mod_right]
 rw [← h]; grind
theorem z6r : inj 0 = 0 := rfl
theorem zx4 : inj 1 = 1 := rfl
theorem zj1 {a : F} (h : a ≠ 0) : ¬ prm ∣ a.val := by
 intro hd;have h2 : a.val ≠ 0 := fun e => h (Fin.ext e)
 have := Nat.le_of_dvd (by omega) hd
 have := a.isLt;omega
theorem dom {a b : F} (h : a * b = 0) : a = 0 ∨ b = 0 := by
 have h1 := congrArg Fin.val h;rw [Fin.val_mul] at h1;have h2 : prm ∣ a.val * b.val := Nat.dvd_of_mod_eq_zero h1;rcases zvb.dvd_mul h2 with h3 | h3
 ·left; refine Classical.byContradiction fun hn => zj1 hn h3
 ·right; refine Classical.byContradiction fun hn => zj1 hn h3
theorem z2d {a b : F} (ha : a ≠ 0) (hb : b ≠ 0) : a * b ≠ 0 := fun h => (dom h).elim ha hb
theorem z78 {a b c : F} (hc : c ≠ 0) (h : a * c = b * c) : a = b := by
 have : (a - b) * c = 0 := by grind
 rcases dom this with h | h
 ·grind
 ·exact absurd h hc
theorem zcn : (2 : F) ≠ 0 := by decide +kernel
def inv (a : F) : F := inj (a.val ^ (prm - 2) % prm)
theorem z5p {a : F} (h : a ≠ 0) : a * inv a = 1 := by
 have hf := Go.Num.fermat1 zvb (zj1 h);obtain ⟨e, he, he'⟩ : ∃ e, prm - 2 = e ∧ prm - 1 = e + 1 := ⟨prm - 2, rfl, rfl⟩;rw [inv, he];rw [he'] at hf;apply Fin.ext;rw [Fin.val_mul, z2g, Nat.mod_mod, Nat.mul_mod_mod, Nat.mul_comm, ← Nat.pow_succ];exact hf
theorem zcx : inv 0 = 0 := by
 obtain ⟨e, he⟩ : ∃ e, prm - 2 = e + 1 := ⟨prm - 3, rfl⟩;rw [inv, he];apply Fin.ext;rw [z2g];show (0 ^ (e + 1) % prm) % prm = 0;rw [Nat.pow_succ, Nat.mul_zero, Nat.zero_mod, Nat.zero_mod]
set_option maxHeartbeats 0
theorem z1f3 (d x1 x2 x3 y1 y2 y3 : F) (h1 : x1*x1+y1*y1-1-d*x1*x1*y1*y1 = 0) (h2 : x2*x2+y2*y2-1-d*x2*x2*y2*y2 = 0) (h3 : x3*x3+y3*y3-1-d*x3*x3*y3*y3 = 0) :
  ((x1*y2+x2*y1)*(1-(d*x1*x2*y1*y2))*y3+(y1*y2-x1*x2)*(1+(d*x1*x2*y1*y2))*x3) * (1-(d*x2*x3*y2*y3)*(d*x2*x3*y2*y3)+d*(x2*y3+x3*y2)*(y2*y3-x2*x3)*x1*y1) = (x1*(y2*y3-x2*x3)*(1+(d*x2*x3*y2*y3))+y1*(x2*y3+x3*y2)*(1-(d*x2*x3*y2*y3))) * (1-(d*x1*x2*y1*y2)*(d*x1*x2*y1*y2)+d*(x1*y2+x2*y1)*(y1*y2-x1*x2)*x3*y3) := by
 have h : ((x1*y2+x2*y1)*(1-(d*x1*x2*y1*y2))*y3+(y1*y2-x1*x2)*(1+(d*x1*x2*y1*y2))*x3) * (1-(d*x2*x3*y2*y3)*(d*x2*x3*y2*y3)+d*(x2*y3+x3*y2)*(y2*y3-x2*x3)*x1*y1) - (x1*(y2*y3-x2*x3)*(1+(d*x2*x3*y2*y3))+y1*(x2*y3+x3*y2)*(1-(d*x2*x3*y2*y3))) * (1-(d*x1*x2*y1*y2)*(d*x1*x2*y1*y2)+d*(x1*y2+x2*y1)*(y1*y2-x1*x2)*x3*y3) =
  (d*d*x1*x2*x2*x2*x2*x3*x3*y2*y2*y2*y3 - d*d*x1*x2*x2*x2*x3*y2*y2*y2*y2*y3*y3 + d*d*x2*x2*x2*x2*x3*y1*y2*y2*y2*y3*y3 + d*d*x2*x2*x2*x3*x3*y1*y2*y2*y2*y2*y3 - d*x1*x2*x2*x2*x2*x3*x3*y2*y3 - d*x1*x2*x2*x2*x3*x3*x3*y2*y2 + d*x1*x2*x2*x2*x3*y2*y2 + d*x1*x2*x2*y2*y2*y2*y3*y3*y3 - d*x1*x2*x2*y2*y2*y2*y3 + d*x1*x2*x3*y2*y2*y2*y2*y3*y3 - d*x2*x2*x2*x2*x3*y1*y2*y3*y3 + d*x2*x2*x2*y1*y2*y2*y3*y3*y3 - d*x2*x2*x2*y1*y2*y2*y3 + d*x2*x2*x3*x3*x3*y1*y2*y2*y2 - d*x2*x2*x3*y1*y2*y2*y2 - d*x2*x3*x3*y1*y2*y2*y2*y2*y3) * (x1*x1+y1*y1-1-d*x1*x1*y1*y1)
  + (0 - d*d*x1*x1*x2*x2*x3*x3*x3*y1*y2*y3*y3 - d*d*x1*x1*x2*x3*x3*y1*y2*y2*y3*y3*y3 - d*d*x1*x2*x2*x3*x3*y1*y1*y2*y3*y3*y3 + d*d*x1*x2*x3*x3*x3*y1*y1*y2*y2*y3*y3 + d*x1*x1*x1*x2*x2*x3*x3*y2*y3 + d*x1*x1*x1*x2*x3*x3*x3*y3*y3 - d*x1*x1*x1*x2*x3*y2*y2*y3*y3 - d*x1*x1*x1*x3*x3*y2*y3*y3*y3 + d*x1*x1*x2*x2*x3*y1*y2*y3*y3 + d*x1*x1*x2*x3*x3*y1*y2*y2*y3 - d*x1*x1*x2*x3*x3*y1*y3*y3*y3 - d*x1*x1*x3*x3*x3*y1*y2*y3*y3 + d*x1*x2*x2*x3*x3*y1*y1*y2*y3 - d*x1*x2*x2*x3*x3*y2*y3 + d*x1*x2*x3*x3*x3*y1*y1*y3*y3 - d*x1*x2*x3*x3*x3*y3*y3 - d*x1*x2*x3*y1*y1*y2*y2*y3*y3 + d*x1*x2*x3*y2*y2*y3*y3 - d*x1*x3*x3*y1*y1*y2*y3*y3*y3 + d*x1*x3*x3*y2*y3*y3*y3 + d*x2*x2*x3*y1*y1*y1*y2*y3*y3 - d*x2*x2*x3*y1*y2*y3*y3 + d*x2*x3*x3*y1*y1*y1*y2*y2*y3 - d*x2*x3*x3*y1*y1*y1*y3*y3*y3 - d*x2*x3*x3*y1*y2*y2*y3 + d*x2*x3*x3*y1*y3*y3*y3 - d*x3*x3*x3*y1*y1*y1*y2*y3*y3 + d*x3*x3*x3*y1*y2*y3*y3 - x1*x1*x1*x2*x3*x3*x3 - x1*x1*x1*x2*x3*y3*y3 + x1*x1*x1*x2*x3 + x1*x1*x1*x3*x3*y2*y3 + x1*x1*x1*y2*y3*y3*y3 - x1*x1*x1*y2*y3 + x1*x1*x2*x3*x3*y1*y3 + x1*x1*x2*y1*y3*y3*y3 - x1*x1*x2*y1*y3 + x1*x1*x3*x3*x3*y1*y2 + x1*x1*x3*y1*y2*y3*y3 - x1*x1*x3*y1*y2 - x1*x2*x3*x3*x3*y1*y1 + x1*x2*x3*x3*x3 - x1*x2*x3*y1*y1*y3*y3 + x1*x2*x3*y1*y1 + x1*x2*x3*y3*y3 - x1*x2*x3 + x1*x3*x3*y1*y1*y2*y3 - x1*x3*x3*y2*y3 + x1*y1*y1*y2*y3*y3*y3 - x1*y1*y1*y2*y3 - x1*y2*y3*y3*y3 + x1*y2*y3 + x2*x3*x3*y1*y1*y1*y3 - x2*x3*x3*y1*y3 + x2*y1*y1*y1*y3*y3*y3 - x2*y1*y1*y1*y3 - x2*y1*y3*y3*y3 + x2*y1*y3 + x3*x3*x3*y1*y1*y1*y2 - x3*x3*x3*y1*y2 + x3*y1*y1*y1*y2*y3*y3 - x3*y1*y1*y1*y2 - x3*y1*y2*y3*y3 + x3*y1*y2) * (x2*x2+y2*y2-1-d*x2*x2*y2*y2)
  + (d*x1*x1*x2*x2*x3*y1*y2 + d*x1*x1*x2*y1*y2*y2*y3 + d*x1*x2*x2*y1*y1*y2*y3 - d*x1*x2*x3*y1*y1*y2*y2 + x1*x1*x1*x2*x2*x2*x3 - x1*x1*x1*x2*x2*y2*y3 + x1*x1*x1*x2*x3*y2*y2 - x1*x1*x1*x2*x3 - x1*x1*x1*y2*y2*y2*y3 + x1*x1*x1*y2*y3 - x1*x1*x2*x2*x2*y1*y3 - x1*x1*x2*x2*x3*y1*y2 - x1*x1*x2*y1*y2*y2*y3 + x1*x1*x2*y1*y3 - x1*x1*x3*y1*y2*y2*y2 + x1*x1*x3*y1*y2 + x1*x2*x2*x2*x3*y1*y1 - x1*x2*x2*x2*x3 - x1*x2*x2*y1*y1*y2*y3 + x1*x2*x2*y2*y3 + x1*x2*x3*y1*y1*y2*y2 - x1*x2*x3*y1*y1 - x1*x2*x3*y2*y2 + x1*x2*x3 - x1*y1*y1*y2*y2*y2*y3 + x1*y1*y1*y2*y3 + x1*y2*y2*y2*y3 - x1*y2*y3 - x2*x2*x2*y1*y1*y1*y3 + x2*x2*x2*y1*y3 - x2*x2*x3*y1*y1*y1*y2 + x2*x2*x3*y1*y2 - x2*y1*y1*y1*y2*y2*y3 + x2*y1*y1*y1*y3 + x2*y1*y2*y2*y3 - x2*y1*y3 - x3*y1*y1*y1*y2*y2*y2 + x3*y1*y1*y1*y2 + x3*y1*y2*y2*y2 - x3*y1*y2) * (x3*x3+y3*y3-1-d*x3*x3*y3*y3) := by grind
 rw [h1, h2, h3] at h
 grind
theorem z1cn (d x1 x2 x3 y1 y2 y3 : F) (h1 : x1*x1+y1*y1-1-d*x1*x1*y1*y1 = 0) (h2 : x2*x2+y2*y2-1-d*x2*x2*y2*y2 = 0) (h3 : x3*x3+y3*y3-1-d*x3*x3*y3*y3 = 0) :
  ((y1*y2-x1*x2)*(1+(d*x1*x2*y1*y2))*y3-(x1*y2+x2*y1)*(1-(d*x1*x2*y1*y2))*x3) * (1-(d*x2*x3*y2*y3)*(d*x2*x3*y2*y3)-d*(x2*y3+x3*y2)*(y2*y3-x2*x3)*x1*y1) = (y1*(y2*y3-x2*x3)*(1+(d*x2*x3*y2*y3))-x1*(x2*y3+x3*y2)*(1-(d*x2*x3*y2*y3))) * (1-(d*x1*x2*y1*y2)*(d*x1*x2*y1*y2)-d*(x1*y2+x2*y1)*(y1*y2-x1*x2)*x3*y3) := by
 have h : ((y1*y2-x1*x2)*(1+(d*x1*x2*y1*y2))*y3-(x1*y2+x2*y1)*(1-(d*x1*x2*y1*y2))*x3) * (1-(d*x2*x3*y2*y3)*(d*x2*x3*y2*y3)-d*(x2*y3+x3*y2)*(y2*y3-x2*x3)*x1*y1) - (y1*(y2*y3-x2*x3)*(1+(d*x2*x3*y2*y3))-x1*(x2*y3+x3*y2)*(1-(d*x2*x3*y2*y3))) * (1-(d*x1*x2*y1*y2)*(d*x1*x2*y1*y2)-d*(x1*y2+x2*y1)*(y1*y2-x1*x2)*x3*y3) =
  (0 - d*d*x1*x2*x2*x2*x2*x3*y2*y2*y2*y3*y3 - d*d*x1*x2*x2*x2*x3*x3*y2*y2*y2*y2*y3 + d*d*x2*x2*x2*x2*x3*x3*y1*y2*y2*y2*y3 - d*d*x2*x2*x2*x3*y1*y2*y2*y2*y2*y3*y3 + d*x1*x2*x2*x2*x2*x3*y2*y3*y3 - d*x1*x2*x2*x2*y2*y2*y3*y3*y3 + d*x1*x2*x2*x2*y2*y2*y3 - d*x1*x2*x2*x3*x3*x3*y2*y2*y2 + d*x1*x2*x2*x3*y2*y2*y2 + d*x1*x2*x3*x3*y2*y2*y2*y2*y3 - d*x2*x2*x2*x2*x3*x3*y1*y2*y3 - d*x2*x2*x2*x3*x3*x3*y1*y2*y2 + d*x2*x2*x2*x3*y1*y2*y2 + d*x2*x2*y1*y2*y2*y2*y3*y3*y3 - d*x2*x2*y1*y2*y2*y2*y3 + d*x2*x3*y1*y2*y2*y2*y2*y3*y3) * (x1*x1+y1*y1-1-d*x1*x1*y1*y1)
  + (0 - d*d*x1*x1*x2*x2*x3*x3*y1*y2*y3*y3*y3 + d*d*x1*x1*x2*x3*x3*x3*y1*y2*y2*y3*y3 + d*d*x1*x2*x2*x3*x3*x3*y1*y1*y2*y3*y3 + d*d*x1*x2*x3*x3*y1*y1*y2*y2*y3*y3*y3 - d*x1*x1*x1*x2*x2*x3*y2*y3*y3 - d*x1*x1*x1*x2*x3*x3*y2*y2*y3 + d*x1*x1*x1*x2*x3*x3*y3*y3*y3 + d*x1*x1*x1*x3*x3*x3*y2*y3*y3 + d*x1*x1*x2*x2*x3*x3*y1*y2*y3 + d*x1*x1*x2*x3*x3*x3*y1*y3*y3 - d*x1*x1*x2*x3*y1*y2*y2*y3*y3 - d*x1*x1*x3*x3*y1*y2*y3*y3*y3 - d*x1*x2*x2*x3*y1*y1*y2*y3*y3 + d*x1*x2*x2*x3*y2*y3*y3 - d*x1*x2*x3*x3*y1*y1*y2*y2*y3 + d*x1*x2*x3*x3*y1*y1*y3*y3*y3 + d*x1*x2*x3*x3*y2*y2*y3 - d*x1*x2*x3*x3*y3*y3*y3 + d*x1*x3*x3*x3*y1*y1*y2*y3*y3 - d*x1*x3*x3*x3*y2*y3*y3 + d*x2*x2*x3*x3*y1*y1*y1*y2*y3 - d*x2*x2*x3*x3*y1*y2*y3 + d*x2*x3*x3*x3*y1*y1*y1*y3*y3 - d*x2*x3*x3*x3*y1*y3*y3 - d*x2*x3*y1*y1*y1*y2*y2*y3*y3 + d*x2*x3*y1*y2*y2*y3*y3 - d*x3*x3*y1*y1*y1*y2*y3*y3*y3 + d*x3*x3*y1*y2*y3*y3*y3 - x1*x1*x1*x2*x3*x3*y3 - x1*x1*x1*x2*y3*y3*y3 + x1*x1*x1*x2*y3 - x1*x1*x1*x3*x3*x3*y2 - x1*x1*x1*x3*y2*y3*y3 + x1*x1*x1*x3*y2 - x1*x1*x2*x3*x3*x3*y1 - x1*x1*x2*x3*y1*y3*y3 + x1*x1*x2*x3*y1 + x1*x1*x3*x3*y1*y2*y3 + x1*x1*y1*y2*y3*y3*y3 - x1*x1*y1*y2*y3 - x1*x2*x3*x3*y1*y1*y3 + x1*x2*x3*x3*y3 - x1*x2*y1*y1*y3*y3*y3 + x1*x2*y1*y1*y3 + x1*x2*y3*y3*y3 - x1*x2*y3 - x1*x3*x3*x3*y1*y1*y2 + x1*x3*x3*x3*y2 - x1*x3*y1*y1*y2*y3*y3 + x1*x3*y1*y1*y2 + x1*x3*y2*y3*y3 - x1*x3*y2 - x2*x3*x3*x3*y1*y1*y1 + x2*x3*x3*x3*y1 - x2*x3*y1*y1*y1*y3*y3 + x2*x3*y1*y1*y1 + x2*x3*y1*y3*y3 - x2*x3*y1 + x3*x3*y1*y1*y1*y2*y3 - x3*x3*y1*y2*y3 + y1*y1*y1*y2*y3*y3*y3 - y1*y1*y1*y2*y3 - y1*y2*y3*y3*y3 + y1*y2*y3) * (x2*x2+y2*y2-1-d*x2*x2*y2*y2)
  + (d*x1*x1*x2*x2*y1*y2*y3 - d*x1*x1*x2*x3*y1*y2*y2 - d*x1*x2*x2*x3*y1*y1*y2 - d*x1*x2*y1*y1*y2*y2*y3 + x1*x1*x1*x2*x2*x2*y3 + x1*x1*x1*x2*x2*x3*y2 + x1*x1*x1*x2*y2*y2*y3 - x1*x1*x1*x2*y3 + x1*x1*x1*x3*y2*y2*y2 - x1*x1*x1*x3*y2 + x1*x1*x2*x2*x2*x3*y1 - x1*x1*x2*x2*y1*y2*y3 + x1*x1*x2*x3*y1*y2*y2 - x1*x1*x2*x3*y1 - x1*x1*y1*y2*y2*y2*y3 + x1*x1*y1*y2*y3 + x1*x2*x2*x2*y1*y1*y3 - x1*x2*x2*x2*y3 + x1*x2*x2*x3*y1*y1*y2 - x1*x2*x2*x3*y2 + x1*x2*y1*y1*y2*y2*y3 - x1*x2*y1*y1*y3 - x1*x2*y2*y2*y3 + x1*x2*y3 + x1*x3*y1*y1*y2*y2*y2 - x1*x3*y1*y1*y2 - x1*x3*y2*y2*y2 + x1*x3*y2 + x2*x2*x2*x3*y1*y1*y1 - x2*x2*x2*x3*y1 - x2*x2*y1*y1*y1*y2*y3 + x2*x2*y1*y2*y3 + x2*x3*y1*y1*y1*y2*y2 - x2*x3*y1*y1*y1 - x2*x3*y1*y2*y2 + x2*x3*y1 - y1*y1*y1*y2*y2*y2*y3 + y1*y1*y1*y2*y3 + y1*y2*y2*y2*y3 - y1*y2*y3) * (x3*x3+y3*y3-1-d*x3*x3*y3*y3) := by grind
 rw [h1, h2, h3] at h
 grind
def NS (d : F) : Prop := ∀ s t : F, d * (s * s) = t * t → s = 0
@[ext] structure Pt (d : F) where
 x : F
 y : F
 on : x*x+y*y-1-d*x*x*y*y = 0
theorem z13c {d x1 y1 x2 y2 t : F} (ns : NS d) (h1 : x1*x1+y1*y1-1-d*x1*x1*y1*y1 = 0) (h2 : x2*x2+y2*y2-1-d*x2*x2*y2*y2 = 0) (ht : t = d*x1*x2*y1*y2) (h : t * t = 1) : False := by
 have a1 : d * ((x1*y1*(x2+y2)) * (x1*y1*(x2+y2))) = (x1+t*y1) * (x1+t*y1) := by
  have e1 : d * ((x1*y1*(x2+y2)) * (x1*y1*(x2+y2))) = d*x1*x1*y1*y1*(x2*x2+y2*y2) + 2*x1*y1*(d*x1*x2*y1*y2) := by grind
  have e2 : x2*x2+y2*y2 = 1 + d*x2*x2*y2*y2 := by grind
  have e3 : d*x1*x1*y1*y1*(1 + d*x2*x2*y2*y2) = d*x1*x1*y1*y1 + (d*x1*x2*y1*y2)*(d*x1*x2*y1*y2) := by grind
  rw [e1, e2, e3, ← ht, h];have e4 : (x1+t*y1) * (x1+t*y1) = x1*x1 + (t*t)*(y1*y1) + 2*x1*y1*t := by grind
  rw [e4, h]
  grind
 have a2 : d * ((x1*y1*(x2-y2)) * (x1*y1*(x2-y2))) = (x1-t*y1) * (x1-t*y1) := by
  have e1 : d * ((x1*y1*(x2-y2)) * (x1*y1*(x2-y2))) = d*x1*x1*y1*y1*(x2*x2+y2*y2) - 2*x1*y1*(d*x1*x2*y1*y2) := by grind
  have e2 : x2*x2+y2*y2 = 1 + d*x2*x2*y2*y2 := by grind
  have e3 : d*x1*x1*y1*y1*(1 + d*x2*x2*y2*y2) = d*x1*x1*y1*y1 + (d*x1*x2*y1*y2)*(d*x1*x2*y1*y2) := by grind
  rw [e1, e2, e3, ← ht, h];have e4 : (x1-t*y1) * (x1-t*y1) = x1*x1 + (t*t)*(y1*y1) - 2*x1*y1*t := by grind
  rw [e4, h]
  grind
 have b1 := ns _ _ a1;have b2 := ns _ _ a2;have b3 : 2 * t = 0 := by
  have : 2 * t = (x1*y1*(x2+y2) + x1*y1*(x2-y2)) * (d * y2) := by rw [ht]; grind
  rw [this, b1, b2]; grind
 rcases dom b3 with hh | hh
 ·exact zcn hh
 ·rw [hh] at h;have h01 : (0 : F) = 1 := by grind
  exact absurd (congrArg Fin.val h01) (by decide +kernel)
section
variable {d : F} (ns : NS d)
 include ns
theorem ze0 (P Q : Pt d) : 1 + d*P.x*Q.x*P.y*Q.y ≠ 0 := fun h => z13c ns P.on Q.on rfl (by
 have e : d*P.x*Q.x*P.y*Q.y = -1 := by grind
 rw [e]; grind)
theorem zcy (P Q : Pt d) : 1 - d*P.x*Q.x*P.y*Q.y ≠ 0 := fun h => z13c ns P.on Q.on rfl (by
 have e : d*P.x*Q.x*P.y*Q.y = 1 := by grind
 rw [e]; grind)
end
theorem z1g6 (d X Y p q : F) : (X*X+Y*Y-1-d*X*X*Y*Y) * ((p*p)*(q*q)) = X * p * (X * p) * (q * q) + Y * q * (Y * q) * (p * p) - p * p * (q * q) - d * (X * p * (X * p)) * (Y * q * (Y * q)) := by grind
theorem z1gs (a b z : F) (h : z = 0) : a * z + b * z = z := by grind
theorem mul0 (a b : F) : a * 0 + b * 0 = 0 := z1gs a b 0 rfl
theorem z1ez {d x1 x2 y1 y2 X Y : F} (h1 : x1*x1+y1*y1-1-d*x1*x1*y1*y1 = 0) (h2 : x2*x2+y2*y2-1-d*x2*x2*y2*y2 = 0)
  (hX : X * (1 + d*x1*x2*y1*y2) = x1*y2+x2*y1) (hY : Y * (1 - d*x1*x2*y1*y2) = y1*y2-x1*x2) :
  (X*X+Y*Y-1-d*X*X*Y*Y) * (((1 + d*x1*x2*y1*y2) * (1 + d*x1*x2*y1*y2)) * ((1 - d*x1*x2*y1*y2) * (1 - d*x1*x2*y1*y2))) = 0 := by
 have h : (x1*y2+x2*y1) * (x1*y2+x2*y1) * ((1 - d*x1*x2*y1*y2) * (1 - d*x1*x2*y1*y2)) + (y1*y2-x1*x2) * (y1*y2-x1*x2) * ((1 + d*x1*x2*y1*y2) * (1 + d*x1*x2*y1*y2))
   - ((1 + d*x1*x2*y1*y2) * (1 + d*x1*x2*y1*y2)) * ((1 - d*x1*x2*y1*y2) * (1 - d*x1*x2*y1*y2)) - d * ((x1*y2+x2*y1) * (x1*y2+x2*y1)) * ((y1*y2-x1*x2) * (y1*y2-x1*x2)) =
  (d*d*d*x1*x1*x2*x2*x2*x2*y1*y1*y2*y2*y2*y2 + d*d*x1*x1*x2*x2*x2*x2*y2*y2*y2*y2 + d*d*x2*x2*x2*x2*y1*y1*y2*y2*y2*y2 - d*d*x2*x2*x2*x2*y2*y2*y2*y2 - d*x1*x1*x2*x2*x2*x2*y2*y2 - d*x1*x1*x2*x2*y2*y2*y2*y2 - d*x2*x2*x2*x2*y1*y1*y2*y2 + 2*d*x2*x2*x2*x2*y2*y2*y2*y2 - d*x2*x2*y1*y1*y2*y2*y2*y2 - 2*d*x2*x2*y2*y2 - 2*x2*x2*x2*x2*y2*y2 + x2*x2*x2*x2 - 2*x2*x2*y2*y2*y2*y2 + 4*x2*x2*y2*y2 + y2*y2*y2*y2) * (x1*x1+y1*y1-1-d*x1*x1*y1*y1)
  + (d*x1*x1*x1*x1*x2*x2*y2*y2 - 2*d*x1*x1*x2*x2*y2*y2 + d*x2*x2*y1*y1*y1*y1*y2*y2 - 2*d*x2*x2*y1*y1*y2*y2 + d*x2*x2*y2*y2 + 2*x1*x1*x2*x2*y2*y2 - x1*x1*x2*x2 - x1*x1*y2*y2 + 2*x2*x2*y1*y1*y2*y2 - x2*x2*y1*y1 - 2*x2*x2*y2*y2 + x2*x2 - y1*y1*y2*y2 + y2*y2 + 1) * (x2*x2+y2*y2-1-d*x2*x2*y2*y2) := by grind
 rw [h1, h2, ← hX, ← hY] at h;generalize 1 + d*x1*x2*y1*y2 = p at *;generalize 1 - d*x1*x2*y1*y2 = q at *;rw [z1g6, h, mul0]
def add {d : F} (ns : NS d) (P Q : Pt d) : Pt d where
 x := (P.x*Q.y+Q.x*P.y) * inv (1 + d*P.x*Q.x*P.y*Q.y)
 y := (P.y*Q.y-P.x*Q.x) * inv (1 - d*P.x*Q.x*P.y*Q.y)
 on := by
  have m1 := z5p (ze0 ns P Q);have m2 := z5p (zcy ns P Q);have h := z1ez (X := (P.x*Q.y+Q.x*P.y) * inv (1 + d*P.x*Q.x*P.y*Q.y)) (Y := (P.y*Q.y-P.x*Q.x) * inv (1 - d*P.x*Q.x*P.y*Q.y)) P.on Q.on
   (by generalize inv (1 + d*P.x*Q.x*P.y*Q.y) = i at *; generalize 1 + d*P.x*Q.x*P.y*Q.y = p at *; generalize P.x*Q.y+Q.x*P.y = n; grind)
   (by generalize inv (1 - d*P.x*Q.x*P.y*Q.y) = i at *; generalize 1 - d*P.x*Q.x*P.y*Q.y = p at *; generalize P.y*Q.y-P.x*Q.x = n; grind)
  rcases dom h with h | h
  ·exact h
  ·exact absurd h (z2d (z2d (ze0 ns P Q) (ze0 ns P Q)) (z2d (zcy ns P Q) (zcy ns P Q)))
section
variable {d : F} (ns : NS d)
theorem zag (P Q : Pt d) : (add ns P Q).x * (1 + d*P.x*Q.x*P.y*Q.y) = P.x*Q.y+Q.x*P.y := by
 have m1 := z5p (ze0 ns P Q);show (P.x*Q.y+Q.x*P.y) * inv (1 + d*P.x*Q.x*P.y*Q.y) * (1 + d*P.x*Q.x*P.y*Q.y) = _;generalize inv (1 + d*P.x*Q.x*P.y*Q.y) = i at *; generalize 1 + d*P.x*Q.x*P.y*Q.y = p at *; generalize P.x*Q.y+Q.x*P.y = n; grind
theorem z7d (P Q : Pt d) : (add ns P Q).y * (1 - d*P.x*Q.x*P.y*Q.y) = P.y*Q.y-P.x*Q.x := by
 have m2 := z5p (zcy ns P Q);show (P.y*Q.y-P.x*Q.x) * inv (1 - d*P.x*Q.x*P.y*Q.y) * (1 - d*P.x*Q.x*P.y*Q.y) = _;generalize inv (1 - d*P.x*Q.x*P.y*Q.y) = i at *; generalize 1 - d*P.x*Q.x*P.y*Q.y = p at *; generalize P.y*Q.y-P.x*Q.x = n; grind
theorem zf0 {P Q R : Pt d} (hx : R.x * (1 + d*P.x*Q.x*P.y*Q.y) = P.x*Q.y+Q.x*P.y) (hy : R.y * (1 - d*P.x*Q.x*P.y*Q.y) = P.y*Q.y-P.x*Q.x) : add ns P Q = R :=
 Pt.ext (z78 (ze0 ns P Q) ((zag ns P Q).trans hx.symm)) (z78 (zcy ns P Q) ((z7d ns P Q).trans hy.symm))
theorem add_comm (P Q : Pt d) : add ns P Q = add ns Q P := by
 apply zf0
 ·have := zag ns Q P;rw [show d*P.x*Q.x*P.y*Q.y = d*Q.x*P.x*Q.y*P.y by grind, this]; grind
 ·have := z7d ns Q P;rw [show d*P.x*Q.x*P.y*Q.y = d*Q.x*P.x*Q.y*P.y by grind, this]; grind
theorem z19e {d t N M X12 Y12 x3 y3 X : F} (h1 : X12 * (1 + t) = N) (h2 : Y12 * (1 - t) = M) (h : X * (1 + d*X12*x3*Y12*y3) = X12*y3+x3*Y12) :
  X * (1-t*t+d*N*M*x3*y3) = N*(1-t)*y3+M*(1+t)*x3 ∧ 1-t*t+d*N*M*x3*y3 = ((1 + t) * (1 - t)) * (1 + d*X12*x3*Y12*y3) := by
 subst h1; subst h2
 have e : 1-t*t+d*(X12 * (1 + t))*(Y12 * (1 - t))*x3*y3 = ((1 + t) * (1 - t)) * (1 + d*X12*x3*Y12*y3) := by grind
 refine ⟨?_, e⟩;rw [e];have : X * (((1 + t) * (1 - t)) * (1 + d*X12*x3*Y12*y3)) = ((1 + t) * (1 - t)) * (X * (1 + d*X12*x3*Y12*y3)) := by grind
 rw [this, h]; grind
theorem z18w {d t N M X12 Y12 x3 y3 Y : F} (h1 : X12 * (1 + t) = N) (h2 : Y12 * (1 - t) = M) (h : Y * (1 - d*X12*x3*Y12*y3) = Y12*y3-X12*x3) :
  Y * (1-t*t-d*N*M*x3*y3) = M*(1+t)*y3-N*(1-t)*x3 ∧ 1-t*t-d*N*M*x3*y3 = ((1 + t) * (1 - t)) * (1 - d*X12*x3*Y12*y3) := by
 subst h1; subst h2
 have e : 1-t*t-d*(X12 * (1 + t))*(Y12 * (1 - t))*x3*y3 = ((1 + t) * (1 - t)) * (1 - d*X12*x3*Y12*y3) := by grind
 refine ⟨?_, e⟩;rw [e];have : Y * (((1 + t) * (1 - t)) * (1 - d*X12*x3*Y12*y3)) = ((1 + t) * (1 - t)) * (Y * (1 - d*X12*x3*Y12*y3)) := by grind
 rw [this, h]; grind
theorem add_assoc (P Q R : Pt d) : add ns (add ns P Q) R = add ns P (add ns Q R) := by
 have n1 := z2d (ze0 ns P Q) (zcy ns P Q);have n2 := z2d (ze0 ns Q R) (zcy ns Q R);apply Pt.ext
 ·obtain ⟨a1, a2⟩ := z19e (zag ns P Q) (z7d ns P Q) (zag ns (add ns P Q) R);obtain ⟨b1, b2⟩ := z19e (zag ns Q R) (z7d ns Q R) (zag ns (add ns Q R) P);have h := z1f3 d P.x Q.x R.x P.y Q.y R.y P.on Q.on R.on;have z1 := z2d n1 (ze0 ns (add ns P Q) R);have z2 := z2d n2 (ze0 ns (add ns Q R) P);rw [← a2] at z1;rw [← b2] at z2;rw [add_comm ns P (add ns Q R)];generalize (add ns (add ns P Q) R).x = X at *;generalize (add ns (add ns Q R) P).x = Y at *;apply z78 (z2d z1 z2);generalize hB : 1-(d*P.x*Q.x*P.y*Q.y)*(d*P.x*Q.x*P.y*Q.y)+d*(P.x*Q.y+Q.x*P.y)*(P.y*Q.y-P.x*Q.x)*R.x*R.y = B at *;generalize hB2 : 1-(d*Q.x*R.x*Q.y*R.y)*(d*Q.x*R.x*Q.y*R.y)+d*(Q.x*R.y+R.x*Q.y)*(Q.y*R.y-Q.x*R.x)*P.x*P.y = B2 at *;have s1 : X * (B * B2) = (X * B) * B2 := by grind
  have s2 : Y * (B * B2) = (Y * B2) * B := by grind
  rw [s1, s2, a1, b1, h]
  grind
 ·obtain ⟨a1, a2⟩ := z18w (zag ns P Q) (z7d ns P Q) (z7d ns (add ns P Q) R);obtain ⟨b1, b2⟩ := z18w (zag ns Q R) (z7d ns Q R) (z7d ns (add ns Q R) P);have h := z1cn d P.x Q.x R.x P.y Q.y R.y P.on Q.on R.on;have z1 := z2d n1 (zcy ns (add ns P Q) R);have z2 := z2d n2 (zcy ns (add ns Q R) P);rw [← a2] at z1;rw [← b2] at z2;rw [add_comm ns P (add ns Q R)];generalize (add ns (add ns P Q) R).y = X at *;generalize (add ns (add ns Q R) P).y = Y at *;apply z78 (z2d z1 z2);generalize hB : 1-(d*P.x*Q.x*P.y*Q.y)*(d*P.x*Q.x*P.y*Q.y)-d*(P.x*Q.y+Q.x*P.y)*(P.y*Q.y-P.x*Q.x)*R.x*R.y = B at *;generalize hB2 : 1-(d*Q.x*R.x*Q.y*R.y)*(d*Q.x*R.x*Q.y*R.y)-d*(Q.x*R.y+R.x*Q.y)*(Q.y*R.y-Q.x*R.x)*P.x*P.y = B2 at *;have s1 : X * (B * B2) = (X * B) * B2 := by grind
  have s2 : Y * (B * B2) = (Y * B2) * B := by grind
  rw [s1, s2, a1, b1, h]
  grind
theorem z1fu (d z o : F) (hz : z = 0) (ho : o = 1) : z*z+o*o-1-d*z*z*o*o = 0 := by grind
def nul (d : F) : Pt d := ⟨0, 1, z1fu d 0 1 rfl rfl⟩
def neg (P : Pt d) : Pt d := ⟨-P.x, P.y, by have := P.on; grind⟩
theorem zc5 (P : Pt d) : add ns P (nul d) = P := by
 apply zf0 <;> simp only [nul] <;> grind
theorem zx6 (P : Pt d) : add ns P (neg P) = nul d := by
 have := P.on;apply zf0 <;> simp only [nul, neg] <;> grind
def z1m (P : Pt d) : Nat → Pt d
 | 0 => nul d
 | n + 1 => add ns (z1m P n) P
theorem z5z (P : Pt d) (m : Nat) : ∀ n, z1m ns P (m + n) = add ns (z1m ns P m) (z1m ns P n)
 | 0 => by rw [z1m, zc5, Nat.add_zero]
 | n + 1 => by rw [← Nat.add_assoc, z1m, z1m, z5z P m n, add_assoc]
theorem zhw (P : Pt d) (m : Nat) : ∀ n, z1m ns P (m * n) = z1m ns (z1m ns P m) n
 | 0 => rfl
 | n + 1 => by rw [Nat.mul_succ, z5z, zhw P m n, z1m]
end
def Rep {d : F} (P : Pt d) (X Z : F) : Prop := X * (1 - P.y) = Z * (1 + P.y) ∧ ¬ (X = 0 ∧ Z = 0)
theorem zpx {d : F} {P : Pt d} {X Z : F} (h : Rep P X Z) : Rep P (-X) (-Z) := by
 refine ⟨by have := h.1; grind, fun hz => h.2 ⟨by have := hz.1; grind, by have := hz.2; grind⟩⟩
def dx (X Z : F) : F := ((X+Z)*(X+Z)) * ((X-Z)*(X-Z))
def dz (c X Z : F) : F := ((X+Z)*(X+Z) - (X-Z)*(X-Z)) * ((X+Z)*(X+Z) + c * ((X+Z)*(X+Z) - (X-Z)*(X-Z)))
def sx (X0 Z0 X1 Z1 : F) : F := ((X1-Z1)*(X0+Z0) + (X1+Z1)*(X0-Z0)) * ((X1-Z1)*(X0+Z0) + (X1+Z1)*(X0-Z0))
def sz (u X0 Z0 X1 Z1 : F) : F := u * (((X1-Z1)*(X0+Z0) - (X1+Z1)*(X0-Z0)) * ((X1-Z1)*(X0+Z0) - (X1+Z1)*(X0-Z0)))
theorem z1e1 (X Z : F) : dx (-X) Z = dx X Z := by unfold dx; grind
theorem z1df (c X Z : F) : dz (-1-c) (-X) Z = -dz c X Z := by unfold dz; grind
theorem z1dt (X0 Z0 X1 Z1 : F) : sx (-X0) Z0 (-X1) Z1 = sx X0 Z0 X1 Z1 := by unfold sx; grind
theorem z1dr (u X0 Z0 X1 Z1 : F) : sz (-u) (-X0) Z0 (-X1) Z1 = -sz u X0 Z0 X1 Z1 := by unfold sz; grind
theorem z19i (X Z h : F) (hh : 2 * h = 1) : (X + Z) * h * 2 = X + Z := by
 have : (X + Z) * h * 2 = (X + Z) * (2 * h) := by grind
 rw [this, hh]; grind
theorem z10p {d : F} {P : Pt d} {X Z : F} (h : Rep P X Z) : ∃ l, l ≠ 0 ∧ X = l*(1+P.y) ∧ Z = l*(1-P.y) := by
 have hh := z5p zcn;obtain ⟨h1, h2⟩ := h;have h3 := z19i X Z (inv 2) hh;generalize (X + Z) * inv 2 = l at h3;generalize P.y = y at *;have e1 : X = l*(1+y) := by
  apply z78 zcn;have : l*(1+y)*2 = (l*2)*(1+y) := by grind
  rw [this, h3]; grind
 have e2 : Z = l*(1-y) := by
  apply z78 zcn;have : l*(1-y)*2 = (l*2)*(1-y) := by grind
  rw [this, h3]; grind
 refine ⟨l, fun hl => h2 ?_, e1, e2⟩
 subst hl;exact ⟨by rw [e1]; grind, by rw [e2]; grind⟩
theorem dx_l (l y : F) : dx (l*(1+y)) (l*(1-y)) = 16*l*l*l*l*y*y := by unfold dx; grind
theorem dz_l (c l y : F) : dz c (l*(1+y)) (l*(1-y)) = 16*l*l*l*l*(1-y*y)*(1+c*(1-y*y)) := by unfold dz; grind
theorem z1e8 (d c x y : F) : ((1+c*(1-y*y))*(1-x*x) - y*y) * (1-d*y*y) = (x*x+y*y-1-d*x*x*y*y) * (-(1+c*(1-y*y))) + (c - d*(1+c)) * (y*y*(1-y*y)) := by grind
theorem z1bu {d c x y : F} (on : x*x+y*y-1-d*x*x*y*y = 0) (hc : d*(1+c) = c) (hn : 1-d*y*y ≠ 0) : (1+c*(1-y*y))*(1-x*x) = y*y := by
 have h := z1e8 d c x y;rw [on, hc] at h;have h' : ((1+c*(1-y*y))*(1-x*x) - y*y) * (1-d*y*y) = 0 := by rw [h]; grind
 rcases dom h' with h | h
 ·grind
 ·exact absurd h hn
theorem z1e6 (L c x y y2 D : F) (h1 : (1-y2)*D = 2-2*y*y) (h2 : (1+y2)*D = 2-2*x*x) (key : (1+c*(1-y*y))*(1-x*x) = y*y) :
  (L*y*y*(1-y2)) * D = (L*(1-y*y)*(1+c*(1-y*y))*(1+y2)) * D := by
 have e1 : (L*y*y*(1-y2)) * D = L*y*y*((1-y2)*D) := by grind
 have e2 : (L*(1-y*y)*(1+c*(1-y*y))*(1+y2)) * D = L*(1-y*y)*(1+c*(1-y*y))*((1+y2)*D) := by grind
 have e3 : L*(1-y*y)*(1+c*(1-y*y))*(2-2*x*x) = 2*(L*(1-y*y)*((1+c*(1-y*y))*(1-x*x))) := by grind
 rw [e1, e2, h1, h2, e3, key]; grind
theorem zlr : (1 : F) ≠ 0 := by decide +kernel
theorem zfj {a : F} (h : a * a = 0) : a = 0 := (dom h).elim id id
theorem z1g4 : (1 : F) - 1 * 1 = 0 := by decide +kernel
theorem n16 : (16 : F) ≠ 0 := by decide +kernel
theorem zxj {d : F} (ns : NS d) {c : F} (hc : d*(1+c) = c) {P : Pt d} {X Z : F} (h : Rep P X Z) : Rep (add ns P P) (dx X Z) (dz c X Z) := by
 obtain ⟨l, hl, rfl, rfl⟩ := z10p h;have hy := z7d ns P P;have hD := zcy ns P P;have on := P.on;unfold Rep;generalize (add ns P P).y = y2 at *;have hn : 1-d*P.y*P.y ≠ 0 := by
  intro h0;have h5 : P.y = 0 := ns P.y 1 (by grind)
  have h6 : 1 = P.y * (d * P.y) := by clear h5; grind
  rw [h5, Fin.zero_mul] at h6;exact zlr h6
 have key := z1bu on hc hn;rw [dx_l, dz_l];refine ⟨?_, ?_⟩
 ·apply z78 hD;refine z1e6 _ c P.x P.y y2 _ ?_ ?_ key
  ·have : (1-y2)*(1-d*P.x*P.x*P.y*P.y) = (1-d*P.x*P.x*P.y*P.y) - y2*(1-d*P.x*P.x*P.y*P.y) := by grind
   rw [this, hy]; grind
  ·have : (1+y2)*(1-d*P.x*P.x*P.y*P.y) = (1-d*P.x*P.x*P.y*P.y) + y2*(1-d*P.x*P.x*P.y*P.y) := by grind
   rw [this, hy]; grind
 ·rintro ⟨h1, h2⟩;have hL : 16*l*l*l*l ≠ 0 := z2d (z2d (z2d (z2d n16 hl) hl) hl) hl;generalize P.y = y at *;generalize 16*l*l*l*l = L at *;have hy0 : y = 0 := by
   have : L*(y*y) = 0 := by rw [← h1]; grind
   exact zfj ((dom this).resolve_left hL)
  have h7 : L*(1+c) = L*(1-y*y)*(1+c*(1-y*y)) + y*(L*y*(1+c*(1-y*y)) + L*c*y) := by clear h1 h2 hy0 key; grind
  rw [h2, hy0, Fin.zero_mul, Fin.add_zero] at h7;have h3 := (dom h7).resolve_left hL;rw [h3, Fin.mul_zero] at hc;rw [← hc, Fin.add_zero] at h3;exact zlr h3
theorem sx_l (l y m z : F) : sx (l*(1+y)) (l*(1-y)) (m*(1+z)) (m*(1-z)) = 16*l*l*m*m*((y+z)*(y+z)) := by unfold sx; grind
theorem sz_l (u l y m z : F) : sz u (l*(1+y)) (l*(1-y)) (m*(1+z)) (m*(1-z)) = 16*l*l*m*m*(u*((z-y)*(z-y))) := by unfold sz; grind
theorem z1a0 (d x1 y1 x2 y2 : F) : (y1+y2)*(y1+y2)*((1-y1*y2)*(1-y1*y2)-(x1*x2)*(x1*x2)*((1-d*(y1*y2))*(1-d*(y1*y2)))) - (y2-y1)*(y2-y1)*((1+y1*y2)*(1+y1*y2)-(x1*x2)*(x1*x2)*((1+d*(y1*y2))*(1+d*(y1*y2)))) =
  (4*d*x2*x2*y1*y2*y2*y2 - 4*x2*x2*y1*y2) * (x1*x1+y1*y1-1-d*x1*x1*y1*y1)
  + (4*y1*y1*y1*y2 - 4*y1*y2) * (x2*x2+y2*y2-1-d*x2*x2*y2*y2) := by grind
theorem z17w {d x1 y1 x2 y2 yp ym : F} (h1 : x1*x1+y1*y1-1-d*x1*x1*y1*y1 = 0) (h2 : x2*x2+y2*y2-1-d*x2*x2*y2*y2 = 0)
  (hp : yp * (1 - d*x1*x2*y1*y2) = y1*y2-x1*x2) (hm : ym * (1 + d*x1*x2*y1*y2) = y1*y2+x1*x2) :
  ((y1+y2)*(y1+y2)*((1-yp)*(1-ym))) * ((1 - d*x1*x2*y1*y2) * (1 + d*x1*x2*y1*y2)) = ((y2-y1)*(y2-y1)*((1+yp)*(1+ym))) * ((1 - d*x1*x2*y1*y2) * (1 + d*x1*x2*y1*y2)) := by
 have h := z1a0 d x1 y1 x2 y2;rw [h1, h2, mul0] at h;have a1 : (1-yp)*(1 - d*x1*x2*y1*y2) = (1 - d*x1*x2*y1*y2) - (y1*y2-x1*x2) := by rw [← hp]; grind
 have a2 : (1+yp)*(1 - d*x1*x2*y1*y2) = (1 - d*x1*x2*y1*y2) + (y1*y2-x1*x2) := by rw [← hp]; grind
 have b1 : (1-ym)*(1 + d*x1*x2*y1*y2) = (1 + d*x1*x2*y1*y2) - (y1*y2+x1*x2) := by rw [← hm]; grind
 have b2 : (1+ym)*(1 + d*x1*x2*y1*y2) = (1 + d*x1*x2*y1*y2) + (y1*y2+x1*x2) := by rw [← hm]; grind
 have reg : ∀ (s a b p q : F), (s*(a*b))*(p*q) = s*((a*p)*(b*q)) := by intro s a b p q; grind
 rw [reg, reg, a1, a2, b1, b2];have f1 : ((1 - d*x1*x2*y1*y2) - (y1*y2-x1*x2)) * ((1 + d*x1*x2*y1*y2) - (y1*y2+x1*x2)) = (1-y1*y2)*(1-y1*y2)-(x1*x2)*(x1*x2)*((1-d*(y1*y2))*(1-d*(y1*y2))) := by clear h a1 a2 b1 b2 hp hm h1 h2; grind
 have f2 : ((1 - d*x1*x2*y1*y2) + (y1*y2-x1*x2)) * ((1 + d*x1*x2*y1*y2) + (y1*y2+x1*x2)) = (1+y1*y2)*(1+y1*y2)-(x1*x2)*(x1*x2)*((1+d*(y1*y2))*(1+d*(y1*y2))) := by clear h a1 a2 b1 b2 hp hm h1 h2 f1; grind
 rw [f1, f2];generalize (y1+y2)*(y1+y2)*((1-y1*y2)*(1-y1*y2)-(x1*x2)*(x1*x2)*((1-d*(y1*y2))*(1-d*(y1*y2)))) = A at *;generalize (y2-y1)*(y2-y1)*((1+y1*y2)*(1+y1*y2)-(x1*x2)*(x1*x2)*((1+d*(y1*y2))*(1+d*(y1*y2)))) = B at *;clear a1 a2 b1 b2 hp hm h1 h2 f1 f2
 grind
theorem zxi {d : F} (ns : NS d) {P Q R : Pt d} (hR : add ns Q (neg P) = R) {u X0 Z0 X1 Z1 : F} (hu : u ≠ 0) (hu1 : u*(1-R.y) = 1+R.y) (hR1 : 1 - R.y ≠ 0)
  (h0 : Rep P X0 Z0) (h1 : Rep Q X1 Z1) : Rep (add ns P Q) (sx X0 Z0 X1 Z1) (sz u X0 Z0 X1 Z1) := by
 obtain ⟨l, hl, rfl, rfl⟩ := z10p h0;obtain ⟨m, hm, rfl, rfl⟩ := z10p h1;have hy := z7d ns P Q;have hz := z7d ns Q (neg P);rw [hR] at hz;have hz : R.y * (1 + d*P.x*Q.x*P.y*Q.y) = P.y*Q.y+P.x*Q.x := by
  have e1 : 1 - d*Q.x*(neg P).x*Q.y*(neg P).y = 1 + d*P.x*Q.x*P.y*Q.y := by simp only [neg]; grind
  have e2 : Q.y*(neg P).y-Q.x*(neg P).x = P.y*Q.y+P.x*Q.x := by simp only [neg]; grind
  rw [e1, e2] at hz; exact hz
 have hs := z78 (z2d (zcy ns P Q) (ze0 ns P Q)) (z17w P.on Q.on hy hz);have on1 := P.on;have on2 := Q.on;rw [sx_l, sz_l];unfold Rep;generalize (add ns P Q).y = yp at *;generalize R.y = ym at *;have hL : 16*l*l*m*m ≠ 0 := z2d (z2d (z2d (z2d n16 hl) hl) hm) hm;generalize 16*l*l*m*m = L at *;refine ⟨?_, ?_⟩
 ·apply z78 hR1;have e1 : L*((P.y+Q.y)*(P.y+Q.y))*(1-yp)*(1-ym) = L*((P.y+Q.y)*(P.y+Q.y)*((1-yp)*(1-ym))) := by clear hs; grind
  have e2 : L*(u*((Q.y-P.y)*(Q.y-P.y)))*(1+yp)*(1-ym) = L*((Q.y-P.y)*(Q.y-P.y)*((1+yp)*(u*(1-ym)))) := by clear hs; grind
  rw [e1, e2, hu1, hs]
 ·rintro ⟨k1, k2⟩;have a1 := zfj ((dom k1).resolve_left hL);have a2 := zfj ((dom ((dom k2).resolve_left hL)).resolve_left hu);have b1 : P.y = 0 := by
   have : 2 * P.y = 0 := by clear hs; grind
   exact (dom this).resolve_left zcn
  have b2 : Q.y = 0 := by clear hs; grind
  rw [b1] at on1 hz;rw [b2] at on2 hz;have c1 : P.x*P.x = 1 := by clear hs hz; grind
  have c2 : Q.x*Q.x = 1 := by clear hs hz; grind
  have c3 : ym = P.x*Q.x := by
   have : ym * (1 + d*P.x*Q.x*0*0) = ym := by clear hs; grind
   rw [this] at hz; rw [hz]; clear hs; grind
  have c4 : (1 - ym) * (1 + ym) = 0 := by
   have : (1 - ym) * (1 + ym) = 1 - (P.x*P.x)*(Q.x*Q.x) := by rw [c3]; clear hs; grind
   rw [this, c1, c2]; exact z1g4
  have c5 := (dom c4).resolve_left hR1;rw [c5] at hu1;exact (z2d hu hR1) hu1
theorem zuw {d : F} (ns : NS d) {s c : F} (hs : s = 1 ∧ d*(1+c) = c ∨ s = -1 ∧ d*c = 1+c) {P Q R : Pt d} (hR : add ns Q (neg P) = R) {u X0 Z0 X1 Z1 : F} (hu : u ≠ 0) (hu1 : s*u*(1-R.y) = 1+R.y) (hR1 : 1 - R.y ≠ 0)
  (h0 : Rep P (s*X0) Z0) (h1 : Rep Q (s*X1) Z1) : Rep (add ns P P) (s*dx X0 Z0) (dz c X0 Z0) ∧ Rep (add ns P Q) (s*sx X0 Z0 X1 Z1) (sz u X0 Z0 X1 Z1) := by
 have one_mul : ∀ a : F, 1 * a = a := by intro a; grind
 have neg_mul : ∀ a : F, -1 * a = -a := by intro a; grind
 have neg_neg : ∀ a : F, - -a = a := by intro a; grind
 rcases hs with ⟨rfl, hc⟩ | ⟨rfl, hc⟩
 ·simp only [one_mul] at *;exact ⟨zxj ns hc h0, zxi ns hR hu hu1 hR1 h0 h1⟩
 ·simp only [neg_mul] at *;have hu' : -u ≠ 0 := fun h => hu (by rw [← neg_neg u, h]; grind)
  have a1 := zpx (zxj ns (c := -1-c) (by grind) h0)
  have a2 := zpx (zxi ns hR hu' hu1 hR1 h0 h1);rw [z1e1, z1df, neg_neg] at a1;rw [z1dt, z1dr, neg_neg] at a2;exact ⟨a1, a2⟩
def pw (a : F) (n : Nat) : F := inj (a.val ^ n)
theorem zis (a : F) (m n : Nat) : pw a (m + n) = pw a m * pw a n := by
 apply Fin.ext; rw [pw, pw, pw, z2g, Fin.val_mul, z2g, z2g, Nat.pow_add, ← Nat.mul_mod]
theorem z14h (a b : F) (n : Nat) : pw (a * b) n = pw a n * pw b n := by
 apply Fin.ext;rw [pw, pw, pw, z2g, Fin.val_mul, Fin.val_mul, z2g, z2g, ← Nat.mul_mod, ← Nat.mul_pow];exact (Nat.pow_mod _ _ _).symm
theorem zp2 {a : F} (h : a ≠ 0) {n : Nat} (hn : n = prm - 1) : pw a n = 1 := by
 apply Fin.ext;rw [pw, z2g, hn];exact Go.Num.fermat1 zvb (zj1 h)
theorem z11j {a : F} (h : a * a = 1) : a = 1 ∨ a = -1 := by
 have : (a - 1) * (a + 1) = 0 := by grind
 rcases dom this with h | h
 ·left; grind
 ·right; grind
def ii : F := inj 19681161376707505956807079304988542015446066515923890162744021073123829784752
theorem z1gr : ii * ii = -1 := by decide +kernel
theorem zy0 {t : F} {e f g : Nat} (he : e + e = f) (hg : g + g = e + 1) (h : pw t f = 1) : ∃ r, r * r = t := by
 have h1 : pw t e * pw t e = 1 := by rw [← zis, he, h]
 have ht : pw t 1 = t := by rw [pw, Nat.pow_one, z15e]
 have h2 : pw t g * pw t g = pw t e * t := by rw [← zis, hg, zis, ht]
 rcases z11j h1 with h3 | h3
 ·exact ⟨pw t g, by rw [h2, h3]; exact Fin.one_mul t⟩
 ·refine ⟨ii * pw t g, ?_⟩;have : ii * pw t g * (ii * pw t g) = (ii * ii) * (pw t g * pw t g) := by grind
  rw [this, h2, h3, z1gr];have : ∀ a : F, -1 * (-1 * a) = a := by intro a; grind
  exact this t
def d1 : F := inj 20800338683988658368647408995589388737092878452977063003340006470870624536394
def d2 : F := inj 28692721048178265397853269683490922171210976843790175684556505508326675974058
theorem z1ea : d1 * (1 + 121665) = 121665 := by decide +kernel
theorem z1ew : d2 * 121665 = 1 + 121665 := by decide +kernel
theorem d12 : d1 * d2 = 1 := by decide +kernel
theorem z1fd : d1.val = 20800338683988658368647408995589388737092878452977063003340006470870624536394 := by decide +kernel
theorem z18k {f : Nat} (hf : 28948022309329048855892746252171976963317496166410141009864396001978282409974 = f) : pw d1 f = -1 := by
 have h : 20800338683988658368647408995589388737092878452977063003340006470870624536394 ^ f % prm = 57896044618658097711785492504343953926634992332820282019728792003956564819948 := Go.Num.pm_pow (f := 255) (by subst hf; decide) (by subst hf; kernel_rfl)
 apply Fin.ext;rw [pw, z2g, z1fd, h];decide +kernel
theorem ns1 : NS d1 := by
 intro s t h;refine Classical.byContradiction fun hs => ?_
 obtain ⟨f, hf, hff⟩ : ∃ f, 28948022309329048855892746252171976963317496166410141009864396001978282409974 = f ∧ f + f = prm - 1 := ⟨_, rfl, by decide⟩
 have e1 := congrArg (fun a => pw a f) h
 simp only [z14h, ← zis] at e1;rw [z18k hf, zp2 hs hff, Fin.mul_one] at e1
 by_cases ht : t = 0
 ·rw [ht] at h;rw [Fin.mul_zero] at h;rcases dom h with h | h
  ·exact absurd h (by decide +kernel)
  ·exact hs (zfj h)
 ·rw [zp2 ht hff] at e1;exact absurd e1 (by decide +kernel)
theorem ns2 : NS d2 := by
 intro s t h;have h1 : d1 * (t * t) = s * s := by
  rw [← h];have : d1 * (d2 * (s * s)) = (d1 * d2) * (s * s) := by grind
  rw [this, d12, Fin.one_mul]
 have ht := ns1 _ _ h1;rw [ht, Fin.mul_zero, Fin.mul_zero] at h1;exact zfj h1.symm
theorem z1gy {w : F} (hw : w ≠ 0) : (∃ r, r * r = w) ∨ (∃ r, r * r = d1 * w) := by
 obtain ⟨f, hf, hff⟩ : ∃ f, 28948022309329048855892746252171976963317496166410141009864396001978282409974 = f ∧ f + f = prm - 1 := ⟨_, rfl, by decide⟩
 obtain ⟨e, g, he, hg⟩ : ∃ e g, e + e = f ∧ g + g = e + 1 := ⟨14474011154664524427946373126085988481658748083205070504932198000989141204987, 7237005577332262213973186563042994240829374041602535252466099000494570602494, by subst hf; decide, by decide⟩
 have h1 : pw w f * pw w f = 1 := by rw [← zis, hff, zp2 hw rfl]
 rcases z11j h1 with h | h
 ·exact .inl (zy0 he hg h)
 ·refine .inr (zy0 he hg ?_);rw [z14h, z18k hf, h];decide +kernel
structure Place (u : F) where
 s : F
 d : F
 ns : NS d
 hs : s = 1 ∧ d*(1+121665) = 121665 ∨ s = -1 ∧ d*121665 = 1+121665
 P : Pt d
 on : s*u*(1-P.y) = 1+P.y
 fin : 1 - P.y ≠ 0
theorem z1f0 (d X Y r v : F) : (X*X+Y*Y-1-d*X*X*Y*Y) * ((r*r)*(v*v)) = (X*r)*(X*r)*(v*v) + (Y*v)*(Y*v)*(r*r) - (r*r)*(v*v) - d*((X*r)*(X*r))*((Y*v)*(Y*v)) := by grind
theorem z1cq (d a u : F) : (a*u)*(a*u)*((u+1)*(u+1)) + (u-1)*(u-1)*(a*(u*(u*u+(a-2)*u+1))) - (a*(u*(u*u+(a-2)*u+1)))*((u+1)*(u+1)) - d*((a*u)*(a*u))*((u-1)*(u-1)) =
  (d*a - (a - 4)) * (-(a*u*u*((u-1)*(u-1)))) := by grind
theorem on1 {d a u r X Y : F} (hd : d*a = a - 4) (hr : r*r = a*(u*(u*u+(a-2)*u+1))) (hX : X*r = a*u) (hY : Y*(u+1) = u-1) (hr0 : r ≠ 0) (hu1 : u+1 ≠ 0) : X*X+Y*Y-1-d*X*X*Y*Y = 0 := by
 have h := z1f0 d X Y r (u+1);rw [hX, hY, hr, z1cq, hd] at h;have z : a - 4 - (a - 4) = 0 := by clear h hr hX hY hd; grind
 rw [z, Fin.zero_mul, ← hr] at h;exact (dom h).resolve_right (z2d (z2d hr0 hr0) (z2d hu1 hu1))
theorem zrt {d a u r : F} (ns : NS d) (hd : d*a = a - 4) (hr : r*r = a*(u*(u*u+(a-2)*u+1))) (hr0 : r ≠ 0) (hu1 : u+1 ≠ 0) : ∃ P : Pt d, u*(1-P.y) = 1+P.y ∧ 1 - P.y ≠ 0 := by
 have m1 := z5p hr0;have m2 := z5p hu1;have hX : (a*u*inv r) * r = a*u := by
  have : (a*u*inv r) * r = a*u*(r * inv r) := by clear hr hd m2; grind
  rw [this, m1, Fin.mul_one]
 have hY : ((u-1)*inv (u+1)) * (u+1) = u-1 := by
  have : ((u-1)*inv (u+1)) * (u+1) = (u-1)*((u+1)*inv (u+1)) := by clear hr hd m1 hX m2; grind
  rw [this, m2, Fin.mul_one]
 refine ⟨⟨a*u*inv r, (u-1)*inv (u+1), on1 hd hr hX hY hr0 hu1⟩, ?_, ?_⟩
 ·show u*(1-(u-1)*inv (u+1)) = 1+(u-1)*inv (u+1);generalize (u-1)*inv (u+1) = Y at *;apply z78 hu1;clear hr hd hX m1 m2
  grind
 ·show 1-(u-1)*inv (u+1) ≠ 0;generalize (u-1)*inv (u+1) = Y at *;intro h0;have : (1 - Y)*(u+1) = 2 := by clear hr hd hX m1 m2 h0; grind
  rw [h0, Fin.zero_mul] at this;exact zcn this.symm
theorem cA : d1 * (486664 * 486664) = 486660 * 486664 := by decide +kernel
theorem cA0 : (486664 : F) ≠ 0 := by decide +kernel
theorem cB0 : (486660 : F) ≠ 0 := by decide +kernel
theorem cD1 : d1 * 486664 = 486664 - 4 := by decide +kernel
theorem cD2 : d2 * (-486660) = -486660 - 4 := by decide +kernel
theorem cq (u : F) : (2*u+486662)*(2*u+486662) = 4*(u*u+486662*u+1) + 486660 * 486664 := by grind
theorem cm1 (u : F) : 486664*(u*(u*u+486662*u+1)) = (u+1)*(486664*(u*u+486661*u-486660)) + 486660 * 486664 := by grind
theorem cp1 (u : F) : 486660*(u*(u*u+486662*u+1)) = (u-1)*(486660*(u*u+486663*u+486664)) + 486660 * 486664 := by grind
theorem zsd {u : F} (hu : u ≠ 0) : Nonempty (Place u) := by
 have hq : u*u+486662*u+1 ≠ 0 := by
  intro h;have := cq u;rw [h, Fin.mul_zero, Fin.zero_add, ← cA] at this;exact cA0 (ns1 _ _ this.symm)
 have hw : 486664*(u*(u*u+486662*u+1)) ≠ 0 := z2d cA0 (z2d hu hq);rcases z1gy hw with ⟨r, hr⟩ | ⟨r, hr⟩
 ·have hr0 : r ≠ 0 := fun h => hw (by rw [← hr, h, Fin.mul_zero])
  have hu1 : u+1 ≠ 0 := by
   intro h;rw [cm1, h, Fin.zero_mul, Fin.zero_add, ← cA] at hr;exact cA0 (ns1 _ _ hr.symm)
  obtain ⟨P, h1, h2⟩ := zrt ns1 cD1 (u := u) (r := r) (by rw [hr]; clear hr hw hu1 hq; grind) hr0 hu1
  exact ⟨⟨1, d1, ns1, .inl ⟨rfl, z1ea⟩, P, by rw [Fin.one_mul]; exact h1, h2⟩⟩
 ·have hr' : r*r = 486660*(u*(u*u+486662*u+1)) := by
   rw [hr];have e : d1*(486664*(u*(u*u+486662*u+1))) = (d1*486664)*(u*(u*u+486662*u+1)) := by clear hr hw hq; grind
   rw [e, cD1];exact congrArg (·* _) (by decide +kernel)
  have hr0 : r ≠ 0 := fun h => (z2d cB0 (z2d hu hq)) (by rw [← hr', h, Fin.mul_zero])
  have hu1 : -u+1 ≠ 0 := by
   intro h;have h' : u - 1 = 0 := by clear hr hr' hw hq; grind
   rw [cp1, h', Fin.zero_mul, Fin.zero_add, ← cA] at hr';exact cA0 (ns1 _ _ hr'.symm)
  obtain ⟨P, h1, h2⟩ := zrt ns2 cD2 (u := -u) (r := r) (by rw [hr']; clear hr hr' hw hu1 hq; grind) hr0 hu1
  exact ⟨⟨-1, d2, ns2, .inr ⟨rfl, z1ew⟩, P, by
   have : -1*u = -u := by clear hr hr' hw hq hu1 h1; grind
   rw [this]; exact h1, h2⟩⟩
def kv (k : List UInt8) : Nat → Nat
 | 0 => 0
 | n + 1 => 2 * kv k n + (z3w k (254 - n)).toNat
theorem zsj {u : Nat} {r : Rg} (h : r.lt) :
  inj (r.step u).x0 = dx (inj r.x0) (inj r.z0) ∧ inj (r.step u).z0 = dz 121665 (inj r.x0) (inj r.z0) ∧
  inj (r.step u).x1 = sx (inj r.x0) (inj r.z0) (inj r.x1) (inj r.z1) ∧ inj (r.step u).z1 = sz (inj u) (inj r.x0) (inj r.z0) (inj r.x1) (inj r.z1) := by
 obtain ⟨h0, h1, h2, h3⟩ := h;have ml : ∀ a b, mulm a b < prm := fun a b => mod_lt _
 have e : inj 121665 = 121665 := by decide +kernel
 simp only [Rg.step, zor, zwo, zot _ h2, zot _ h3, zot _ (ml _ _), e];exact ⟨rfl, rfl, rfl, rfl⟩
theorem zfm {r : Rg} (h : r.lt) (b : Bool) : (r.swapB b).lt := by
 cases b
 ·exact h
 ·exact ⟨h.2.1, h.1, h.2.2.2, h.2.2.1⟩
theorem z16g (a b : Bool) (r : Rg) : r.swapB (a ^^ b) = (r.swapB a).swapB b := by cases a <;> cases b <;> rfl
def Good {u : F} (p : Place u) (m : Nat) (r : Rg) : Prop :=
 Rep (z1m p.ns p.P m) (p.s * inj r.x0) (inj r.z0) ∧ Rep (z1m p.ns p.P (m + 1)) (p.s * inj r.x1) (inj r.z1)
theorem zqk {d : F} (ns : NS d) (P : Pt d) : z1m ns P 1 = P := by rw [z1m, z1m, add_comm, zc5]
theorem z1ha {d : F} (ns : NS d) (P : Pt d) (m : Nat) : add ns (z1m ns P (m + 1)) (neg (z1m ns P m)) = P := by
 rw [z1m, add_comm ns (z1m ns P m) P, add_assoc, zx6, zc5]
theorem z1bg {d : F} (ns : NS d) (P Q : Pt d) : neg (add ns P Q) = add ns (neg P) (neg Q) := by
 symm;have hx := zag ns P Q;have hy := z7d ns P Q;apply zf0
 ·have e1 : 1 + d*(neg P).x*(neg Q).x*(neg P).y*(neg Q).y = 1 + d*P.x*Q.x*P.y*Q.y := by simp only [neg]; grind
  rw [e1]; simp only [neg]; clear hy; grind
 ·have e1 : 1 - d*(neg P).x*(neg Q).x*(neg P).y*(neg Q).y = 1 - d*P.x*Q.x*P.y*Q.y := by simp only [neg]; grind
  rw [e1]; simp only [neg]; rw [hy]; clear hx hy; grind
theorem z1fx {d : F} (ns : NS d) (P : Pt d) (m : Nat) : add ns (z1m ns P m) (neg (z1m ns P (m + 1))) = neg P := by
 rw [z1m, z1bg, ← add_assoc, zx6, add_comm, zc5]
theorem s_ne {u : F} (p : Place u) : p.s ≠ 0 := by
 rcases p.hs with ⟨h, _⟩ | ⟨h, _⟩ <;> rw [h] <;> decide +kernel
theorem zkv {u : Nat} (hu : u < prm) (hu0 : inj u ≠ 0) (p : Place (inj u)) (k : List UInt8) : ∀ n, Good p (kv k n) ((lad k u n).swapB (lastB k n))
 | 0 => by
  refine ⟨⟨?_, ?_⟩, ⟨?_, ?_⟩⟩
  ·show p.s * inj 1 * (1 - 1) = inj 0 * (1 + 1);rw [z6r, Fin.zero_mul, show (1 : F) - 1 = 0 by decide +kernel, Fin.mul_zero]
  ·rintro ⟨h, _⟩;have h : p.s * inj 1 = 0 := h;rw [zx4, Fin.mul_one] at h;exact s_ne p h
  ·show p.s * inj u * (1 - (z1m p.ns p.P 1).y) = inj 1 * (1 + (z1m p.ns p.P 1).y);rw [zqk, zx4, Fin.one_mul];exact p.on
  ·rintro ⟨_, h⟩;exact zlr h
 | n + 1 => by
  obtain ⟨g0, g1⟩ := zkv hu hu0 p k n;have hl := zfm (zi7 k hu n) (lastB k n);have e : lad k u (n + 1) = (((lad k u n).swapB (lastB k n)).swapB (z3w k (254 - n))).step u := by rw [lad, z16g]
  rw [e, lastB, kv];generalize (lad k u n).swapB (lastB k n) = r at *;generalize kv k n = m at *;obtain ⟨i0, i1, i2, i3⟩ := zsj (u := u) (zfm hl (z3w k (254 - n)));cases hb : z3w k (254 - n)
  ·rw [hb] at i0 i1 i2 i3;obtain ⟨a, b⟩ := zuw p.ns p.hs (z1ha p.ns p.P m) hu0 p.on p.fin g0 g1;refine ⟨?_, ?_⟩
   ·show Rep (z1m p.ns p.P (2 * m + 0)) (p.s * inj (Rg.step u (r.swapB false)).x0) (inj (Rg.step u (r.swapB false)).z0);rw [i0, i1, Nat.add_zero, Nat.two_mul, z5z]; exact a
   ·show Rep (z1m p.ns p.P (2 * m + 0 + 1)) (p.s * inj (Rg.step u (r.swapB false)).x1) (inj (Rg.step u (r.swapB false)).z1);rw [i2, i3, show 2 * m + 0 + 1 = m + (m + 1) by omega, z5z]; exact b
  ·rw [hb] at i0 i1 i2 i3;obtain ⟨a, b⟩ := zuw p.ns p.hs (z1fx p.ns p.P m) hu0 (u := inj u) p.on p.fin g1 g0;refine ⟨?_, ?_⟩
   ·show Rep (z1m p.ns p.P (2 * m + 1)) (p.s * inj (Rg.step u (r.swapB true)).x1) (inj (Rg.step u (r.swapB true)).z1);rw [i2, i3, show 2 * m + 1 = (m + 1) + m by omega, z5z]; exact b
   ·show Rep (z1m p.ns p.P (2 * m + 1 + 1)) (p.s * inj (Rg.step u (r.swapB true)).x0) (inj (Rg.step u (r.swapB true)).z0);rw [i0, i1, show 2 * m + 1 + 1 = (m + 1) + (m + 1) by omega, z5z]; exact a
def num {d : F} (s : F) (Q : Pt d) : F := s * (1 + Q.y) * inv (1 - Q.y)
theorem z12v {u : F} (p : Place u) : p.s * p.s = 1 := by
 rcases p.hs with ⟨h, _⟩ | ⟨h, _⟩ <;> rw [h] <;> decide +kernel
theorem z1b1 {u : F} (p : Place u) {Q : Pt p.d} {X Z : F} (h : Rep Q (p.s * X) Z) : X * inv Z = num p.s Q := by
 obtain ⟨h1, h2⟩ := h;have hss := z12v p;unfold num;generalize p.s = s at *;generalize Q.y = y at *
 by_cases hz : Z = 0
 ·subst hz;rw [Fin.zero_mul] at h1;have hX : s * X ≠ 0 := fun h => h2 ⟨h, rfl⟩
  have hy := (dom h1).resolve_left hX;rw [hy, zcx, Fin.mul_zero, Fin.mul_zero]
 ·have hy : 1 - y ≠ 0 := by
   intro h;rw [h, Fin.mul_zero] at h1;have h3 := (dom h1.symm).resolve_left hz;have : (1 - y) + (1 + y) = 2 := by clear h1 h2 hss h h3; grind
   rw [h, h3, Fin.add_zero] at this;exact zcn this.symm
  have m1 := z5p hz;have m2 := z5p hy;apply z78 (z2d hz hy);have e1 : X * inv Z * (Z * (1 - y)) = X * (1 - y) * (Z * inv Z) := by clear m1 m2 h1 hss; grind
  have e2 : s * (1 + y) * inv (1 - y) * (Z * (1 - y)) = s * (Z * (1 + y)) * ((1 - y) * inv (1 - y)) := by clear m1 m2 h1 hss e1; grind
  rw [e1, e2, m1, m2, ← h1, Fin.mul_one, Fin.mul_one];have e3 : s * (s * X * (1 - y)) = (s * s) * (X * (1 - y)) := by clear m1 m2 h1 hss e1 e2; grind
  rw [e3, hss, Fin.one_mul]
theorem zxq {z : Nat} (hz : z < prm) : inj (z ^ (prm - 2) % prm) = inv (inj z) := by
 rw [inv, z2g, Nat.mod_eq_of_lt hz]
theorem zsi {u : Nat} (hu : u < prm) (hu0 : inj u ≠ 0) (p : Place (inj u)) (k : List UInt8) : inj (z2n k u) = num p.s (z1m p.ns p.P (kv k 255)) := by
 have h := (zkv hu hu0 p k 255).1;have hl := zfm (zi7 k hu 255) (lastB k 255);have e : zf3 k u = (lad k u 255).swapB (lastB k 255) := rfl;rw [z2n, e];generalize (lad k u 255).swapB (lastB k 255) = r at *;show inj (mulm r.x0 (r.z0 ^ (prm - 2) % prm)) = _;rw [zor, zxq hl.2.2.1];exact z1b1 p h
theorem z73 (k : List UInt8) (u : Nat) : z2n k u < prm := mod_lt _
theorem zid {u : Nat} (hu : u < prm) (h : u ≠ 0) : inj u ≠ 0 := fun h0 => h (zt4 hu (by decide) (h0.trans z6r.symm))
theorem z1di (c X Z : F) : dz c X Z = (X*Z)*(4*((X+Z)*(X+Z) + c * ((X+Z)*(X+Z) - (X-Z)*(X-Z)))) := by unfold dz; grind
theorem zud (k : List UInt8) : ∀ n, inj (lad k 0 n).x0 * inj (lad k 0 n).z0 = 0 ∧ inj (lad k 0 n).x1 * inj (lad k 0 n).z1 = 0
 | 0 => ⟨(by decide +kernel : inj 1 * inj 0 = 0), (by decide +kernel : inj 0 * inj 1 = 0)⟩
 | n + 1 => by
  have ih := zud k n;have hl := zfm (zi7 k (show 0 < prm by decide) n) (lastB k n ^^ z3w k (254 - n))
  have ih' : inj ((lad k 0 n).swapB (lastB k n ^^ z3w k (254 - n))).x0 * inj ((lad k 0 n).swapB (lastB k n ^^ z3w k (254 - n))).z0 = 0 := by
   cases (lastB k n ^^ z3w k (254 - n))
   ·exact ih.1
   ·exact ih.2
  obtain ⟨i0, i1, i2, i3⟩ := zsj (u := 0) hl;rw [lad];generalize (lad k 0 n).swapB (lastB k n ^^ z3w k (254 - n)) = r at *;refine ⟨?_, ?_⟩
  ·rw [i1, z1di, ih', Fin.zero_mul, Fin.mul_zero]
  ·rw [i3, z6r, sz, Fin.zero_mul, Fin.mul_zero]
theorem zpn (k : List UInt8) : z2n k 0 = 0 := by
 have h := zud k 255;have hl := zfm (zi7 k (show 0 < prm by decide) 255) (lastB k 255)
 have h' : inj ((lad k 0 255).swapB (lastB k 255)).x0 * inj ((lad k 0 255).swapB (lastB k 255)).z0 = 0 := by
  cases lastB k 255
  ·exact h.1
  ·exact h.2
 apply zt4 (z73 _ _) (by decide)
 have e : zf3 k 0 = (lad k 0 255).swapB (lastB k 255) := rfl;rw [z2n, e];generalize (lad k 0 255).swapB (lastB k 255) = r at *;show inj (mulm r.x0 (r.z0 ^ (prm - 2) % prm)) = _;rw [zor, zxq hl.2.2.1, z6r];rcases dom h' with h1 | h1
 ·rw [h1, Fin.zero_mul]
 ·rw [h1, zcx, Fin.mul_zero]
theorem z1cw {a : F} (h : a ≠ 0) : inv a ≠ 0 := by
 intro h0;have := z5p h;rw [h0, Fin.mul_zero] at this;exact zlr this.symm
section
variable {u : F} (p : Place u)
theorem z9h (Q : Pt p.d) : num p.s Q = 0 ↔ Q.x = 0 := by
 have on := Q.on;constructor
 ·intro h;have hy : Q.y * Q.y = 1 := by
   unfold num at h;rcases dom h with h | h
   ·have h1 := (dom h).resolve_left (s_ne p);have : Q.y * Q.y - 1 = (1 + Q.y) * (Q.y - 1) := by clear h on; grind
    rw [h1, Fin.zero_mul] at this;clear h on h1; grind
   ·have h1 : 1 - Q.y = 0 := Classical.byContradiction fun hn => z1cw hn h
    have : Q.y * Q.y - 1 = (1 - Q.y) * (-(Q.y + 1)) := by clear h on h1; grind
    rw [h1, Fin.zero_mul] at this;clear h on h1; grind
  have h2 : p.d * (Q.x * Q.x) = Q.x * Q.x := by
   have e : p.d*Q.x*Q.x*Q.y*Q.y = p.d*(Q.x*Q.x)*(Q.y*Q.y) := by clear on h hy; grind
   rw [e, hy] at on;clear h hy e; grind
  exact p.ns _ _ h2
 ·intro h;have h1 : (1 + Q.y) * (1 - Q.y) = 0 := by
   have e : (1 + Q.y) * (1 - Q.y) = Q.x * (Q.x - p.d*Q.x*Q.y*Q.y) - (Q.x*Q.x+Q.y*Q.y-1-p.d*Q.x*Q.x*Q.y*Q.y) := by clear on h; grind
   rw [e, on, h, Fin.zero_mul]; decide +kernel
  unfold num;rcases dom h1 with h2 | h2
  ·rw [h2, Fin.mul_zero, Fin.zero_mul]
  ·rw [h2, zcx, Fin.mul_zero]
theorem z1ga (d a b c : F) : d*c*c*a*b = c*(d*c*a*b) := by grind
theorem z1gt (d a b c : F) (hc : c = 0) : 1 + d*c*c*a*b = 1 := by rw [z1ga, hc, Fin.zero_mul, Fin.add_zero]
theorem z12n {d : F} (ns : NS d) {P Q : Pt d} (hP : P.x = 0) (hQ : Q.x = 0) : (add ns P Q).x = 0 := by
 have h := zag ns P Q;rw [hP, hQ] at h;have e1 : 1 + d*0*0*P.y*Q.y = 1 := z1gt d P.y Q.y 0 rfl;rw [e1, Fin.mul_one, Fin.zero_mul, Fin.zero_mul, Fin.add_zero] at h;exact h
theorem zto {d : F} (ns : NS d) {Q : Pt d} (hQ : Q.x = 0) : ∀ n, (z1m ns Q n).x = 0
 | 0 => rfl
 | n + 1 => z12n ns (zto ns hQ n) hQ
theorem zgo {u : Nat} (hu : u < prm) (hu0 : inj u ≠ 0) (p : Place (inj u)) (a b : List UInt8) :
  inj (z2n b (z2n a u)) = num p.s (z1m p.ns p.P (kv a 255 * kv b 255)) := by
 have h := zsi hu hu0 p a;have hv := z73 a u;rw [zhw];generalize z1m p.ns p.P (kv a 255) = Q at *;generalize z2n a u = v at *
 by_cases hz : v = 0
 ·subst hz;rw [zpn, z6r];rw [z6r] at h;have := (z9h p Q).1 h.symm;exact ((z9h p _).2 (zto p.ns this _)).symm
 ·have hv0 := zid hv hz;have hfin : 1 - Q.y ≠ 0 := by
   intro h0;apply hv0;rw [h, num, h0, zcx, Fin.mul_zero]
  have hon : p.s * inj v * (1 - Q.y) = 1 + Q.y := by
   have m := z5p hfin;have hss := z12v p;rw [h]; unfold num
   generalize inv (1 - Q.y) = i at *;have e : p.s * (p.s * (1 + Q.y) * i) * (1 - Q.y) = (p.s * p.s) * (1 + Q.y) * ((1 - Q.y) * i) := by clear h m hss; grind
   rw [e, m, hss, Fin.one_mul, Fin.mul_one]
  have key := zsi hv hv0 ⟨p.s, p.d, p.ns, p.hs, Q, hon, hfin⟩ b;generalize kv b 255 = n at *;generalize z2n b v = w at *;exact key
theorem z167 {u : Nat} (hu : u < prm) (a b : List UInt8) : z2n b (z2n a u) = z2n a (z2n b u) := by
 by_cases h0 : u = 0
 ·subst h0; simp only [zpn]
 ·have hu0 := zid hu h0;obtain ⟨p⟩ := zsd hu0;apply zt4 (z73 _ _) (z73 _ _);rw [zgo hu hu0 p a b, zgo hu hu0 p b a, Nat.mul_comm]
end
def ell : Nat := 7237005577332262213973186563042994240857116359379907606001950938285454250989
def zkn : List UInt8 := [237, 211, 245, 92, 26, 99, 18, 88, 214, 156, 247, 162, 222, 249, 222, 20, 0, 0, 0, 0, 0, 0, 0, 0, 0, 0, 0, 0, 0, 0, 0, 16]
theorem z1em : kv zkn 255 = ell := by kernel_rfl
theorem z1c8 : (zfp zkn 9 255 false 1 9 0 1).z0 = 0 := by kernel_rfl
theorem zsa : Go.Num.Pr ell := Go.Num.pr_7237005577332262213973186563042994240857116359379907606001950938285454250989
section
variable {d : F} (ns : NS d)
theorem zs7 {Q : Pt d} (hx : Q.x = 0) (hy : Q.y = 1) : Q = nul d := Pt.ext hx hy
theorem z129 {Q : Pt d} (hx : Q.x = 0) : add ns Q Q = nul d := by
 have on := Q.on;have hyy : Q.y * Q.y = 1 := by
  have e : Q.y * Q.y - 1 = (Q.x*Q.x+Q.y*Q.y-1-d*Q.x*Q.x*Q.y*Q.y) - Q.x * (Q.x - d*Q.x*Q.y*Q.y) := by clear on hx; grind
  rw [on, hx, Fin.zero_mul] at e;have e' : Q.y * Q.y - 1 = 0 := e.trans (by decide +kernel)
  clear on e hx; grind
 refine zs7 (z12n ns hx hx) ?_;have h := z7d ns Q Q;have e1 : d*Q.x*Q.x*Q.y*Q.y = Q.x*(d*Q.x*Q.y*Q.y) := by clear on h hx hyy; grind
 rw [e1, hyy, hx, Fin.zero_mul, Fin.zero_mul] at h;have z1 : (1 : F) - 0 = 1 := by decide +kernel
 rw [z1, Fin.mul_one] at h;exact h
theorem z1br (Q : Pt d) : add ns (nul d) Q = Q := by rw [add_comm, zc5]
theorem zqj : ∀ n, z1m ns (nul d) n = nul d
 | 0 => rfl
 | n + 1 => by rw [z1m, zqj n, zc5]
theorem z14p {P : Pt d} {a b : Nat} (ha : z1m ns P a = nul d) (hb : z1m ns P b = nul d) : z1m ns P (a % b) = nul d := by
 have h := ha;rw [← Nat.div_add_mod a b, z5z, zhw, hb, zqj, z1br] at h;exact h
theorem z13r {P : Pt d} (a b : Nat) : z1m ns P a = nul d → z1m ns P b = nul d → z1m ns P (Nat.gcd a b) = nul d := by
 induction a, b using Nat.gcd.induction with
 | H0 n => intro _ hb; rw [Nat.gcd_zero_left]; exact hb
 | H1 m n hm ih =>
  intro ha hb;rw [Nat.gcd_rec];exact ih (z14p ns hb ha) ha
end
theorem z15d (p : Place (inj 9)) : z1m p.ns p.P ell = nul p.d := by
 have h := (zkv (show 9 < prm by decide) (zid (by decide) (by decide)) p zkn 255).1
 have e : (lad zkn 9 255).swapB (lastB zkn 255) = zfp zkn 9 255 false 1 9 0 1 := (zww zkn 9 255 0 rfl).symm;rw [e, z1c8, z1em, z6r] at h;generalize z1m p.ns p.P ell = Q at *;obtain ⟨h1, h2⟩ := h;rw [Fin.zero_mul] at h1;have hx := (dom h1).resolve_left fun h => h2 ⟨h, rfl⟩
 have hn : num p.s Q = 0 := by rw [num, hx, zcx, Fin.mul_zero]
 refine zs7 ((z9h p Q).1 hn) ?_;clear h1; grind
theorem z1b0 {n : Nat} (p : Place (inj 9)) (h : ¬ ell ∣ 2 * n) : num p.s (z1m p.ns p.P n) ≠ 0 := by
 intro h0;have hx := (z9h p _).1 h0;have h2 : z1m p.ns p.P (2 * n) = nul p.d := by rw [Nat.two_mul, z5z]; exact z129 p.ns hx
 have hg := z13r p.ns ell (2 * n) (z15d p) h2;have hc : Nat.gcd ell (2 * n) = 1 := Go.Num.Pr.cop zsa h;rw [hc, zqk] at hg;have := p.fin;rw [hg] at this;exact this (show (1 : F) - 1 = 0 by decide +kernel)
theorem z195 (k : List UInt8) : ∀ n, kv k n < 2 ^ n
 | 0 => Nat.one_pos
 | n + 1 => by
  have := z195 k n;have hb : (z3w k (254 - n)).toNat ≤ 1 := by cases z3w k (254 - n) <;> decide
  rw [kv, Nat.pow_succ]; omega
theorem z18o {k : List UInt8} (h : z3w k 254 = true) : ∀ n, 2 ^ n ≤ kv k (n + 1)
 | 0 => by rw [kv, kv, h]; decide
 | n + 1 => by
  have := z18o h n;rw [kv, Nat.pow_succ]; omega
theorem zr8 (x : UInt8) : (((x &&& 127) ||| 64).toNat / 64) % 2 = 1 ∧ ((x &&& 248).toNat / 1) % 2 = 0 ∧ ((x &&& 248).toNat / 2) % 2 = 0 ∧ ((x &&& 248).toNat / 4) % 2 = 0 := by
 have h : ∀ n : Fin 256, (((UInt8.ofNat n.1 &&& 127) ||| 64).toNat / 64) % 2 = 1 ∧ ((UInt8.ofNat n.1 &&& 248).toNat / 1) % 2 = 0 ∧ ((UInt8.ofNat n.1 &&& 248).toNat / 2) % 2 = 0 ∧ ((UInt8.ofNat n.1 &&& 248).toNat / 4) % 2 = 0 := by decide +kernel
 have := h ⟨x.toNat, x.toNat_lt⟩;simpa using this
theorem zv1 {k : List UInt8} (hk : k.length = 32) : ∃ j, kv (clampB k) 255 = 8 * j ∧ 0 < j ∧ j < ell := by
 have h0 := z1bv hk;have h31 := z158 hk;have b254 : z3w (clampB k) 254 = true := by
  show ((((clampB k).getD 31 0).toNat / 64) % 2 == 1) = true;rw [h31, (zr8 _).1]; rfl
 have b0 : z3w (clampB k) 0 = false := by
  show ((((clampB k).getD 0 0).toNat / 1) % 2 == 1) = false;rw [h0, (zr8 _).2.1]; rfl
 have b1 : z3w (clampB k) 1 = false := by
  show ((((clampB k).getD 0 0).toNat / 2) % 2 == 1) = false;rw [h0, (zr8 _).2.2.1]; rfl
 have b2 : z3w (clampB k) 2 = false := by
  show ((((clampB k).getD 0 0).toNat / 4) % 2 == 1) = false;rw [h0, (zr8 _).2.2.2]; rfl
 have e : kv (clampB k) 255 = 2 * (2 * (2 * kv (clampB k) 252 + (z3w (clampB k) 2).toNat) + (z3w (clampB k) 1).toNat) + (z3w (clampB k) 0).toNat := rfl;rw [b0, b1, b2] at e;have l1 := z195 (clampB k) 252;have l2 : 2 ^ 251 ≤ kv (clampB k) 252 := z18o b254 251;have l3 : (2 : Nat) ^ 252 < ell := by decide
 have l4 : 0 < (2 : Nat) ^ 251 := by decide
 refine ⟨kv (clampB k) 252, ?_, by omega, by omega⟩
 rw [e];simp only [Bool.toNat_false];omega
theorem zoe {n : Nat} (h0 : 0 < n) (h : n < ell) : ¬ ell ∣ n := fun hd => by have := Nat.le_of_dvd h0 hd; omega
theorem z15c {a b : List UInt8} (ha : a.length = 32) (hb : b.length = 32) : z2n (clampB a) (z2n (clampB b) 9) ≠ 0 := by
 obtain ⟨p⟩ := zsd (zid (show 9 < prm by decide) (by decide))
 obtain ⟨i, h1, h2, h3⟩ := zv1 ha;obtain ⟨j, g1, g2, g3⟩ := zv1 hb;intro h;have := zgo (show 9 < prm by decide) (zid (by decide) (by decide)) p (clampB b) (clampB a)
 rw [h, z6r, h1, g1] at this;refine z1b0 p ?_ this.symm;intro hd;rw [show 2 * (8 * j * (8 * i)) = 128 * (j * i) by rw [Nat.mul_mul_mul_comm]; omega] at hd
 rcases zsa.dvd_mul hd with hd | hd
 ·exact zoe (by decide) (by decide) hd
 ·rcases zsa.dvd_mul hd with hd | hd
  ·exact zoe g2 g3 hd
  ·exact zoe h2 h3 hd
end Go.Edw