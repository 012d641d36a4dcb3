import Derived.Test.YtehaohfglolljaaGreatDoorZzab
import Derived.KernelRfl
import Derived.Test.YtehaohfglolljaaGreatDoorZzas
set_option linter.unusedSimpArgs false
set_option linter.unusedVariables false
namespace Go.Bla
open Go Go.V Go.Cha
def iv : List UInt32 := [0x6a09e667, 0xbb67ae85, 0x3c6ef372, 0xa54ff53a, 0x510e527f, 0x9b05688c, 0x1f83d9ab, 0x5be0cd19]
def ordersL : List Int := [0, 1, 2, 3, 4, 5, 6, 7, 8, 9, 10, 11, 12, 13, 14, 15, 14, 10, 4, 8, 9, 15, 13, 6, 1, 12, 0, 2, 11, 7, 5, 3, 11, 8, 12, 0, 5, 2, 15, 13, 10, 14, 3, 6, 7, 1, 9, 4, 7, 9, 3, 1, 13, 12, 11, 14, 2, 6, 5, 10, 4, 0, 15, 8, 9, 0, 5, 7, 2, 4, 10, 15, 14, 1, 11, 12, 6, 8, 3, 13, 2, 12, 6, 10, 0, 11, 8, 3, 4, 13, 7, 5, 15, 14, 1, 9, 12, 5, 1, 15, 14, 13, 4, 10, 0, 7, 6, 3, 9, 2, 8, 11, 13, 11, 7, 14, 12, 1, 3, 9, 5, 0, 15, 4, 8, 6, 2, 10, 6, 15, 14, 9, 11, 3, 0, 8, 12, 2, 13, 7, 1, 4, 10, 5, 10, 2, 8, 4, 7, 6, 1, 5, 15, 11, 9, 14, 3, 12, 13, 0]
def rowB (n : Nat) : List Int := (ordersL.drop (n * 16)).take 16
def turnB (a b d n m : Nat) (x : UInt32) (l : List UInt32) : List UInt32 :=
 (l.set a (l.getD a 0 + (l.getD b 0 + x))).set d (rotS ((l.set a (l.getD a 0 + (l.getD b 0 + x))).getD d 0 ^^^ (l.set a (l.getD a 0 + (l.getD b 0 + x))).getD a 0) n m)
def turnC (c d b n m : Nat) (l : List UInt32) : List UInt32 :=
 (l.set c (l.getD c 0 + l.getD d 0)).set b (rotS ((l.set c (l.getD c 0 + l.getD d 0)).getD b 0 ^^^ (l.set c (l.getD c 0 + l.getD d 0)).getD c 0) n m)
def mixB (a b c d : Nat) (x y : UInt32) (l : List UInt32) : List UInt32 := turnC c d b 25 7 (turnB a b d 24 8 y (turnC c d b 20 12 (turnB a b d 16 16 x l)))
def pickB (m : List UInt32) (n i : Nat) : UInt32 := m.getD ((rowB n).getD i 0).toNat 0
def roundB (m : List UInt32) (n : Nat) (l : List UInt32) : List UInt32 :=
 mixB 3 4 9 14 (pickB m n 14) (pickB m n 15) (mixB 2 7 8 13 (pickB m n 12) (pickB m n 13) (mixB 1 6 11 12 (pickB m n 10) (pickB m n 11) (mixB 0 5 10 15 (pickB m n 8) (pickB m n 9)
  (mixB 3 7 11 15 (pickB m n 6) (pickB m n 7) (mixB 2 6 10 14 (pickB m n 4) (pickB m n 5) (mixB 1 5 9 13 (pickB m n 2) (pickB m n 3) (mixB 0 4 8 12 (pickB m n 0) (pickB m n 1) l)))))))
def roundsF (m v : List UInt32) : Nat → List UInt32
 | 0 => v
 | n + 1 => roundB m n (roundsF m v n)
noncomputable def roundsB : List UInt32 → List UInt32 → Nat → List UInt32 := (sealed roundsF).val
theorem roundsB_eq (m v : List UInt32) (n : Nat) : roundsB m v n = roundsF m v n := by rw [roundsB, (sealed roundsF).property]
def wordB (b : List UInt8) (i : Nat) : UInt32 := shl32 (shl32 (shl32 (shl32 0 8 ||| (b.getD (4 * i + 3) 0).toUInt32) 8 ||| (b.getD (4 * i + 2) 0).toUInt32) 8 ||| (b.getD (4 * i + 1) 0).toUInt32) 8 ||| (b.getD (4 * i) 0).toUInt32
def wordsF (b : List UInt8) (n : Nat) : List UInt32 := (List.range 16).map fun i => if i < n then wordB b i else 0
noncomputable def wordsB : List UInt8 → Nat → List UInt32 := (sealed wordsF).val
theorem wordsB_eq (b : List UInt8) (n : Nat) : wordsB b n = wordsF b n := by rw [wordsB, (sealed wordsF).property]
def stepO (v : List UInt32) (i : Nat) (l : List UInt32) : List UInt32 := l.set i (l.getD i 0 ^^^ (v.getD i 0 ^^^ v.getD (8 + i) 0))
def outB (h v : List UInt32) : List UInt32 := stepO v 7 (stepO v 6 (stepO v 5 (stepO v 4 (stepO v 3 (stepO v 2 (stepO v 1 (stepO v 0 h)))))))
def startB (h : List UInt32) (len : Int) (last : Bool) : List UInt32 :=
 [h.getD 0 0, h.getD 1 0, h.getD 2 0, h.getD 3 0, h.getD 4 0, h.getD 5 0, h.getD 6 0, h.getD 7 0, 0x6a09e667, 0xbb67ae85, 0x3c6ef372, 0xa54ff53a,
  0x510e527f ^^^ UInt32.ofNat (Int.toNat (len % 4294967296)), 0x9b05688c ^^^ UInt32.ofNat (Int.toNat (Int.fdiv len 4294967296 % 4294967296)), cond last (~~~ 0x1f83d9ab) 0x1f83d9ab, 0x5be0cd19]
noncomputable def squeezeF (h : List UInt32) (held : List UInt8) (len : Int) (last : Bool) : List UInt32 := outB h (roundsF (wordsF held 16) (startB h len last) 10)
noncomputable def squeezeS : List UInt32 → List UInt8 → Int → Bool → List UInt32 := (sealed squeezeF).val
theorem squeezeS_eq (h : List UInt32) (held : List UInt8) (len : Int) (last : Bool) : squeezeS h held len last = squeezeF h held len last := by rw [squeezeS, (sealed squeezeF).property]
def cB (n i : Nat) : Bool := inB ((rowB n).getD i 0) 16
theorem cB_all : ((List.range 10).all fun r => (List.range 16).all fun i => cB r i) = true := by kernel_rfl
theorem cB_ok {r i : Nat} (hr : r < 10) (hi : i < 16) : cB r i = true := by
 have h := cB_all
 rw [List.all_eq_true] at h
 have h2 := h r (List.mem_range.2 hr)
 rw [List.all_eq_true] at h2
 exact h2 i (List.mem_range.2 hi)
theorem words_zero (b : List UInt8) : wordsB b 0 = [0, 0, 0, 0, 0, 0, 0, 0, 0, 0, 0, 0, 0, 0, 0, 0] := by
 rw [wordsB_eq]; unfold wordsF
 simp only [Nat.not_lt_zero, if_false]; rfl
theorem words_get (b : List UInt8) {n i : Nat} (h : n ≤ i) : (wordsB b n).getD i 0 = 0 := by
 rw [wordsB_eq]; unfold wordsF
 rw [List.getD_eq_getElem?_getD, List.getElem?_map]
 rcases Nat.lt_or_ge i 16 with hi | hi
 ·rw [List.getElem?_range hi]
  simp only [Option.map_some, Option.getD_some]
  rw [if_neg (by omega)]
 ·rw [List.getElem?_eq_none (by simpa using hi)]; rfl
theorem length_wordsB (b : List UInt8) (n : Nat) : (wordsB b n).length = 16 := by rw [wordsB_eq]; simp [wordsF]
theorem words_succ (b : List UInt8) (n : Nat) : (wordsB b n).set n (wordB b n) = wordsB b (n + 1) := by
 rw [wordsB_eq, wordsB_eq]; unfold wordsF
 apply List.ext_getElem?
 intro i
 rw [List.getElem?_set, List.getElem?_map, List.getElem?_map]
 by_cases e : n = i
 ·subst e
  rw [if_pos rfl]
  rcases Nat.lt_or_ge n 16 with hi | hi
  ·rw [if_pos (by simpa using hi), List.getElem?_range hi]
   simp
  ·rw [if_neg (by simpa using hi), List.getElem?_eq_none (by simpa using hi)]; rfl
 ·rw [if_neg e]
  rcases Nat.lt_or_ge i 16 with hi | hi
  ·rw [List.getElem?_range hi]
   simp only [Option.map_some]
   congr 1
   by_cases h : i < n
   ·rw [if_pos h, if_pos (by omega)]
   ·rw [if_neg h, if_neg (by omega)]
  ·rw [List.getElem?_eq_none (by simpa using hi)]; rfl
theorem rounds_zero (m v : List UInt32) : roundsB m v 0 = v := by rw [roundsB_eq]; rfl
theorem rounds_succ (m v : List UInt32) (n : Nat) : roundB m n (roundsB m v n) = roundsB m v (n + 1) := by rw [roundsB_eq, roundsB_eq]; rfl
theorem getD_set_same {l : List UInt32} {i : Nat} {x : UInt32} (h : i < l.length) : (l.set i x).getD i 0 = x := by
 rw [List.getD_eq_getElem?_getD, List.getElem?_set, if_pos rfl, if_pos h]; rfl
def zero64 : List UInt8 := List.replicate 64 0
structure BS where
 h : List UInt32
 held : List UInt8
 n : Nat
 len : Nat
noncomputable def stepB (s : BS) (c : UInt8) : BS :=
 if s.n = 64 then ⟨squeezeS s.h s.held (s.len : Int) false, zero64.set 0 c, 1, s.len + 1⟩ else ⟨s.h, s.held.set s.n c, s.n + 1, s.len + 1⟩
noncomputable def addF (s : BS) (b : List UInt8) : BS := b.foldl stepB s
noncomputable def addB : BS → List UInt8 → BS := (sealed addF).val
theorem addB_eq (s : BS) (b : List UInt8) : addB s b = addF s b := by rw [addB, (sealed addF).property]
def okP (held : List UInt8) (n len : Int) : Prop := 0 ≤ n ∧ n ≤ 64 ∧ n ≤ len ∧ len ≤ 1073741824 ∧ (len - n) % 64 = 0 ∧ (n = 0 → len = 0) ∧ ∀ i, n.toNat ≤ i → held.getD i 0 = 0
noncomputable def okF (held : List UInt8) (n len : Int) : Bool := @decide (okP held n len) (Classical.propDecidable _)
noncomputable def okS : List UInt8 → Int → Int → Bool := (sealed okF).val
theorem okS_iff {held : List UInt8} {n len : Int} : okS held n len = true ↔ okP held n len := by
 rw [okS, (sealed okF).property]; exact @decide_eq_true_iff _ (Classical.propDecidable _)
structure BS.ok (s : BS) : Prop where
 hh : s.held.length = 64
 p : okP s.held (s.n : Int) (s.len : Int)
theorem BS.ok.s {s : BS} (o : s.ok) : okS s.held (s.n : Int) (s.len : Int) = true := okS_iff.2 o.p
theorem BS.ok.n {s : BS} (o : s.ok) : s.n ≤ 64 := by have := o.p.2.1; omega
theorem BS.ok.l {s : BS} (o : s.ok) : s.len ≤ 1073741824 := by have := o.p.2.2.2.1; omega
theorem zero64_getD (i : Nat) : zero64.getD i 0 = 0 := by
 unfold zero64
 rw [List.getD_eq_getElem?_getD, List.getElem?_replicate]
 split <;> rfl
theorem getD_set_ne {l : List UInt8} {i j : Nat} {x : UInt8} (h : i ≠ j) : (l.set i x).getD j 0 = l.getD j 0 := by
 rw [List.getD_eq_getElem?_getD, List.getD_eq_getElem?_getD, List.getElem?_set_ne h]
theorem stepB_len (s : BS) (c : UInt8) : (stepB s c).len = s.len + 1 := by unfold stepB; split <;> rfl
theorem stepB_ok {s : BS} (o : s.ok) (hl : s.len < 1073741824) (c : UInt8) : (stepB s c).ok := by
 obtain ⟨p1, p2, p3, p4, p5, p6, p7⟩ := o.p
 unfold stepB
 split
 ·rename_i h
  refine ⟨by simp [zero64], by simp, by simp, ?_, ?_, ?_, by simp, fun i hi => ?_⟩
  ·simp only []; omega
  ·simp only []; omega
  ·simp only []; omega
  ·simp only [] at hi ⊢
   rw [getD_set_ne (by omega), zero64_getD]
 ·rename_i h
  refine ⟨by simpa using o.hh, ?_, ?_, ?_, ?_, ?_, ?_, fun i hi => ?_⟩
  ·simp only []; omega
  ·simp only []; omega
  ·simp only []; omega
  ·simp only []; omega
  ·simp only []; omega
  ·simp only []; omega
  ·simp only [] at hi ⊢
   rw [getD_set_ne (by omega)]
   exact p7 i (by omega)
theorem addF_ok : ∀ {b : List UInt8} {s : BS}, s.ok → s.len + b.length ≤ 1073741824 → (addF s b).ok ∧ (addF s b).len = s.len + b.length
 | [], s, o, _ => ⟨o, rfl⟩
 | c :: b, s, o, h => by
  rw [List.length_cons] at h
  have h1 := stepB_ok o (by omega) c
  have h2 := addF_ok (b := b) h1 (by rw [stepB_len]; omega)
  rw [stepB_len] at h2
  rw [List.length_cons]
  exact ⟨h2.1, by rw [show s.len + (b.length + 1) = s.len + 1 + b.length by omega]; exact h2.2⟩
theorem addB_ok {b : List UInt8} {s : BS} (o : s.ok) (h : s.len + b.length ≤ 1073741824) : (addB s b).ok ∧ (addB s b).len = s.len + b.length := by rw [addB_eq]; exact addF_ok o h
theorem addB_append (s : BS) (b c : List UInt8) : addB s (b ++ c) = addB (addB s b) c := by
 rw [addB_eq, addB_eq, addB_eq]; exact List.foldl_append
theorem addB_nil (s : BS) : addB s [] = s := by rw [addB_eq]; rfl
theorem take_addB {s : BS} {b : List UInt8} {i : Nat} (h : i < b.length) : addB s (b.take (i + 1)) = stepB (addB s (b.take i)) (b.getD i 0) := by
 have : b.take (i + 1) = b.take i ++ [b.getD i 0] := by
  rw [List.take_succ_eq_append_getElem h, List.getD_eq_getElem?_getD, List.getElem?_eq_getElem h]; rfl
 rw [this, addB_append]
 generalize addB s (b.take i) = t
 rw [addB_eq]; rfl
def startS : BS := ⟨iv.set 0 1795745351, zero64, 0, 0⟩
theorem startS_ok : startS.ok := ⟨by simp [startS, zero64], by decide, by decide, by decide, by decide, by decide, fun _ => rfl, fun i _ => zero64_getD i⟩
def bytesB (h : List UInt32) : List UInt8 := (List.range 32).map fun i => (shr32 (h.getD (i / 4) 0) (8 * (i % 4))).toUInt8
noncomputable def endF (s : BS) : List UInt8 := bytesB (squeezeS s.h s.held (s.len : Int) true)
noncomputable def endB : BS → List UInt8 := (sealed endF).val
theorem endB_eq (s : BS) : endB s = endF s := by rw [endB, (sealed endF).property]
noncomputable def sumF (b : List UInt8) : List UInt8 := endB (addB startS b)
noncomputable def sumS : List UInt8 → List UInt8 := (sealed sumF).val
theorem sumS_eq (b : List UInt8) : sumS b = sumF b := by rw [sumS, (sealed sumF).property]
theorem length_endB (s : BS) : (endB s).length = 32 := by rw [endB_eq]; simp [endF, bytesB]
theorem length_sumS (b : List UInt8) : (sumS b).length = 32 := by rw [sumS_eq]; exact length_endB _
end Go.Bla
namespace Go.Fld
open Go Go.V
def bytesN : Nat → Nat → List UInt8
 | 0, _ => []
 | k + 1, n => UInt8.ofNat n :: bytesN k (n / 256)
theorem length_bytesN : ∀ (k n : Nat), (bytesN k n).length = k
 | 0, _ => rfl
 | k + 1, n => by simp [bytesN, length_bytesN k]
theorem shr_byte (a : UInt64) (k : Nat) (hk : k ≤ 56) : (shr64 a k).toUInt8 = UInt8.ofNat (a.toNat / 2 ^ k) := by
 apply UInt8.toNat.inj
 have h := lt64 a
 rw [UInt64.toNat_toUInt8, UInt8.toNat_ofNat']
 unfold shr64
 rw [toNat_of, Nat.mod_eq_of_lt (Nat.lt_of_le_of_lt (Nat.div_le_self _ _) h)]
theorem bytesN_limb (a : UInt64) (k m : Nat) : bytesN (k + 8) (a.toNat + 18446744073709551616 * m) =
  (shr64 a 0).toUInt8 :: (shr64 a 8).toUInt8 :: (shr64 a 16).toUInt8 :: (shr64 a 24).toUInt8 :: (shr64 a 32).toUInt8 :: (shr64 a 40).toUInt8 :: (shr64 a 48).toUInt8 :: (shr64 a 56).toUInt8 :: bytesN k m := by
 have h := lt64 a
 have e : ∀ x y : Nat, x % 256 = y % 256 → UInt8.ofNat x = UInt8.ofNat y := fun x y hxy => by
  apply UInt8.toNat.inj; rw [UInt8.toNat_ofNat', UInt8.toNat_ofNat']; exact hxy
 simp only [shr_byte a 0 (by decide), shr_byte a 8 (by decide), shr_byte a 16 (by decide), shr_byte a 24 (by decide), shr_byte a 32 (by decide), shr_byte a 40 (by decide), shr_byte a 48 (by decide), shr_byte a 56 (by decide)]
 simp only [bytesN]
 rw [show (a.toNat + 18446744073709551616 * m) / 256 / 256 / 256 / 256 / 256 / 256 / 256 / 256 = m by omega]
 simp only [List.cons.injEq, and_true]
 refine ⟨e _ _ ?_, e _ _ ?_, e _ _ ?_, e _ _ ?_, e _ _ ?_, e _ _ ?_, e _ _ ?_, e _ _ ?_⟩ <;> omega
theorem bytes_law (a0 a1 a2 a3 : UInt64) : bytesN 32 (val a0 a1 a2 a3) = [(shr64 a0 0).toUInt8, (shr64 a0 8).toUInt8, (shr64 a0 16).toUInt8, (shr64 a0 24).toUInt8, (shr64 a0 32).toUInt8, (shr64 a0 40).toUInt8, (shr64 a0 48).toUInt8, (shr64 a0 56).toUInt8, (shr64 a1 0).toUInt8, (shr64 a1 8).toUInt8, (shr64 a1 16).toUInt8, (shr64 a1 24).toUInt8, (shr64 a1 32).toUInt8, (shr64 a1 40).toUInt8, (shr64 a1 48).toUInt8, (shr64 a1 56).toUInt8, (shr64 a2 0).toUInt8, (shr64 a2 8).toUInt8, (shr64 a2 16).toUInt8, (shr64 a2 24).toUInt8, (shr64 a2 32).toUInt8, (shr64 a2 40).toUInt8, (shr64 a2 48).toUInt8, (shr64 a2 56).toUInt8, (shr64 a3 0).toUInt8, (shr64 a3 8).toUInt8, (shr64 a3 16).toUInt8, (shr64 a3 24).toUInt8, (shr64 a3 32).toUInt8, (shr64 a3 40).toUInt8, (shr64 a3 48).toUInt8, (shr64 a3 56).toUInt8] := by
 have e : val a0 a1 a2 a3 = a0.toNat + 18446744073709551616 * (a1.toNat + 18446744073709551616 * (a2.toNat + 18446744073709551616 * (a3.toNat + 18446744073709551616 * 0))) := by
  unfold val; omega
 rw [e, show (32 : Nat) = 0 + 8 + 8 + 8 + 8 from rfl, bytesN_limb, bytesN_limb, bytesN_limb, bytesN_limb]
 rfl
theorem prm_pr : Go.Num.Pr prm := Go.Num.pr_57896044618658097711785492504343953926634992332820282019728792003956564819949
def nv (l : List UInt64) : Nat := val (l.getD 0 0) (l.getD 1 0) (l.getD 2 0) (l.getD 3 0)
noncomputable def fes : Nat → List UInt64 := (sealed fe).val
theorem fes_eq (n : Nat) : fes n = fe n := by rw [fes, (sealed fe).property]
theorem eta4 {l : List UInt64} (h : l.length = 4) : l = [l.getD 0 0, l.getD 1 0, l.getD 2 0, l.getD 3 0] := by
 match l, h with
 | [a, b, c, d], _ => rfl
theorem fe_nv {l : List UInt64} (h : l.length = 4) : fe (nv l) = l := by
 unfold nv; rw [fe_val]; exact (eta4 h).symm
theorem fes_nv {l : List UInt64} (h : l.length = 4) : fes (nv l) = l := by rw [fes_eq, fe_nv h]
theorem nv_lt (l : List UInt64) : nv l < top := val_lt _ _ _ _
theorem nv_fe {n : Nat} (h : n < top) : nv (fe n) = n := by
 obtain ⟨a0, a1, a2, a3, rfl⟩ := val_ex h
 rw [fe_val]; rfl
theorem nv_fes {n : Nat} (h : n < top) : nv (fes n) = n := by rw [fes_eq, nv_fe h]
theorem fes_val (a0 a1 a2 a3 : UInt64) : fes (val a0 a1 a2 a3) = [a0, a1, a2, a3] := by rw [fes_eq, fe_val]
theorem nv_mk (a0 a1 a2 a3 : UInt64) : nv [a0, a1, a2, a3] = val a0 a1 a2 a3 := rfl
noncomputable def ltN : Nat → Nat → Bool := (sealed fun a b => decide (a < b)).val
theorem ltN_eq (a b : Nat) : ltN a b = decide (a < b) := by rw [ltN, (sealed fun a b => decide (a < b)).property]
noncomputable def mulhi : UInt64 → UInt64 → UInt64 := (sealed fun x y => UInt64.ofNat (x.toNat * y.toNat / 18446744073709551616)).val
theorem mulhi_eq (x y : UInt64) : mulhi x y = UInt64.ofNat (x.toNat * y.toNat / 18446744073709551616) := by
 rw [mulhi, (sealed fun (x y : UInt64) => UInt64.ofNat (x.toNat * y.toNat / 18446744073709551616)).property]
end Go.Fld
namespace Go.Fld
def subT (x y : Nat) : Nat := if x < y then x + top - y else x - y
end Go.Fld
namespace Go.Fld
open Go Go.V
def fromN (b : List UInt8) : Nat := leB b % 57896044618658097711785492504343953926634992332820282019728792003956564819968 % prm
noncomputable def bytesS : Nat → List UInt8 := (sealed (bytesN 32)).val
theorem bytesS_eq (n : Nat) : bytesS n = bytesN 32 n := by rw [bytesS, (sealed (bytesN 32)).property]
theorem length_bytesS (n : Nat) : (bytesS n).length = 32 := by rw [bytesS_eq, length_bytesN]
theorem mod_lt (n : Nat) : n % prm < prm := Nat.mod_lt _ (by decide)
theorem prm_top : prm < top := by decide
theorem mod_top (n : Nat) : n % prm < top := Nat.lt_trans (mod_lt n) prm_top
theorem fromN_lt (b : List UInt8) : fromN b < prm := mod_lt _
theorem nv_mod (n : Nat) : nv (fes (n % prm)) = n % prm := nv_fes (mod_top n)
theorem ltN_mod (n : Nat) : ltN (n % prm) prm = true := by rw [ltN_eq]; exact decide_eq_true (mod_lt n)
noncomputable def invS (a : List UInt64) : Nat → List UInt64 → List UInt64
 | 0, out => out
 | k + 1, out => invS a k (bif k == 4 || k == 2 then fes (nv out * nv out % prm) else fes (nv (fes (nv out * nv out % prm)) * nv a % prm))
theorem inv_bits : (List.range 255).all (fun i => (prm - 2) / 2 ^ i == 2 * ((prm - 2) / 2 ^ (i + 1)) + if i = 4 ∨ i = 2 then 0 else 1) = true := by kernel_rfl
theorem inv_bit {i : Nat} (h : i < 255) : (prm - 2) / 2 ^ i = 2 * ((prm - 2) / 2 ^ (i + 1)) + if i = 4 ∨ i = 2 then 0 else 1 := by
 have := List.all_eq_true.1 inv_bits i (by simpa using h)
 simpa using this
theorem invS_eq {a : List UInt64} : ∀ (k : Nat) (out : List UInt64), k ≤ 255 → out = fes (nv a ^ ((prm - 2) / 2 ^ k) % prm) → invS a k out = fes (nv a ^ (prm - 2) % prm)
 | 0, out, _, h => by rw [invS, h]; simp
 | k + 1, out, hk, h => by
  rw [invS]
  refine invS_eq k _ (by omega) ?_
  have hb := inv_bit (i := k) (by omega)
  have hn : nv out = nv a ^ ((prm - 2) / 2 ^ (k + 1)) % prm := by rw [h, nv_mod]
  rw [nv_mod, hn]
  generalize nv a = x at *
  generalize (prm - 2) / 2 ^ (k + 1) = e at *
  by_cases hc : k = 4 ∨ k = 2
  ·rw [if_pos hc] at hb
   have : (k == 4 || k == 2) = true := by simpa using hc
   rw [this, cond_true, hb, ← Nat.mul_mod, Nat.add_zero, ← Nat.pow_add, Nat.two_mul]
  ·rw [if_neg hc] at hb
   have : (k == 4 || k == 2) = false := by simpa using hc
   rw [this, cond_false, hb, Nat.mod_mul_mod, Nat.pow_succ, Nat.two_mul, Nat.pow_add]
   congr 1
   rw [Nat.mul_mod (x ^ e % prm * (x ^ e % prm)) x, ← Nat.mul_mod (x ^ e) (x ^ e), ← Nat.mul_mod]
theorem cell (x y o c : UInt64) : ((((x * y) + o) + 0 + c) + 0).toNat + 18446744073709551616 * ((mulhi x y + carry64 (x * y) o 0) + carry64 (((x * y) + o) + 0) c 0).toNat = x.toNat * y.toNat + o.toNat + c.toNat := by
 have p0 := add_part (x * y) o 0 (by decide)
 have p1 := add_part (x * y + o + 0) c 0 (by decide)
 have hx := lt64 x
 have hy := lt64 y
 have ho := lt64 o
 have hc := lt64 c
 have z : (0 : UInt64).toNat = 0 := rfl
 rw [z] at p0 p1
 have m : (x * y).toNat + 18446744073709551616 * (mulhi x y).toNat = x.toNat * y.toNat := by
  rw [mulhi_eq, UInt64.toNat_mul, toNat_of]
  have : x.toNat * y.toNat < 18446744073709551616 * 18446744073709551616 := Nat.mul_lt_mul'' hx hy
  omega
 have hm : x.toNat * y.toNat ≤ 18446744073709551615 * 18446744073709551615 := Nat.mul_le_mul (by omega) (by omega)
 generalize x.toNat * y.toNat = w at *
 generalize x * y + o + 0 = u at *
 generalize carry64 (x * y) o 0 = k0 at *
 generalize x * y = v at *
 rw [UInt64.toNat_add (mulhi x y + k0), UInt64.toNat_add (mulhi x y)]
 generalize carry64 u c 0 = k1 at *
 generalize u + c + 0 = t at *
 generalize mulhi x y = h at *
 have := lt64 t
 have := lt64 u
 omega
noncomputable def cellP {α : Type} (x y o c : UInt64) (k : UInt64 → UInt64 → α) : α := k ((((x * y) + o) + 0 + c) + 0) ((mulhi x y + carry64 (x * y) o 0) + carry64 (((x * y) + o) + 0) c 0)
theorem cellP_elim {α : Type} {Q : α → Prop} (x y o c : UInt64) (k : UInt64 → UInt64 → α) (h : ∀ l u, l.toNat + 18446744073709551616 * u.toNat = x.toNat * y.toNat + o.toNat + c.toNat → Q (k l u)) : Q (cellP x y o c k) := h _ _ (cell x y o c)
noncomputable def mulSpec (a0 a1 a2 a3 b0 b1 b2 b3 : UInt64) : List UInt64 × UInt64 :=
 cellP a0 b0 0 0 fun l00 c00 =>
 cellP a0 b1 0 c00 fun l01 c01 =>
 cellP a0 b2 0 c01 fun l02 c02 =>
 cellP a0 b3 0 c02 fun l03 c03 =>
 cellP a1 b0 l01 0 fun l10 c10 =>
 cellP a1 b1 l02 c10 fun l11 c11 =>
 cellP a1 b2 l03 c11 fun l12 c12 =>
 cellP a1 b3 c03 c12 fun l13 c13 =>
 cellP a2 b0 l11 0 fun l20 c20 =>
 cellP a2 b1 l12 c20 fun l21 c21 =>
 cellP a2 b2 l13 c21 fun l22 c22 =>
 cellP a2 b3 c13 c22 fun l23 c23 =>
 cellP a3 b0 l21 0 fun l30 c30 =>
 cellP a3 b1 l22 c30 fun l31 c31 =>
 cellP a3 b2 l23 c31 fun l32 c32 =>
 cellP a3 b3 c23 c32 fun l33 c33 =>
 cellP l31 38 l00 0 fun r0 d0 =>
 cellP l32 38 l10 d0 fun r1 d1 =>
 cellP l33 38 l20 d1 fun r2 d2 =>
 cellP c33 38 l30 d2 fun r3 d3 =>
 ([r0, r1, r2, r3], 38 * d3)
def mulOk (a0 a1 a2 a3 b0 b1 b2 b3 : UInt64) (z : List UInt64 × UInt64) : Prop := z.2.toNat ≤ 1444 ∧ (nv z.1 + z.2.toNat) % prm = (val a0 a1 a2 a3 * val b0 b1 b2 b3) % prm
theorem mulSpec_ok (a0 a1 a2 a3 b0 b1 b2 b3 : UInt64) : mulOk a0 a1 a2 a3 b0 b1 b2 b3 (mulSpec a0 a1 a2 a3 b0 b1 b2 b3) := by
 unfold mulSpec
 refine cellP_elim (Q := mulOk a0 a1 a2 a3 b0 b1 b2 b3) _ _ _ _ _ fun l00 c00 e00 => ?_
 refine cellP_elim (Q := mulOk a0 a1 a2 a3 b0 b1 b2 b3) _ _ _ _ _ fun l01 c01 e01 => ?_
 refine cellP_elim (Q := mulOk a0 a1 a2 a3 b0 b1 b2 b3) _ _ _ _ _ fun l02 c02 e02 => ?_
 refine cellP_elim (Q := mulOk a0 a1 a2 a3 b0 b1 b2 b3) _ _ _ _ _ fun l03 c03 e03 => ?_
 refine cellP_elim (Q := mulOk a0 a1 a2 a3 b0 b1 b2 b3) _ _ _ _ _ fun l10 c10 e10 => ?_
 refine cellP_elim (Q := mulOk a0 a1 a2 a3 b0 b1 b2 b3) _ _ _ _ _ fun l11 c11 e11 => ?_
 refine cellP_elim (Q := mulOk a0 a1 a2 a3 b0 b1 b2 b3) _ _ _ _ _ fun l12 c12 e12 => ?_
 refine cellP_elim (Q := mulOk a0 a1 a2 a3 b0 b1 b2 b3) _ _ _ _ _ fun l13 c13 e13 => ?_
 refine cellP_elim (Q := mulOk a0 a1 a2 a3 b0 b1 b2 b3) _ _ _ _ _ fun l20 c20 e20 => ?_
 refine cellP_elim (Q := mulOk a0 a1 a2 a3 b0 b1 b2 b3) _ _ _ _ _ fun l21 c21 e21 => ?_
 refine cellP_elim (Q := mulOk a0 a1 a2 a3 b0 b1 b2 b3) _ _ _ _ _ fun l22 c22 e22 => ?_
 refine cellP_elim (Q := mulOk a0 a1 a2 a3 b0 b1 b2 b3) _ _ _ _ _ fun l23 c23 e23 => ?_
 refine cellP_elim (Q := mulOk a0 a1 a2 a3 b0 b1 b2 b3) _ _ _ _ _ fun l30 c30 e30 => ?_
 refine cellP_elim (Q := mulOk a0 a1 a2 a3 b0 b1 b2 b3) _ _ _ _ _ fun l31 c31 e31 => ?_
 refine cellP_elim (Q := mulOk a0 a1 a2 a3 b0 b1 b2 b3) _ _ _ _ _ fun l32 c32 e32 => ?_
 refine cellP_elim (Q := mulOk a0 a1 a2 a3 b0 b1 b2 b3) _ _ _ _ _ fun l33 c33 e33 => ?_
 refine cellP_elim (Q := mulOk a0 a1 a2 a3 b0 b1 b2 b3) _ _ _ _ _ fun r0 d0 f0 => ?_
 refine cellP_elim (Q := mulOk a0 a1 a2 a3 b0 b1 b2 b3) _ _ _ _ _ fun r1 d1 f1 => ?_
 refine cellP_elim (Q := mulOk a0 a1 a2 a3 b0 b1 b2 b3) _ _ _ _ _ fun r2 d2 f2 => ?_
 refine cellP_elim (Q := mulOk a0 a1 a2 a3 b0 b1 b2 b3) _ _ _ _ _ fun r3 d3 f3 => ?_
 obtain ⟨k1, k2, k3⟩ := mul_law (a0 := a0) (a1 := a1) (a2 := a2) (a3 := a3) (b0 := b0) (b1 := b1) (b2 := b2) (b3 := b3) e00 e01 e02 e03 e10 e11 e12 e13 e20 e21 e22 e23 e30 e31 e32 e33 f0 f1 f2 f3
 exact ⟨by show (38 * d3).toNat ≤ 1444; omega, by show (nv [r0, r1, r2, r3] + (38 * d3).toNat) % prm = _; rw [nv_mk, k1]; exact k3⟩
end Go.Fld
namespace Go.Pol
open Go Go.V Go.Fld
def q : Nat := 1361129467683753853853498429727072845819
def v3F (l : List UInt64) : Nat := (l.getD 0 0).toNat + 18446744073709551616 * (l.getD 1 0).toNat + 340282366920938463463374607431768211456 * (l.getD 2 0).toNat
def w3F (n : Nat) : List UInt64 := [UInt64.ofNat n, UInt64.ofNat (n / 18446744073709551616), UInt64.ofNat (n / 340282366920938463463374607431768211456)]
def v2F (l : List UInt64) : Nat := (l.getD 0 0).toNat + 18446744073709551616 * (l.getD 1 0).toNat
noncomputable def v3 : List UInt64 → Nat := (sealed v3F).val
noncomputable def w3 : Nat → List UInt64 := (sealed w3F).val
noncomputable def v2 : List UInt64 → Nat := (sealed v2F).val
theorem v3_eq (l : List UInt64) : v3 l = v3F l := by rw [v3, (sealed v3F).property]
theorem w3_eq (n : Nat) : w3 n = w3F n := by rw [w3, (sealed w3F).property]
theorem v2_eq (l : List UInt64) : v2 l = v2F l := by rw [v2, (sealed v2F).property]
def ltF (a b : Nat) : Bool := Nat.ble (a + 1) b
noncomputable def ltQ : Nat → Nat → Bool := (sealed ltF).val
theorem ltQ_iff {a b : Nat} : ltQ a b = true ↔ a < b := by
 rw [ltQ, (sealed ltF).property]; exact ble_iff
theorem ltQ_of {a b : Nat} (h : a < b) : ltQ a b = true := ltQ_iff.2 h
theorem ltQ_no {a b : Nat} (h : b ≤ a) : ltQ a b = false := by
 cases e : ltQ a b
 ·rfl
 ·have := ltQ_iff.1 e; omega
theorem eta3 {l : List UInt64} (h : l.length = 3) : l = [l.getD 0 0, l.getD 1 0, l.getD 2 0] := by
 match l, h with
 | [a, b, c], _ => rfl
theorem eta2 {l : List UInt64} (h : l.length = 2) : l = [l.getD 0 0, l.getD 1 0] := by
 match l, h with
 | [a, b], _ => rfl
theorem v3_mk (a b c : UInt64) : v3 [a, b, c] = a.toNat + 18446744073709551616 * b.toNat + 340282366920938463463374607431768211456 * c.toNat := by rw [v3_eq]; rfl
theorem v2_mk (a b : UInt64) : v2 [a, b] = a.toNat + 18446744073709551616 * b.toNat := by rw [v2_eq]; rfl
theorem v3_w3 (n : Nat) : v3 (w3 n) = n % 6277101735386680763835789423207666416102355444464034512896 := by
 rw [w3_eq]; unfold w3F
 rw [v3_mk]
 simp only [toNat_of]
 omega
theorem v3_w3' {n : Nat} (h : n < 6277101735386680763835789423207666416102355444464034512896) : v3 (w3 n) = n := by
 rw [v3_w3, Nat.mod_eq_of_lt h]
theorem w3_mk {a b c : UInt64} {n : Nat} (h : n % 6277101735386680763835789423207666416102355444464034512896 = a.toNat + 18446744073709551616 * b.toNat + 340282366920938463463374607431768211456 * c.toNat) : w3 n = [a, b, c] := by
 have := lt64 a; have := lt64 b; have := lt64 c
 rw [w3_eq]; unfold w3F
 rw [ofNat_eq (a := a) (by omega), ofNat_eq (a := b) (by omega), ofNat_eq (a := c) (by omega)]
theorem w3_v3 (a b c : UInt64) : w3 (v3 [a, b, c]) = [a, b, c] := by
 have := lt64 a; have := lt64 b; have := lt64 c
 apply w3_mk; rw [v3_mk]; omega
theorem w3_v3' {l : List UInt64} (h : l.length = 3) : w3 (v3 l) = l := by
 rw [eta3 h, w3_v3]
theorem w3_0 (n : Nat) : (w3 n).getD 0 0 = UInt64.ofNat n := by rw [w3_eq]; rfl
theorem w3_1 (n : Nat) : (w3 n).getD 1 0 = UInt64.ofNat (n / 18446744073709551616) := by rw [w3_eq]; rfl
theorem w3_2 (n : Nat) : (w3 n).getD 2 0 = UInt64.ofNat (n / 340282366920938463463374607431768211456) := by rw [w3_eq]; rfl
def halfF (b : List UInt8) : UInt64 := (shl64 ((shl64 ((shl64 ((shl64 ((shl64 ((shl64 ((shl64 (0 ||| (UInt8.toUInt64 (List.getD b 7 0))) 8) ||| (UInt8.toUInt64 (List.getD b 6 0))) 8) ||| (UInt8.toUInt64 (List.getD b 5 0))) 8) ||| (UInt8.toUInt64 (List.getD b 4 0))) 8) ||| (UInt8.toUInt64 (List.getD b 3 0))) 8) ||| (UInt8.toUInt64 (List.getD b 2 0))) 8) ||| (UInt8.toUInt64 (List.getD b 1 0))) 8) ||| (UInt8.toUInt64 (List.getD b 0 0))
noncomputable def halfS : List UInt8 → UInt64 := (sealed halfF).val
theorem halfS_eq (b : List UInt8) : halfS b = halfF b := by rw [halfS, (sealed halfF).property]
theorem and3 (x : UInt64) : (x &&& 3).toNat = x.toNat % 4 := by
 rw [UInt64.toNat_and]
 exact Nat.and_two_pow_sub_one_eq_mod x.toNat 2
theorem shr2 (x : UInt64) : (shr64 x 2).toNat = x.toNat / 4 := by
 have := lt64 x
 unfold shr64
 rw [toNat_of]; omega
theorem shl62 (x : UInt64) : (shl64 x 62).toNat = 4611686018427387904 * (x.toNat % 4) := by
 have := lt64 x
 unfold shl64
 rw [toNat_of]; omega
theorem join (x y : UInt64) : (shr64 x 2 ||| shl64 y 62).toNat = x.toNat / 4 + 4611686018427387904 * (y.toNat % 4) := by
 have := lt64 x
 rw [UInt64.toNat_or, shr2, shl62, Nat.or_comm, show (4611686018427387904 : Nat) = 2 ^ 62 from rfl, ← Nat.two_pow_add_eq_or_of_lt (by omega)]
 omega
theorem set_and3 {n : Nat} : (w3 n).set 2 ((w3 n).getD 2 0 &&& 3) = w3 (n % 1361129467683753853853498429727072845824) := by
 symm
 have e : (w3 n).set 2 ((w3 n).getD 2 0 &&& 3) = [(w3 n).getD 0 0, (w3 n).getD 1 0, (w3 n).getD 2 0 &&& 3] := by rw [w3_eq]; rfl
 rw [e]
 apply w3_mk
 rw [and3, w3_0, w3_1, w3_2, toNat_of, toNat_of, toNat_of]
 omega
theorem shr_2 {n : Nat} (h : n < 6277101735386680763835789423207666416102355444464034512896) : (shr64 ((w3 n).getD 2 0) 2).toNat = n / 1361129467683753853853498429727072845824 := by
 rw [shr2, w3_2, toNat_of]; omega
theorem big3 {n : Nat} (h : n < 6277101735386680763835789423207666416102355444464034512896) : ltI 3 ((((w3 n).getD 2 0).toNat : Nat) : Int) = ltQ 1361129467683753853853498429727072845823 n := by
 rw [w3_2, toNat_of]
 rcases Nat.lt_or_ge 1361129467683753853853498429727072845823 n with h1 | h1
 ·rw [ltQ_of h1, ltI_of (by omega)]
 ·rw [ltQ_no h1, ltI_no (by omega)]
theorem toNat5 {x : UInt64} (h : x.toNat < 3689348814741910323) : (5 * x).toNat = 5 * x.toNat := by
 rw [UInt64.toNat_mul, show (5 : UInt64).toNat = 5 from rfl]; omega
theorem prod6 {a0 a1 a2 r0 r1 l00 c00 l01 c01 l10 c10 l11 c11 l20 c20 l21 c21 : Nat}
  (h0 : l00 + 18446744073709551616 * c00 = a0 * r0 + 0 + 0) (h1 : l01 + 18446744073709551616 * c01 = a0 * r1 + 0 + c00) (h2 : l10 + 18446744073709551616 * c10 = a1 * r0 + l01 + 0)
  (h3 : l11 + 18446744073709551616 * c11 = a1 * r1 + c01 + c10) (h4 : l20 + 18446744073709551616 * c20 = a2 * r0 + l11 + 0) (h5 : l21 + 18446744073709551616 * c21 = a2 * r1 + c11 + c20) :
  l00 + 18446744073709551616 * l10 + 340282366920938463463374607431768211456 * l20 + 6277101735386680763835789423207666416102355444464034512896 * l21 + 115792089237316195423570985008687907853269984665640564039457584007913129639936 * c21 =
   (a0 + 18446744073709551616 * a1 + 340282366920938463463374607431768211456 * a2) * (r0 + 18446744073709551616 * r1) := by
 have e : (a0 + 18446744073709551616 * a1 + 340282366920938463463374607431768211456 * a2) * (r0 + 18446744073709551616 * r1) =
   a0 * r0 + 18446744073709551616 * (a0 * r1 + a1 * r0) + 340282366920938463463374607431768211456 * (a1 * r1 + a2 * r0) + 6277101735386680763835789423207666416102355444464034512896 * (a2 * r1) := by grind
 rw [e]
 generalize a0 * r0 = p00 at *
 generalize a0 * r1 = p01 at *
 generalize a1 * r0 = p10 at *
 generalize a1 * r1 = p11 at *
 generalize a2 * r0 = p20 at *
 generalize a2 * r1 = p21 at *
 omega
theorem fin {V : Nat} (hV : V < 57896044618658097711785492504343953926634992332820282019728792003956564819968) {L : Nat} (hL : L = V % 1361129467683753853853498429727072845824 + 5 * (V / 1361129467683753853853498429727072845824)) :
  L < 1361129467683753853853498429727072845824 + 340282366920938463463374607431768211456 ∧ (1361129467683753853853498429727072845824 ≤ L → L % 1361129467683753853853498429727072845824 + 5 * (L / 1361129467683753853853498429727072845824) = V % q) ∧
   (L < 1361129467683753853853498429727072845824 → q ≤ L → L + 5 - 1361129467683753853853498429727072845824 = V % q) ∧ (L < q → L = V % q) := by
 unfold q at *
 refine ⟨by omega, fun h => ?_, fun h h2 => ?_, fun h => ?_⟩ <;> omega
theorem lo_of {l0 l1 l2 l3 l4 : Nat} (b0 : l0 < 18446744073709551616) (b1 : l1 < 18446744073709551616) : l0 + 18446744073709551616 * l1 + 340282366920938463463374607431768211456 * (l2 % 4) =
  (l0 + 18446744073709551616 * l1 + 340282366920938463463374607431768211456 * l2 + 6277101735386680763835789423207666416102355444464034512896 * l3 + 115792089237316195423570985008687907853269984665640564039457584007913129639936 * l4) % 1361129467683753853853498429727072845824 := by omega
theorem hi_of {l0 l1 l2 l3 l4 : Nat} (b0 : l0 < 18446744073709551616) (b1 : l1 < 18446744073709551616) :
  l2 / 4 + 4611686018427387904 * (l3 % 4) + 18446744073709551616 * (l3 / 4 + 4611686018427387904 * (l4 % 4)) + 340282366920938463463374607431768211456 * (l4 / 4) =
  (l0 + 18446744073709551616 * l1 + 340282366920938463463374607431768211456 * l2 + 6277101735386680763835789423207666416102355444464034512896 * l3 + 115792089237316195423570985008687907853269984665640564039457584007913129639936 * l4) / 1361129467683753853853498429727072845824 := by omega
theorem mod_less {n m : Nat} (h1 : m ≤ n) (h2 : n < 2 * m) : n % m = n - m := by
 rw [Nat.mod_eq_sub_mod h1, Nat.mod_eq_of_lt (by omega)]
set_option maxRecDepth 100000 in
theorem last {h s V : Nat} {y29 y31 y37 y39 : List UInt64} (e28 : h = V / 1361129467683753853853498429727072845824) (e29 : y29 = w3 (v3 (w3 (v3 (w3 (v3 (w3 (v3 (w3 (V % 1361129467683753853853498429727072845824 + h)) + h)) + h)) + h)) + h))
  (e31 : y31 = w3 (v3 (y29.set 2 (y29.getD 2 0 &&& 3)) + v3 [5 * shr64 (y29.getD 2 0) 2, 0, 0])) (e34 : s = v3 [5, 0, 0]) (e37 : y37 = w3 (v3 y31 + s)) (e39 : y39 = w3 (v3 y29 + s))
  (hV : V < 57896044618658097711785492504343953926634992332820282019728792003956564819968) :
  (ltI 3 (((y29.getD 2 0).toNat : Nat) : Int) = false ∧ ltI 3 (((y39.getD 2 0).toNat : Nat) : Int) = false ∧ y29 = w3 (V % q)) ∨
  (ltI 3 (((y29.getD 2 0).toNat : Nat) : Int) = false ∧ ltI 3 (((y39.getD 2 0).toNat : Nat) : Int) = true ∧ y39.set 2 (y39.getD 2 0 &&& 3) = w3 (V % q)) ∨
  (ltI 3 (((y29.getD 2 0).toNat : Nat) : Int) = true ∧ (ltI 3 (((y31.getD 2 0).toNat : Nat) : Int) = false ∧ ltI 3 (((y37.getD 2 0).toNat : Nat) : Int) = false) ∧ y31 = w3 (V % q)) := by
 have e5 : v3 [5, 0, 0] = 5 := by rw [v3_mk]; rfl
 rw [e5] at e34
 subst e34
 obtain ⟨g1, g2, g3, g4⟩ := fin hV rfl
 have hb := Nat.mod_lt V (show 0 < 1361129467683753853853498429727072845824 by decide)
 have hh : h < 42535295865117307932921825928971026432 := by omega
 have eW : V % q < 1361129467683753853853498429727072845819 := Nat.mod_lt _ (by decide)
 have hq : q = 1361129467683753853853498429727072845819 := rfl
 generalize V % q = W at *
 rw [← e28] at g1 g2 g3 g4
 generalize V % 1361129467683753853853498429727072845824 = u at *
 clear e28 hV
 rw [v3_w3' (n := u + h) (by omega), v3_w3' (n := u + h + h) (by omega), v3_w3' (n := u + h + h + h) (by omega), v3_w3' (n := u + h + h + h + h) (by omega),
  show u + h + h + h + h + h = u + 5 * h by omega] at e29
 have hL : u + 5 * h < 6277101735386680763835789423207666416102355444464034512896 := by omega
 generalize u + 5 * h = L at *
 clear hb hh u h
 subst e29
 rw [v3_w3' hL] at e39
 rw [set_and3, v3_w3' (n := L % _) (by omega)] at e31
 rw [big3 hL]
 subst e37 e39
 rw [big3 (n := L + 5) (by omega), set_and3]
 rcases Nat.lt_or_ge L 1361129467683753853853498429727072845824 with h | h
 ·rw [ltQ_no (b := L) (by omega)]
  rcases Nat.lt_or_ge L q with h2 | h2
  ·exact .inl ⟨rfl, ltQ_no (by omega), by rw [g4 h2]⟩
  ·refine .inr (.inl ⟨rfl, ltQ_of (by omega), ?_⟩)
   rw [← g3 h h2]
   exact congrArg w3 (mod_less (by omega) (by omega))
 ·have e6 : v3 [5 * shr64 ((w3 L).getD 2 0) 2, 0, 0] = 5 * (L / 1361129467683753853853498429727072845824) := by
   have := shr_2 hL
   clear e31 g2 g3 g4
   rw [v3_mk, toNat5 (by omega), this, show (0 : UInt64).toNat = 0 from rfl]; omega
  rw [e6, g2 h] at e31
  subst e31
  refine .inr (.inr ⟨ltQ_of (by omega), ⟨?_, ?_⟩, rfl⟩)
  ·rw [big3 (n := W) (by omega), ltQ_no (by omega)]
  ·rw [v3_w3' (n := W) (by omega), big3 (n := W + 5) (by omega), ltQ_no (by omega)]
def zeros : List UInt8 := [0, 0, 0, 0, 0, 0, 0, 0, 0, 0, 0, 0, 0, 0, 0, 0]
noncomputable def rowsF (h : List UInt8) : List UInt64 := (List.set (List.set (List.set [0, 0, 0] 0 (halfS (List.take 8 h))) 1 (halfS (List.drop 8 h))) 2 1)
noncomputable def partF (h : List UInt8) (n : Nat) : Nat :=
 if n < 16 then v3 (List.set (List.set (rowsF h) 2 0) (n / 8) ((List.getD (List.set (rowsF h) 2 0) (n / 8) 0) ||| (shl64 1 (8 * (n % 8))))) else v3 (rowsF h)
noncomputable def part : List UInt8 → Nat → Nat := (sealed partF).val
theorem part_eq (h : List UInt8) (n : Nat) : part h n = partF h n := by rw [part, (sealed partF).property]
theorem part_lt (h : List UInt8) {n : Nat} (hn : n ≤ 16) : part h n < 680564733841876926926749214863536422912 := by
 rw [part_eq]; unfold partF rowsF
 generalize halfS (List.take 8 h) = a
 generalize halfS (List.drop 8 h) = b
 have ha := lt64 a; have hb := lt64 b
 split
 ·rename_i h1
  rcases Nat.lt_or_ge n 8 with h2 | h2
  ·rw [show n / 8 = 0 by omega]
   show v3 [a ||| shl64 1 (8 * (n % 8)), b, 0] < _
   have := lt64 (a ||| shl64 1 (8 * (n % 8)))
   rw [v3_mk, show (0 : UInt64).toNat = 0 from rfl]; omega
  ·rw [show n / 8 = 1 by omega]
   show v3 [a, b ||| shl64 1 (8 * (n % 8)), 0] < _
   have := lt64 (b ||| shl64 1 (8 * (n % 8)))
   rw [v3_mk, show (0 : UInt64).toNat = 0 from rfl]; omega
 ·show v3 [a, b, 1] < _
  rw [v3_mk, show (1 : UInt64).toNat = 1 from rfl]; omega
structure PS where
 a : Nat
 h : List UInt8
 n : Nat
noncomputable def soakN (r : Nat) (a : Nat) (h : List UInt8) (n : Nat) : Nat := (a + part h n) * r % q
theorem soakN_lt (r a : Nat) (h : List UInt8) (n : Nat) : soakN r a h n < q := Nat.mod_lt _ (by decide)
noncomputable def stepP (r : Nat) (s : PS) (c : UInt8) : PS :=
 if s.n = 15 then ⟨soakN r s.a (s.h.set s.n c) 16, zeros, 0⟩ else ⟨s.a, s.h.set s.n c, s.n + 1⟩
noncomputable def addP (r : Nat) (s : PS) (b : List UInt8) : PS := b.foldl (stepP r) s
structure PS.ok (s : PS) : Prop where
 a : s.a < q
 h : s.h.length = 16
 n : s.n < 16
 z : ∀ i, s.n ≤ i → s.h.getD i 0 = 0
theorem zeros_getD (i : Nat) : zeros.getD i 0 = 0 := by
 rw [show zeros = List.replicate 16 0 from rfl, List.getD_eq_getElem?_getD, List.getElem?_replicate]
 split <;> rfl
theorem getD_set_ne {l : List UInt8} {i j : Nat} {x : UInt8} (h : i ≠ j) : (l.set i x).getD j 0 = l.getD j 0 := by
 rw [List.getD_eq_getElem?_getD, List.getD_eq_getElem?_getD, List.getElem?_set_ne h]
theorem stepP_ok {r : Nat} {s : PS} (o : s.ok) (c : UInt8) : (stepP r s c).ok := by
 unfold stepP
 split
 ·exact ⟨soakN_lt .., rfl, Nat.succ_pos 15, fun i _ => zeros_getD i⟩
 ·rename_i h
  have := o.n
  refine ⟨o.a, by simpa using o.h, by show s.n + 1 < 16; omega, fun i hi => ?_⟩
  have hi : s.n + 1 ≤ i := hi
  show (s.h.set s.n c).getD i 0 = 0
  rw [getD_set_ne (by omega)]
  exact o.z i (by omega)
theorem addP_ok {r : Nat} {b : List UInt8} : ∀ {s : PS}, s.ok → (addP r s b).ok := by
 induction b with
 | nil => exact fun o => o
 | cons c b ih => exact fun o => ih (stepP_ok o c)
theorem addP_append (r : Nat) (s : PS) (b c : List UInt8) : addP r s (b ++ c) = addP r (addP r s b) c := List.foldl_append
def okP (r a : List UInt64) (h : List UInt8) (n : Int) : Prop :=
 ((r.getD 0 0) &&& 17293822586014138368).toNat = 0 ∧ ((r.getD 1 0) &&& 17293822586014138371).toNat = 0 ∧ v3 a < q ∧ 0 ≤ n ∧ n < 16 ∧ ∀ i, n.toNat ≤ i → h.getD i 0 = 0
noncomputable def okF (r a : List UInt64) (h : List UInt8) (n : Int) : Bool := @decide (okP r a h n) (Classical.propDecidable _)
noncomputable def okS : List UInt64 → List UInt64 → List UInt8 → Int → Bool := (sealed okF).val
theorem okS_iff {r a : List UInt64} {h : List UInt8} {n : Int} : okS r a h n = true ↔ okP r a h n := by
 rw [okS, (sealed okF).property]; exact @decide_eq_true_iff _ (Classical.propDecidable _)
theorem okS_of {r : List UInt64} {s : PS} (o : s.ok) (h0 : ((r.getD 0 0) &&& 17293822586014138368).toNat = 0) (h1 : ((r.getD 1 0) &&& 17293822586014138371).toNat = 0) : okS r (w3 s.a) s.h ((s.n : Nat) : Int) = true := by
 have ha := o.a
 unfold q at ha
 exact okS_iff.2 ⟨h0, h1, by rw [v3_w3' (by omega)]; exact o.a, by omega, by have := o.n; omega, fun i hi => o.z i (by simpa using hi)⟩
theorem r1_lt {x : UInt64} (h : (x &&& 17293822586014138371).toNat = 0) : x.toNat < 1152921504606846976 := by
 rw [UInt64.toNat_and, show (17293822586014138371 : UInt64).toNat = 17293822586014138371 from rfl] at h
 have h2 : (x.toNat &&& 17293822586014138371) / 2 ^ 60 = x.toNat / 2 ^ 60 &&& 17293822586014138371 / 2 ^ 60 := Nat.and_div_two_pow
 rw [h, show 17293822586014138371 / 2 ^ 60 = 2 ^ 4 - 1 from rfl, Nat.and_two_pow_sub_one_eq_mod] at h2
 have := lt64 x
 omega
theorem okP.r2 {r a : List UInt64} {h : List UInt8} {n : Int} (o : okP r a h n) (hr : r.length = 2) : v2 r < 21267647932558653966460912964485513216 := by
 have h1 := r1_lt o.2.1
 rw [eta2 hr, v2_mk]
 have := lt64 (r.getD 0 0)
 omega
theorem eta16 {l : List UInt8} (h : l.length = 16) : l = [l.getD 0 0, l.getD 1 0, l.getD 2 0, l.getD 3 0, l.getD 4 0, l.getD 5 0, l.getD 6 0, l.getD 7 0, l.getD 8 0, l.getD 9 0, l.getD 10 0, l.getD 11 0, l.getD 12 0, l.getD 13 0, l.getD 14 0, l.getD 15 0] := by
 match l, h with
 | [_, _, _, _, _, _, _, _, _, _, _, _, _, _, _, _], _ => rfl
end Go.Pol
namespace Go.Fld
open Go.V
structure Rg where
 x0 : Nat
 x1 : Nat
 z0 : Nat
 z1 : Nat
def addm (a b : Nat) : Nat := (a + b) % prm
def subm (a b : Nat) : Nat := (a + prm - b) % prm
def mulm (a b : Nat) : Nat := a * b % prm
def Rg.swap (r : Rg) : Rg := ⟨r.x1, r.x0, r.z1, r.z0⟩
def Rg.swapB (b : Bool) (r : Rg) : Rg := match b with
 | true => r.swap
 | false => r
def Rg.step (u : Nat) (r : Rg) : Rg :=
 let a := addm r.x0 r.z0
 let b := subm r.x0 r.z0
 let c := addm r.x1 r.z1
 let d := subm r.x1 r.z1
 let aa := mulm a a
 let bb := mulm b b
 let e := subm aa bb
 let da := mulm d a
 let cb := mulm c b
 let s := addm da cb
 let t := subm da cb
 ⟨mulm aa bb, mulm s s, mulm e (addm aa (mulm 121665 e)), mulm u (mulm t t)⟩
def kbit (k : List UInt8) (i : Nat) : Bool := ((k.getD (i / 8) 0).toNat / 2 ^ (i % 8)) % 2 == 1
def lastB (k : List UInt8) : Nat → Bool
 | 0 => false
 | n + 1 => kbit k (254 - n)
def lad (k : List UInt8) (u : Nat) : Nat → Rg
 | 0 => ⟨1, u, 0, 1⟩
 | n + 1 => ((lad k u n).swapB (lastB k n ^^ kbit k (254 - n))).step u
def ladEnd (k : List UInt8) (u : Nat) : Rg := (lad k u 255).swapB (lastB k 255)
def multN (k : List UInt8) (u : Nat) : Nat :=
 let r := ladEnd k u
 mulm r.x0 (r.z0 ^ (prm - 2) % prm)
def clampB (k : List UInt8) : List UInt8 := (k.set 0 ((k.getD 0 0) &&& 248)).set 31 (((k.getD 31 0) &&& 127) ||| 64)
def Rg.lt (r : Rg) : Prop := r.x0 < prm ∧ r.x1 < prm ∧ r.z0 < prm ∧ r.z1 < prm
theorem Rg.lt_step (u : Nat) (r : Rg) : (r.step u).lt := ⟨mod_lt _, mod_lt _, mod_lt _, mod_lt _⟩
theorem lad_lt (k : List UInt8) {u : Nat} (hu : u < prm) : ∀ n, (lad k u n).lt
 | 0 => ⟨(by decide : 1 < prm), hu, (by decide : 0 < prm), (by decide : 1 < prm)⟩
 | n + 1 => Rg.lt_step _ _
end Go.Fld
namespace Go.Fld
open Go.V Go.Num
end Go.Fld
namespace Go.Edw
open Go.Fld
instance : NeZero prm := ⟨by decide⟩
abbrev F := Fin prm
instance decF (a b : F) : Decidable (a = b) := instDecidableEqFin prm a b
def inj (n : Nat) : F := Fin.ofNat prm n
theorem inj_val (n : Nat) : (inj n).val = n % prm := rfl
theorem val_pos {a : F} (h : a ≠ 0) : ¬ prm ∣ a.val := by
 intro hd
 have h2 : a.val ≠ 0 := fun e => h (Fin.ext e)
 have := Nat.le_of_dvd (by omega) hd
 have := a.isLt
 omega
theorem dom {a b : F} (h : a * b = 0) : a = 0 ∨ b = 0 := by
 have h1 := congrArg Fin.val h
 rw [Fin.val_mul] at h1
 have h2 : prm ∣ a.val * b.val := Nat.dvd_of_mod_eq_zero h1
 rcases prm_pr.dvd_mul h2 with h3 | h3
 ·left; refine Classical.byContradiction fun hn => val_pos hn h3
 ·right; refine Classical.byContradiction fun hn => val_pos hn h3
theorem mul_ne {a b : F} (ha : a ≠ 0) (hb : b ≠ 0) : a * b ≠ 0 := fun h => (dom h).elim ha hb
theorem cancel {a b c : F} (hc : c ≠ 0) (h : a * c = b * c) : a = b := by
 have : (a - b) * c = 0 := by grind
 rcases dom this with h | h
 ·grind
 ·exact absurd h hc
theorem two_ne : (2 : F) ≠ 0 := by decide +kernel
def inv (a : F) : F := inj (a.val ^ (prm - 2) % prm)
theorem mul_inv {a : F} (h : a ≠ 0) : a * inv a = 1 := by
 have hf := Go.Num.fermat1 prm_pr (val_pos h)
 obtain ⟨e, he, he'⟩ : ∃ e, prm - 2 = e ∧ prm - 1 = e + 1 := ⟨prm - 2, rfl, rfl⟩
 rw [inv, he]
 rw [he'] at hf
 apply Fin.ext
 rw [Fin.val_mul, inj_val, Nat.mod_mod, Nat.mul_mod_mod, Nat.mul_comm, ← Nat.pow_succ]
 exact hf
set_option maxHeartbeats 0
theorem assocX (d x1 x2 x3 y1 y2 y3 : F) (h1 : x1*x1+y1*y1-1-d*x1*x1*y1*y1 = 0) (h2 : x2*x2+y2*y2-1-d*x2*x2*y2*y2 = 0) (h3 : x3*x3+y3*y3-1-d*x3*x3*y3*y3 = 0) :
  ((x1*y2+x2*y1)*(1-(d*x1*x2*y1*y2))*y3+(y1*y2-x1*x2)*(1+(d*x1*x2*y1*y2))*x3) * (1-(d*x2*x3*y2*y3)*(d*x2*x3*y2*y3)+d*(x2*y3+x3*y2)*(y2*y3-x2*x3)*x1*y1) = (x1*(y2*y3-x2*x3)*(1+(d*x2*x3*y2*y3))+y1*(x2*y3+x3*y2)*(1-(d*x2*x3*y2*y3))) * (1-(d*x1*x2*y1*y2)*(d*x1*x2*y1*y2)+d*(x1*y2+x2*y1)*(y1*y2-x1*x2)*x3*y3) := by
 have h : ((x1*y2+x2*y1)*(1-(d*x1*x2*y1*y2))*y3+(y1*y2-x1*x2)*(1+(d*x1*x2*y1*y2))*x3) * (1-(d*x2*x3*y2*y3)*(d*x2*x3*y2*y3)+d*(x2*y3+x3*y2)*(y2*y3-x2*x3)*x1*y1) - (x1*(y2*y3-x2*x3)*(1+(d*x2*x3*y2*y3))+y1*(x2*y3+x3*y2)*(1-(d*x2*x3*y2*y3))) * (1-(d*x1*x2*y1*y2)*(d*x1*x2*y1*y2)+d*(x1*y2+x2*y1)*(y1*y2-x1*x2)*x3*y3) =
  (d*d*x1*x2*x2*x2*x2*x3*x3*y2*y2*y2*y3 - d*d*x1*x2*x2*x2*x3*y2*y2*y2*y2*y3*y3 + d*d*x2*x2*x2*x2*x3*y1*y2*y2*y2*y3*y3 + d*d*x2*x2*x2*x3*x3*y1*y2*y2*y2*y2*y3 - d*x1*x2*x2*x2*x2*x3*x3*y2*y3 - d*x1*x2*x2*x2*x3*x3*x3*y2*y2 + d*x1*x2*x2*x2*x3*y2*y2 + d*x1*x2*x2*y2*y2*y2*y3*y3*y3 - d*x1*x2*x2*y2*y2*y2*y3 + d*x1*x2*x3*y2*y2*y2*y2*y3*y3 - d*x2*x2*x2*x2*x3*y1*y2*y3*y3 + d*x2*x2*x2*y1*y2*y2*y3*y3*y3 - d*x2*x2*x2*y1*y2*y2*y3 + d*x2*x2*x3*x3*x3*y1*y2*y2*y2 - d*x2*x2*x3*y1*y2*y2*y2 - d*x2*x3*x3*y1*y2*y2*y2*y2*y3) * (x1*x1+y1*y1-1-d*x1*x1*y1*y1)
  + (0 - d*d*x1*x1*x2*x2*x3*x3*x3*y1*y2*y3*y3 - d*d*x1*x1*x2*x3*x3*y1*y2*y2*y3*y3*y3 - d*d*x1*x2*x2*x3*x3*y1*y1*y2*y3*y3*y3 + d*d*x1*x2*x3*x3*x3*y1*y1*y2*y2*y3*y3 + d*x1*x1*x1*x2*x2*x3*x3*y2*y3 + d*x1*x1*x1*x2*x3*x3*x3*y3*y3 - d*x1*x1*x1*x2*x3*y2*y2*y3*y3 - d*x1*x1*x1*x3*x3*y2*y3*y3*y3 + d*x1*x1*x2*x2*x3*y1*y2*y3*y3 + d*x1*x1*x2*x3*x3*y1*y2*y2*y3 - d*x1*x1*x2*x3*x3*y1*y3*y3*y3 - d*x1*x1*x3*x3*x3*y1*y2*y3*y3 + d*x1*x2*x2*x3*x3*y1*y1*y2*y3 - d*x1*x2*x2*x3*x3*y2*y3 + d*x1*x2*x3*x3*x3*y1*y1*y3*y3 - d*x1*x2*x3*x3*x3*y3*y3 - d*x1*x2*x3*y1*y1*y2*y2*y3*y3 + d*x1*x2*x3*y2*y2*y3*y3 - d*x1*x3*x3*y1*y1*y2*y3*y3*y3 + d*x1*x3*x3*y2*y3*y3*y3 + d*x2*x2*x3*y1*y1*y1*y2*y3*y3 - d*x2*x2*x3*y1*y2*y3*y3 + d*x2*x3*x3*y1*y1*y1*y2*y2*y3 - d*x2*x3*x3*y1*y1*y1*y3*y3*y3 - d*x2*x3*x3*y1*y2*y2*y3 + d*x2*x3*x3*y1*y3*y3*y3 - d*x3*x3*x3*y1*y1*y1*y2*y3*y3 + d*x3*x3*x3*y1*y2*y3*y3 - x1*x1*x1*x2*x3*x3*x3 - x1*x1*x1*x2*x3*y3*y3 + x1*x1*x1*x2*x3 + x1*x1*x1*x3*x3*y2*y3 + x1*x1*x1*y2*y3*y3*y3 - x1*x1*x1*y2*y3 + x1*x1*x2*x3*x3*y1*y3 + x1*x1*x2*y1*y3*y3*y3 - x1*x1*x2*y1*y3 + x1*x1*x3*x3*x3*y1*y2 + x1*x1*x3*y1*y2*y3*y3 - x1*x1*x3*y1*y2 - x1*x2*x3*x3*x3*y1*y1 + x1*x2*x3*x3*x3 - x1*x2*x3*y1*y1*y3*y3 + x1*x2*x3*y1*y1 + x1*x2*x3*y3*y3 - x1*x2*x3 + x1*x3*x3*y1*y1*y2*y3 - x1*x3*x3*y2*y3 + x1*y1*y1*y2*y3*y3*y3 - x1*y1*y1*y2*y3 - x1*y2*y3*y3*y3 + x1*y2*y3 + x2*x3*x3*y1*y1*y1*y3 - x2*x3*x3*y1*y3 + x2*y1*y1*y1*y3*y3*y3 - x2*y1*y1*y1*y3 - x2*y1*y3*y3*y3 + x2*y1*y3 + x3*x3*x3*y1*y1*y1*y2 - x3*x3*x3*y1*y2 + x3*y1*y1*y1*y2*y3*y3 - x3*y1*y1*y1*y2 - x3*y1*y2*y3*y3 + x3*y1*y2) * (x2*x2+y2*y2-1-d*x2*x2*y2*y2)
  + (d*x1*x1*x2*x2*x3*y1*y2 + d*x1*x1*x2*y1*y2*y2*y3 + d*x1*x2*x2*y1*y1*y2*y3 - d*x1*x2*x3*y1*y1*y2*y2 + x1*x1*x1*x2*x2*x2*x3 - x1*x1*x1*x2*x2*y2*y3 + x1*x1*x1*x2*x3*y2*y2 - x1*x1*x1*x2*x3 - x1*x1*x1*y2*y2*y2*y3 + x1*x1*x1*y2*y3 - x1*x1*x2*x2*x2*y1*y3 - x1*x1*x2*x2*x3*y1*y2 - x1*x1*x2*y1*y2*y2*y3 + x1*x1*x2*y1*y3 - x1*x1*x3*y1*y2*y2*y2 + x1*x1*x3*y1*y2 + x1*x2*x2*x2*x3*y1*y1 - x1*x2*x2*x2*x3 - x1*x2*x2*y1*y1*y2*y3 + x1*x2*x2*y2*y3 + x1*x2*x3*y1*y1*y2*y2 - x1*x2*x3*y1*y1 - x1*x2*x3*y2*y2 + x1*x2*x3 - x1*y1*y1*y2*y2*y2*y3 + x1*y1*y1*y2*y3 + x1*y2*y2*y2*y3 - x1*y2*y3 - x2*x2*x2*y1*y1*y1*y3 + x2*x2*x2*y1*y3 - x2*x2*x3*y1*y1*y1*y2 + x2*x2*x3*y1*y2 - x2*y1*y1*y1*y2*y2*y3 + x2*y1*y1*y1*y3 + x2*y1*y2*y2*y3 - x2*y1*y3 - x3*y1*y1*y1*y2*y2*y2 + x3*y1*y1*y1*y2 + x3*y1*y2*y2*y2 - x3*y1*y2) * (x3*x3+y3*y3-1-d*x3*x3*y3*y3) := by grind
 rw [h1, h2, h3] at h
 grind
theorem assocY (d x1 x2 x3 y1 y2 y3 : F) (h1 : x1*x1+y1*y1-1-d*x1*x1*y1*y1 = 0) (h2 : x2*x2+y2*y2-1-d*x2*x2*y2*y2 = 0) (h3 : x3*x3+y3*y3-1-d*x3*x3*y3*y3 = 0) :
  ((y1*y2-x1*x2)*(1+(d*x1*x2*y1*y2))*y3-(x1*y2+x2*y1)*(1-(d*x1*x2*y1*y2))*x3) * (1-(d*x2*x3*y2*y3)*(d*x2*x3*y2*y3)-d*(x2*y3+x3*y2)*(y2*y3-x2*x3)*x1*y1) = (y1*(y2*y3-x2*x3)*(1+(d*x2*x3*y2*y3))-x1*(x2*y3+x3*y2)*(1-(d*x2*x3*y2*y3))) * (1-(d*x1*x2*y1*y2)*(d*x1*x2*y1*y2)-d*(x1*y2+x2*y1)*(y1*y2-x1*x2)*x3*y3) := by
 have h : ((y1*y2-x1*x2)*(1+(d*x1*x2*y1*y2))*y3-(x1*y2+x2*y1)*(1-(d*x1*x2*y1*y2))*x3) * (1-(d*x2*x3*y2*y3)*(d*x2*x3*y2*y3)-d*(x2*y3+x3*y2)*(y2*y3-x2*x3)*x1*y1) - (y1*(y2*y3-x2*x3)*(1+(d*x2*x3*y2*y3))-x1*(x2*y3+x3*y2)*(1-(d*x2*x3*y2*y3))) * (1-(d*x1*x2*y1*y2)*(d*x1*x2*y1*y2)-d*(x1*y2+x2*y1)*(y1*y2-x1*x2)*x3*y3) =
  (0 - d*d*x1*x2*x2*x2*x2*x3*y2*y2*y2*y3*y3 - d*d*x1*x2*x2*x2*x3*x3*y2*y2*y2*y2*y3 + d*d*x2*x2*x2*x2*x3*x3*y1*y2*y2*y2*y3 - d*d*x2*x2*x2*x3*y1*y2*y2*y2*y2*y3*y3 + d*x1*x2*x2*x2*x2*x3*y2*y3*y3 - d*x1*x2*x2*x2*y2*y2*y3*y3*y3 + d*x1*x2*x2*x2*y2*y2*y3 - d*x1*x2*x2*x3*x3*x3*y2*y2*y2 + d*x1*x2*x2*x3*y2*y2*y2 + d*x1*x2*x3*x3*y2*y2*y2*y2*y3 - d*x2*x2*x2*x2*x3*x3*y1*y2*y3 - d*x2*x2*x2*x3*x3*x3*y1*y2*y2 + d*x2*x2*x2*x3*y1*y2*y2 + d*x2*x2*y1*y2*y2*y2*y3*y3*y3 - d*x2*x2*y1*y2*y2*y2*y3 + d*x2*x3*y1*y2*y2*y2*y2*y3*y3) * (x1*x1+y1*y1-1-d*x1*x1*y1*y1)
  + (0 - d*d*x1*x1*x2*x2*x3*x3*y1*y2*y3*y3*y3 + d*d*x1*x1*x2*x3*x3*x3*y1*y2*y2*y3*y3 + d*d*x1*x2*x2*x3*x3*x3*y1*y1*y2*y3*y3 + d*d*x1*x2*x3*x3*y1*y1*y2*y2*y3*y3*y3 - d*x1*x1*x1*x2*x2*x3*y2*y3*y3 - d*x1*x1*x1*x2*x3*x3*y2*y2*y3 + d*x1*x1*x1*x2*x3*x3*y3*y3*y3 + d*x1*x1*x1*x3*x3*x3*y2*y3*y3 + d*x1*x1*x2*x2*x3*x3*y1*y2*y3 + d*x1*x1*x2*x3*x3*x3*y1*y3*y3 - d*x1*x1*x2*x3*y1*y2*y2*y3*y3 - d*x1*x1*x3*x3*y1*y2*y3*y3*y3 - d*x1*x2*x2*x3*y1*y1*y2*y3*y3 + d*x1*x2*x2*x3*y2*y3*y3 - d*x1*x2*x3*x3*y1*y1*y2*y2*y3 + d*x1*x2*x3*x3*y1*y1*y3*y3*y3 + d*x1*x2*x3*x3*y2*y2*y3 - d*x1*x2*x3*x3*y3*y3*y3 + d*x1*x3*x3*x3*y1*y1*y2*y3*y3 - d*x1*x3*x3*x3*y2*y3*y3 + d*x2*x2*x3*x3*y1*y1*y1*y2*y3 - d*x2*x2*x3*x3*y1*y2*y3 + d*x2*x3*x3*x3*y1*y1*y1*y3*y3 - d*x2*x3*x3*x3*y1*y3*y3 - d*x2*x3*y1*y1*y1*y2*y2*y3*y3 + d*x2*x3*y1*y2*y2*y3*y3 - d*x3*x3*y1*y1*y1*y2*y3*y3*y3 + d*x3*x3*y1*y2*y3*y3*y3 - x1*x1*x1*x2*x3*x3*y3 - x1*x1*x1*x2*y3*y3*y3 + x1*x1*x1*x2*y3 - x1*x1*x1*x3*x3*x3*y2 - x1*x1*x1*x3*y2*y3*y3 + x1*x1*x1*x3*y2 - x1*x1*x2*x3*x3*x3*y1 - x1*x1*x2*x3*y1*y3*y3 + x1*x1*x2*x3*y1 + x1*x1*x3*x3*y1*y2*y3 + x1*x1*y1*y2*y3*y3*y3 - x1*x1*y1*y2*y3 - x1*x2*x3*x3*y1*y1*y3 + x1*x2*x3*x3*y3 - x1*x2*y1*y1*y3*y3*y3 + x1*x2*y1*y1*y3 + x1*x2*y3*y3*y3 - x1*x2*y3 - x1*x3*x3*x3*y1*y1*y2 + x1*x3*x3*x3*y2 - x1*x3*y1*y1*y2*y3*y3 + x1*x3*y1*y1*y2 + x1*x3*y2*y3*y3 - x1*x3*y2 - x2*x3*x3*x3*y1*y1*y1 + x2*x3*x3*x3*y1 - x2*x3*y1*y1*y1*y3*y3 + x2*x3*y1*y1*y1 + x2*x3*y1*y3*y3 - x2*x3*y1 + x3*x3*y1*y1*y1*y2*y3 - x3*x3*y1*y2*y3 + y1*y1*y1*y2*y3*y3*y3 - y1*y1*y1*y2*y3 - y1*y2*y3*y3*y3 + y1*y2*y3) * (x2*x2+y2*y2-1-d*x2*x2*y2*y2)
  + (d*x1*x1*x2*x2*y1*y2*y3 - d*x1*x1*x2*x3*y1*y2*y2 - d*x1*x2*x2*x3*y1*y1*y2 - d*x1*x2*y1*y1*y2*y2*y3 + x1*x1*x1*x2*x2*x2*y3 + x1*x1*x1*x2*x2*x3*y2 + x1*x1*x1*x2*y2*y2*y3 - x1*x1*x1*x2*y3 + x1*x1*x1*x3*y2*y2*y2 - x1*x1*x1*x3*y2 + x1*x1*x2*x2*x2*x3*y1 - x1*x1*x2*x2*y1*y2*y3 + x1*x1*x2*x3*y1*y2*y2 - x1*x1*x2*x3*y1 - x1*x1*y1*y2*y2*y2*y3 + x1*x1*y1*y2*y3 + x1*x2*x2*x2*y1*y1*y3 - x1*x2*x2*x2*y3 + x1*x2*x2*x3*y1*y1*y2 - x1*x2*x2*x3*y2 + x1*x2*y1*y1*y2*y2*y3 - x1*x2*y1*y1*y3 - x1*x2*y2*y2*y3 + x1*x2*y3 + x1*x3*y1*y1*y2*y2*y2 - x1*x3*y1*y1*y2 - x1*x3*y2*y2*y2 + x1*x3*y2 + x2*x2*x2*x3*y1*y1*y1 - x2*x2*x2*x3*y1 - x2*x2*y1*y1*y1*y2*y3 + x2*x2*y1*y2*y3 + x2*x3*y1*y1*y1*y2*y2 - x2*x3*y1*y1*y1 - x2*x3*y1*y2*y2 + x2*x3*y1 - y1*y1*y1*y2*y2*y2*y3 + y1*y1*y1*y2*y3 + y1*y2*y2*y2*y3 - y1*y2*y3) * (x3*x3+y3*y3-1-d*x3*x3*y3*y3) := by grind
 rw [h1, h2, h3] at h
 grind
def NS (d : F) : Prop := ∀ s t : F, d * (s * s) = t * t → s = 0
@[ext] structure Pt (d : F) where
 x : F
 y : F
 on : x*x+y*y-1-d*x*x*y*y = 0
theorem compl1 {d x1 y1 x2 y2 t : F} (ns : NS d) (h1 : x1*x1+y1*y1-1-d*x1*x1*y1*y1 = 0) (h2 : x2*x2+y2*y2-1-d*x2*x2*y2*y2 = 0) (ht : t = d*x1*x2*y1*y2) (h : t * t = 1) : False := by
 have a1 : d * ((x1*y1*(x2+y2)) * (x1*y1*(x2+y2))) = (x1+t*y1) * (x1+t*y1) := by
  have e1 : d * ((x1*y1*(x2+y2)) * (x1*y1*(x2+y2))) = d*x1*x1*y1*y1*(x2*x2+y2*y2) + 2*x1*y1*(d*x1*x2*y1*y2) := by grind
  have e2 : x2*x2+y2*y2 = 1 + d*x2*x2*y2*y2 := by grind
  have e3 : d*x1*x1*y1*y1*(1 + d*x2*x2*y2*y2) = d*x1*x1*y1*y1 + (d*x1*x2*y1*y2)*(d*x1*x2*y1*y2) := by grind
  rw [e1, e2, e3, ← ht, h]
  have e4 : (x1+t*y1) * (x1+t*y1) = x1*x1 + (t*t)*(y1*y1) + 2*x1*y1*t := by grind
  rw [e4, h]
  grind
 have a2 : d * ((x1*y1*(x2-y2)) * (x1*y1*(x2-y2))) = (x1-t*y1) * (x1-t*y1) := by
  have e1 : d * ((x1*y1*(x2-y2)) * (x1*y1*(x2-y2))) = d*x1*x1*y1*y1*(x2*x2+y2*y2) - 2*x1*y1*(d*x1*x2*y1*y2) := by grind
  have e2 : x2*x2+y2*y2 = 1 + d*x2*x2*y2*y2 := by grind
  have e3 : d*x1*x1*y1*y1*(1 + d*x2*x2*y2*y2) = d*x1*x1*y1*y1 + (d*x1*x2*y1*y2)*(d*x1*x2*y1*y2) := by grind
  rw [e1, e2, e3, ← ht, h]
  have e4 : (x1-t*y1) * (x1-t*y1) = x1*x1 + (t*t)*(y1*y1) - 2*x1*y1*t := by grind
  rw [e4, h]
  grind
 have b1 := ns _ _ a1
 have b2 := ns _ _ a2
 have b3 : 2 * t = 0 := by
  have : 2 * t = (x1*y1*(x2+y2) + x1*y1*(x2-y2)) * (d * y2) := by rw [ht]; grind
  rw [this, b1, b2]; grind
 rcases dom b3 with hh | hh
 ·exact two_ne hh
 ·rw [hh] at h
  have h01 : (0 : F) = 1 := by grind
  exact absurd (congrArg Fin.val h01) (by decide +kernel)
section
variable {d : F} (ns : NS d)
 include ns
theorem den1 (P Q : Pt d) : 1 + d*P.x*Q.x*P.y*Q.y ≠ 0 := fun h => compl1 ns P.on Q.on rfl (by
 have e : d*P.x*Q.x*P.y*Q.y = -1 := by grind
 rw [e]; grind)
theorem den2 (P Q : Pt d) : 1 - d*P.x*Q.x*P.y*Q.y ≠ 0 := fun h => compl1 ns P.on Q.on rfl (by
 have e : d*P.x*Q.x*P.y*Q.y = 1 := by grind
 rw [e]; grind)
end
theorem on_id (d X Y p q : F) : (X*X+Y*Y-1-d*X*X*Y*Y) * ((p*p)*(q*q)) = X * p * (X * p) * (q * q) + Y * q * (Y * q) * (p * p) - p * p * (q * q) - d * (X * p * (X * p)) * (Y * q * (Y * q)) := by grind
theorem mul0' (a b z : F) (h : z = 0) : a * z + b * z = z := by grind
theorem mul0 (a b : F) : a * 0 + b * 0 = 0 := mul0' a b 0 rfl
theorem on_law {d x1 x2 y1 y2 X Y : F} (h1 : x1*x1+y1*y1-1-d*x1*x1*y1*y1 = 0) (h2 : x2*x2+y2*y2-1-d*x2*x2*y2*y2 = 0)
  (hX : X * (1 + d*x1*x2*y1*y2) = x1*y2+x2*y1) (hY : Y * (1 - d*x1*x2*y1*y2) = y1*y2-x1*x2) :
  (X*X+Y*Y-1-d*X*X*Y*Y) * (((1 + d*x1*x2*y1*y2) * (1 + d*x1*x2*y1*y2)) * ((1 - d*x1*x2*y1*y2) * (1 - d*x1*x2*y1*y2))) = 0 := by
 have h : (x1*y2+x2*y1) * (x1*y2+x2*y1) * ((1 - d*x1*x2*y1*y2) * (1 - d*x1*x2*y1*y2)) + (y1*y2-x1*x2) * (y1*y2-x1*x2) * ((1 + d*x1*x2*y1*y2) * (1 + d*x1*x2*y1*y2))
   - ((1 + d*x1*x2*y1*y2) * (1 + d*x1*x2*y1*y2)) * ((1 - d*x1*x2*y1*y2) * (1 - d*x1*x2*y1*y2)) - d * ((x1*y2+x2*y1) * (x1*y2+x2*y1)) * ((y1*y2-x1*x2) * (y1*y2-x1*x2)) =
  (d*d*d*x1*x1*x2*x2*x2*x2*y1*y1*y2*y2*y2*y2 + d*d*x1*x1*x2*x2*x2*x2*y2*y2*y2*y2 + d*d*x2*x2*x2*x2*y1*y1*y2*y2*y2*y2 - d*d*x2*x2*x2*x2*y2*y2*y2*y2 - d*x1*x1*x2*x2*x2*x2*y2*y2 - d*x1*x1*x2*x2*y2*y2*y2*y2 - d*x2*x2*x2*x2*y1*y1*y2*y2 + 2*d*x2*x2*x2*x2*y2*y2*y2*y2 - d*x2*x2*y1*y1*y2*y2*y2*y2 - 2*d*x2*x2*y2*y2 - 2*x2*x2*x2*x2*y2*y2 + x2*x2*x2*x2 - 2*x2*x2*y2*y2*y2*y2 + 4*x2*x2*y2*y2 + y2*y2*y2*y2) * (x1*x1+y1*y1-1-d*x1*x1*y1*y1)
  + (d*x1*x1*x1*x1*x2*x2*y2*y2 - 2*d*x1*x1*x2*x2*y2*y2 + d*x2*x2*y1*y1*y1*y1*y2*y2 - 2*d*x2*x2*y1*y1*y2*y2 + d*x2*x2*y2*y2 + 2*x1*x1*x2*x2*y2*y2 - x1*x1*x2*x2 - x1*x1*y2*y2 + 2*x2*x2*y1*y1*y2*y2 - x2*x2*y1*y1 - 2*x2*x2*y2*y2 + x2*x2 - y1*y1*y2*y2 + y2*y2 + 1) * (x2*x2+y2*y2-1-d*x2*x2*y2*y2) := by grind
 rw [h1, h2, ← hX, ← hY] at h
 generalize 1 + d*x1*x2*y1*y2 = p at *
 generalize 1 - d*x1*x2*y1*y2 = q at *
 rw [on_id, h, mul0]
def add {d : F} (ns : NS d) (P Q : Pt d) : Pt d where
 x := (P.x*Q.y+Q.x*P.y) * inv (1 + d*P.x*Q.x*P.y*Q.y)
 y := (P.y*Q.y-P.x*Q.x) * inv (1 - d*P.x*Q.x*P.y*Q.y)
 on := by
  have m1 := mul_inv (den1 ns P Q)
  have m2 := mul_inv (den2 ns P Q)
  have h := on_law (X := (P.x*Q.y+Q.x*P.y) * inv (1 + d*P.x*Q.x*P.y*Q.y)) (Y := (P.y*Q.y-P.x*Q.x) * inv (1 - d*P.x*Q.x*P.y*Q.y)) P.on Q.on
   (by generalize inv (1 + d*P.x*Q.x*P.y*Q.y) = i at *; generalize 1 + d*P.x*Q.x*P.y*Q.y = p at *; generalize P.x*Q.y+Q.x*P.y = n; grind)
   (by generalize inv (1 - d*P.x*Q.x*P.y*Q.y) = i at *; generalize 1 - d*P.x*Q.x*P.y*Q.y = p at *; generalize P.y*Q.y-P.x*Q.x = n; grind)
  rcases dom h with h | h
  ·exact h
  ·exact absurd h (mul_ne (mul_ne (den1 ns P Q) (den1 ns P Q)) (mul_ne (den2 ns P Q) (den2 ns P Q)))
section
variable {d : F} (ns : NS d)
theorem add_x (P Q : Pt d) : (add ns P Q).x * (1 + d*P.x*Q.x*P.y*Q.y) = P.x*Q.y+Q.x*P.y := by
 have m1 := mul_inv (den1 ns P Q)
 show (P.x*Q.y+Q.x*P.y) * inv (1 + d*P.x*Q.x*P.y*Q.y) * (1 + d*P.x*Q.x*P.y*Q.y) = _
 generalize inv (1 + d*P.x*Q.x*P.y*Q.y) = i at *; generalize 1 + d*P.x*Q.x*P.y*Q.y = p at *; generalize P.x*Q.y+Q.x*P.y = n; grind
theorem add_y (P Q : Pt d) : (add ns P Q).y * (1 - d*P.x*Q.x*P.y*Q.y) = P.y*Q.y-P.x*Q.x := by
 have m2 := mul_inv (den2 ns P Q)
 show (P.y*Q.y-P.x*Q.x) * inv (1 - d*P.x*Q.x*P.y*Q.y) * (1 - d*P.x*Q.x*P.y*Q.y) = _
 generalize inv (1 - d*P.x*Q.x*P.y*Q.y) = i at *; generalize 1 - d*P.x*Q.x*P.y*Q.y = p at *; generalize P.y*Q.y-P.x*Q.x = n; grind
theorem add_eq {P Q R : Pt d} (hx : R.x * (1 + d*P.x*Q.x*P.y*Q.y) = P.x*Q.y+Q.x*P.y) (hy : R.y * (1 - d*P.x*Q.x*P.y*Q.y) = P.y*Q.y-P.x*Q.x) : add ns P Q = R :=
 Pt.ext (cancel (den1 ns P Q) ((add_x ns P Q).trans hx.symm)) (cancel (den2 ns P Q) ((add_y ns P Q).trans hy.symm))
theorem add_comm (P Q : Pt d) : add ns P Q = add ns Q P := by
 apply add_eq
 ·have := add_x ns Q P
  rw [show d*P.x*Q.x*P.y*Q.y = d*Q.x*P.x*Q.y*P.y by grind, this]; grind
 ·have := add_y ns Q P
  rw [show d*P.x*Q.x*P.y*Q.y = d*Q.x*P.x*Q.y*P.y by grind, this]; grind
theorem fracX {d t N M X12 Y12 x3 y3 X : F} (h1 : X12 * (1 + t) = N) (h2 : Y12 * (1 - t) = M) (h : X * (1 + d*X12*x3*Y12*y3) = X12*y3+x3*Y12) :
  X * (1-t*t+d*N*M*x3*y3) = N*(1-t)*y3+M*(1+t)*x3 ∧ 1-t*t+d*N*M*x3*y3 = ((1 + t) * (1 - t)) * (1 + d*X12*x3*Y12*y3) := by
 subst h1; subst h2
 have e : 1-t*t+d*(X12 * (1 + t))*(Y12 * (1 - t))*x3*y3 = ((1 + t) * (1 - t)) * (1 + d*X12*x3*Y12*y3) := by grind
 refine ⟨?_, e⟩
 rw [e]
 have : X * (((1 + t) * (1 - t)) * (1 + d*X12*x3*Y12*y3)) = ((1 + t) * (1 - t)) * (X * (1 + d*X12*x3*Y12*y3)) := by grind
 rw [this, h]; grind
theorem fracY {d t N M X12 Y12 x3 y3 Y : F} (h1 : X12 * (1 + t) = N) (h2 : Y12 * (1 - t) = M) (h : Y * (1 - d*X12*x3*Y12*y3) = Y12*y3-X12*x3) :
  Y * (1-t*t-d*N*M*x3*y3) = M*(1+t)*y3-N*(1-t)*x3 ∧ 1-t*t-d*N*M*x3*y3 = ((1 + t) * (1 - t)) * (1 - d*X12*x3*Y12*y3) := by
 subst h1; subst h2
 have e : 1-t*t-d*(X12 * (1 + t))*(Y12 * (1 - t))*x3*y3 = ((1 + t) * (1 - t)) * (1 - d*X12*x3*Y12*y3) := by grind
 refine ⟨?_, e⟩
 rw [e]
 have : Y * (((1 + t) * (1 - t)) * (1 - d*X12*x3*Y12*y3)) = ((1 + t) * (1 - t)) * (Y * (1 - d*X12*x3*Y12*y3)) := by grind
 rw [this, h]; grind
theorem add_assoc (P Q R : Pt d) : add ns (add ns P Q) R = add ns P (add ns Q R) := by
 have n1 := mul_ne (den1 ns P Q) (den2 ns P Q)
 have n2 := mul_ne (den1 ns Q R) (den2 ns Q R)
 apply Pt.ext
 ·obtain ⟨a1, a2⟩ := fracX (add_x ns P Q) (add_y ns P Q) (add_x ns (add ns P Q) R)
  obtain ⟨b1, b2⟩ := fracX (add_x ns Q R) (add_y ns Q R) (add_x ns (add ns Q R) P)
  have h := assocX d P.x Q.x R.x P.y Q.y R.y P.on Q.on R.on
  have z1 := mul_ne n1 (den1 ns (add ns P Q) R)
  have z2 := mul_ne n2 (den1 ns (add ns Q R) P)
  rw [← a2] at z1
  rw [← b2] at z2
  rw [add_comm ns P (add ns Q R)]
  generalize (add ns (add ns P Q) R).x = X at *
  generalize (add ns (add ns Q R) P).x = Y at *
  apply cancel (mul_ne z1 z2)
  generalize hB : 1-(d*P.x*Q.x*P.y*Q.y)*(d*P.x*Q.x*P.y*Q.y)+d*(P.x*Q.y+Q.x*P.y)*(P.y*Q.y-P.x*Q.x)*R.x*R.y = B at *
  generalize hB2 : 1-(d*Q.x*R.x*Q.y*R.y)*(d*Q.x*R.x*Q.y*R.y)+d*(Q.x*R.y+R.x*Q.y)*(Q.y*R.y-Q.x*R.x)*P.x*P.y = B2 at *
  have s1 : X * (B * B2) = (X * B) * B2 := by grind
  have s2 : Y * (B * B2) = (Y * B2) * B := by grind
  rw [s1, s2, a1, b1, h]
  grind
 ·obtain ⟨a1, a2⟩ := fracY (add_x ns P Q) (add_y ns P Q) (add_y ns (add ns P Q) R)
  obtain ⟨b1, b2⟩ := fracY (add_x ns Q R) (add_y ns Q R) (add_y ns (add ns Q R) P)
  have h := assocY d P.x Q.x R.x P.y Q.y R.y P.on Q.on R.on
  have z1 := mul_ne n1 (den2 ns (add ns P Q) R)
  have z2 := mul_ne n2 (den2 ns (add ns Q R) P)
  rw [← a2] at z1
  rw [← b2] at z2
  rw [add_comm ns P (add ns Q R)]
  generalize (add ns (add ns P Q) R).y = X at *
  generalize (add ns (add ns Q R) P).y = Y at *
  apply cancel (mul_ne z1 z2)
  generalize hB : 1-(d*P.x*Q.x*P.y*Q.y)*(d*P.x*Q.x*P.y*Q.y)-d*(P.x*Q.y+Q.x*P.y)*(P.y*Q.y-P.x*Q.x)*R.x*R.y = B at *
  generalize hB2 : 1-(d*Q.x*R.x*Q.y*R.y)*(d*Q.x*R.x*Q.y*R.y)-d*(Q.x*R.y+R.x*Q.y)*(Q.y*R.y-Q.x*R.x)*P.x*P.y = B2 at *
  have s1 : X * (B * B2) = (X * B) * B2 := by grind
  have s2 : Y * (B * B2) = (Y * B2) * B := by grind
  rw [s1, s2, a1, b1, h]
  grind
theorem nul_on (d z o : F) (hz : z = 0) (ho : o = 1) : z*z+o*o-1-d*z*z*o*o = 0 := by grind
def nul (d : F) : Pt d := ⟨0, 1, nul_on d 0 1 rfl rfl⟩
def neg (P : Pt d) : Pt d := ⟨-P.x, P.y, by have := P.on; grind⟩
def times (P : Pt d) : Nat → Pt d
 | 0 => nul d
 | n + 1 => add ns (times P n) P
end
def Rep {d : F} (P : Pt d) (X Z : F) : Prop := X * (1 - P.y) = Z * (1 + P.y) ∧ ¬ (X = 0 ∧ Z = 0)
def dx (X Z : F) : F := ((X+Z)*(X+Z)) * ((X-Z)*(X-Z))
def sz (u X0 Z0 X1 Z1 : F) : F := u * (((X1-Z1)*(X0+Z0) - (X1+Z1)*(X0-Z0)) * ((X1-Z1)*(X0+Z0) - (X1+Z1)*(X0-Z0)))
def d1 : F := inj 20800338683988658368647408995589388737092878452977063003340006470870624536394
def d2 : F := inj 28692721048178265397853269683490922171210976843790175684556505508326675974058
structure Place (u : F) where
 s : F
 d : F
 ns : NS d
 hs : s = 1 ∧ d*(1+121665) = 121665 ∨ s = -1 ∧ d*121665 = 1+121665
 P : Pt d
 on : s*u*(1-P.y) = 1+P.y
 fin : 1 - P.y ≠ 0
def Good {u : F} (p : Place u) (m : Nat) (r : Rg) : Prop :=
 Rep (times p.ns p.P m) (p.s * inj r.x0) (inj r.z0) ∧ Rep (times p.ns p.P (m + 1)) (p.s * inj r.x1) (inj r.z1)
section
variable {u : F} (p : Place u)
end
section
variable {d : F} (ns : NS d)
end
end Go.Edw