/- Pins: their order. -/
import Derived.Test.YtfpladpbnbpehaaPin

set_option linter.unusedSimpArgs false
set_option linter.unusedVariables false
namespace Go.Pin
open Go Go.V
theorem bl_iff : ∀ (x y : List UInt8), Op.bytesLess x y = true ↔ x < y
  | [], [] => by simp [Op.bytesLess]
  | _ :: _, [] => by simp [Op.bytesLess]
  | [], _ :: _ => by simp [Op.bytesLess]
  | a :: x, b :: y => by
    rw [Op.bytesLess, List.cons_lt_cons_iff, ← bl_iff x y]
    by_cases h1 : a < b <;> by_cases h2 : a = b <;> simp [h1, h2]
theorem bl_trans {x y z : List UInt8} (h : Op.bytesLess x y = true) (g : Op.bytesLess y z = true) : Op.bytesLess x z = true :=
  (bl_iff _ _).2 (List.lt_trans ((bl_iff _ _).1 h) ((bl_iff _ _).1 g))
theorem bl_irrefl (x : List UInt8) : Op.bytesLess x x = false := by
  cases h : Op.bytesLess x x with
  | false => rfl
  | true => exact absurd ((bl_iff _ _).1 h) (List.lt_irrefl _)
theorem bl_asymm {x y : List UInt8} (h : Op.bytesLess x y = true) : Op.bytesLess y x = false := by
  cases g : Op.bytesLess y x with
  | false => rfl
  | true => exact absurd ((bl_iff _ _).1 g) (List.lt_asymm ((bl_iff _ _).1 h))
theorem bl_total {x y : List UInt8} (h : Op.bytesLess x y = false) (g : Op.bytesLess y x = false) : x = y := by
  have h' : ¬ x < y := fun e => by rw [(bl_iff _ _).2 e] at h; cases h
  have g' : ¬ y < x := fun e => by rw [(bl_iff _ _).2 e] at g; cases g
  exact List.le_antisymm g' h'
def nm (l : List Pn) (i : Nat) : List UInt8 := (l.getD i pn0).name
theorem pinsOk_iff {l : List Pn} : pinsOk l = true ↔ ∀ i, i < l.length → nameOk (nm l i) = true ∧ (0 < i → Op.bytesLess (nm l (i - 1)) (nm l i) = true) := by
  unfold pinsOk
  rw [List.all_eq_true]
  constructor
  · intro h i hi
    have := h i (List.mem_range.2 hi)
    unfold pinOk at this
    rw [Bool.and_eq_true] at this
    refine ⟨this.1, fun h0 => ?_⟩
    have h2 := this.2
    rw [ltB_iff.2 h0, cond_true] at h2
    exact h2
  · intro h i hi
    obtain ⟨h1, h2⟩ := h i (List.mem_range.1 hi)
    unfold pinOk
    rw [Bool.and_eq_true]
    refine ⟨h1, ?_⟩
    cases hb : ltB 0 i with
    | false => rfl
    | true => exact h2 (ltB_iff.1 hb)
theorem nm_mono {l : List Pn} (h : pinsOk l = true) : ∀ (d i : Nat), i + d + 1 < l.length → Op.bytesLess (nm l i) (nm l (i + d + 1)) = true
  | 0, i, hi => by have := (pinsOk_iff.1 h (i + 1) hi).2 (by omega); exact this
  | d + 1, i, hi => by
    have h1 := nm_mono h d i (by omega)
    have h2 := (pinsOk_iff.1 h (i + d + 1 + 1) (by omega)).2 (by omega)
    exact bl_trans h1 h2
theorem nm_lt {l : List Pn} (h : pinsOk l = true) {i j : Nat} (hij : i < j) (hj : j < l.length) : Op.bytesLess (nm l i) (nm l j) = true := by
  have := nm_mono h (j - i - 1) i (by omega)
  rwa [show i + (j - i - 1) + 1 = j by omega] at this
theorem posP_le (l : List Pn) (s : List UInt8) : posP l s ≤ l.length := (List.takeWhile_sublist _).length_le
theorem posP_low {l : List Pn} {s : List UInt8} : ∀ {j : Nat}, j < posP l s → Op.bytesLess (nm l j) s = true := by
  unfold posP nm
  induction l with
  | nil => intro j h; simp at h
  | cons p l ih =>
    intro j h
    rw [List.takeWhile_cons] at h
    split at h
    · rename_i hp
      cases j with
      | zero => exact hp
      | succ j => exact ih (by simpa using h)
    · simp at h
theorem posP_at {l : List Pn} {s : List UInt8} : posP l s < l.length → Op.bytesLess (nm l (posP l s)) s = false := by
  unfold posP nm
  induction l with
  | nil => intro h; simp at h
  | cons p l ih =>
    intro h
    rw [List.takeWhile_cons] at h ⊢
    split
    · rename_i hp
      rw [if_pos hp] at h
      exact ih (by simpa using h)
    · rename_i hp
      simpa using hp
/-- Names ahead of a place are lesser ones, those from it on are not. -/
theorem posP_spec {l : List Pn} (h : pinsOk l = true) {s : List UInt8} {j : Nat} (hj : j < l.length) : Op.bytesLess (nm l j) s = ltB j (posP l s) := by
  rcases Nat.lt_or_ge j (posP l s) with k | k
  · rw [ltB_iff.2 k]; exact posP_low k
  · rw [ltB_no k]
    have h1 := posP_at (l := l) (s := s) (by omega)
    rcases Nat.lt_or_ge (posP l s) j with k2 | k2
    · cases hb : Op.bytesLess (nm l j) s with
      | false => rfl
      | true => rw [bl_trans (nm_lt h k2 hj) hb] at h1; cases h1
    · obtain rfl : j = posP l s := by omega
      exact h1
theorem mid_val {i j : Nat} (h : i + j < 9223372036854775808) : wr .i64 (((UInt64.toNat (shr64 (UInt64.ofNat (Int.toNat ((wr .i64 (((i : Nat) : Int) + ((j : Nat) : Int))) % 18446744073709551616))) 1)) : Nat) : Int) = (((i + j) / 2 : Nat) : Int) := by
  rw [wr_of (z := ((i : Nat) : Int) + _) (by omega) (by omega)]
  have e1 : ((((i : Nat) : Int) + ((j : Nat) : Int)) % 18446744073709551616).toNat = i + j := by omega
  rw [e1]
  unfold shr64
  have e2 : (UInt64.ofNat (i + j)).toNat = i + j := by rw [UInt64.toNat_ofNat']; omega
  rw [e2]
  have e3 : (UInt64.ofNat ((i + j) / 2 ^ 1)).toNat = (i + j) / 2 := by rw [UInt64.toNat_ofNat']; omega
  rw [e3]
  exact wr_of (by omega) (by omega)
end Go.Pin
namespace Go.Pin
open Go Go.V
theorem catF_pcs {a b : List Pn} {n : Nat} (hn : n = a.length) {f g : Nat → List AV} (hf : ∀ i, i < n → f i = pcs a i) (hg : ∀ i, i < b.length → g i = pcs b i) : ∀ i, i < n + b.length → catF n f g i = pcs (a ++ b) i := by
  intro i hi
  unfold catF
  subst hn
  rcases Nat.lt_or_ge i a.length with h | h
  · rw [ltB_iff.2 h, cond_true, hf i h, pcs_app1 h]
  · rw [ltB_no h, cond_false, hg _ (by omega)]
    have := pcs_app2 (a := a) (b := b) (x := i - a.length)
    rw [show a.length + (i - a.length) = i by omega] at this
    exact this.symm
theorem pcs_take {L : List Pn} {m i : Nat} (h : i < m) : pcs (L.take m) i = pcs L i := by
  unfold pcs; rw [List.getD_eq_getElem?_getD, List.getD_eq_getElem?_getD, List.getElem?_take, if_pos h]
theorem pcs_drop {L : List Pn} {m i : Nat} : pcs (L.drop m) i = pcs L (m + i) := by
  unfold pcs; rw [List.getD_eq_getElem?_getD, List.getD_eq_getElem?_getD, List.getElem?_drop]
def pnZ : Pn := ⟨[], [0, 0, 0, 0, 0, 0, 0, 0, 0, 0, 0, 0, 0, 0, 0, 0, 0, 0, 0, 0, 0, 0, 0, 0, 0, 0, 0, 0, 0, 0, 0, 0], false⟩
def findP (L : List Pn) (s : List UInt8) : Pn × Int := bif faultP L == 0 then (bif hasP L s then (L.getD (posP L s) pn0, 0) else (pnZ, 5)) else (pnZ, faultP L)
def insP (L : List Pn) (i : Nat) (p : Pn) : List Pn := (L.take i ++ [p]) ++ L.drop i
def chgP (L : List Pn) (i : Nat) (g : List Pn) : List Pn := (L.take i ++ g) ++ L.drop (i + 1)
def trustP (L : List Pn) (s k : List UInt8) : List Pn × Int :=
  bif faultP L == 0 then (bif nameOk s then (bif hasP L s then (bif (L.getD (posP L s) pn0).gone || !((L.getD (posP L s) pn0).key == k) then ([], 13) else (L, 0))
    else (bif L.length == 8 then ([], 8) else (insP L (posP L s) ⟨s, k, false⟩, 0))) else ([], 3)) else ([], faultP L)
def changeP (L : List Pn) (s : List UInt8) (g : Pn → List Pn) : List Pn × Int :=
  bif faultP L == 0 then (bif hasP L s then (chgP L (posP L s) (g (L.getD (posP L s) pn0)), 0) else ([], 5)) else ([], faultP L)
def rotateP (L : List Pn) (s k : List UInt8) : List Pn × Int := changeP L s fun p => [⟨p.name, k, false⟩]
def revokeP (L : List Pn) (s : List UInt8) : List Pn × Int := changeP L s fun p => [⟨p.name, p.key, true⟩]
def forgetP (L : List Pn) (s : List UInt8) : List Pn × Int := changeP L s fun _ => []
noncomputable def findS : List Pn → List UInt8 → Pn × Int := (sealed findP).val
theorem findS_eq : findS = findP := by rw [findS, (sealed findP).property]
noncomputable def trustS : List Pn → List UInt8 → List UInt8 → List Pn × Int := (sealed trustP).val
theorem trustS_eq : trustS = trustP := by rw [trustS, (sealed trustP).property]
noncomputable def rotateS : List Pn → List UInt8 → List UInt8 → List Pn × Int := (sealed rotateP).val
theorem rotateS_eq : rotateS = rotateP := by rw [rotateS, (sealed rotateP).property]
noncomputable def revokeS : List Pn → List UInt8 → List Pn × Int := (sealed revokeP).val
theorem revokeS_eq : revokeS = revokeP := by rw [revokeS, (sealed revokeP).property]
noncomputable def forgetS : List Pn → List UInt8 → List Pn × Int := (sealed forgetP).val
theorem forgetS_eq : forgetS = forgetP := by rw [forgetS, (sealed forgetP).property]
/-- Pins and what is wrong. -/
noncomputable def pinsO (r : List Pn × Int) : Out := .ret (.tup [.vecr false 34 r.1.length (pcs r.1), .int .i64 r.2]) []
theorem pins_nil {e : Int} {r : List Pn × Int} (h : r = ([], e)) : okOut (pinsO r) (.tup [.vec8 true [], .int .i64 e]) [] := by
  subst h
  exact okOut.cold (v' := .tup [.vec8 true [], .int .i64 e]) rfl (leV_tup (leRV_cons (leV_nil rfl) (leRV_cons (leV.refl _) leRV_nil))) rfl ⟨rfl, rfl⟩
theorem pins_rows {e : Int} {r : List Pn × Int} {M : List Pn} {n : Nat} {f : Nat → List AV} (h : r = (M, e)) (hn : n = M.length) (hf : ∀ i, i < n → f i = pcs M i) : okOut (pinsO r) (.tup [.slv 0 34 n f, .int .i64 e]) [.tail 34 n] := by
  subst h; subst hn
  exact okOut.cold (v' := .tup [.vecr false 34 M.length f, .int .i64 e]) rfl (leV_tup (leRV_cons (leV_vecr (fun h => h) fun i hi => leR.of_eq (pcs_ok M i).ok (hf i hi)) (leRV_cons (leV.refl _) leRV_nil))) rfl ⟨rfl, rfl⟩
theorem fault_le {L : List Pn} (h : faultP L = 0) : L.length ≤ 8 ∧ pinsOk L = true := by
  unfold faultP at h
  cases h8 : ltB 8 L.length with
  | true => rw [h8] at h; simp at h
  | false =>
    rw [h8] at h
    refine ⟨of_ltB_no h8, ?_⟩
    cases hp : pinsOk L with
    | true => rfl
    | false => rw [hp] at h; simp at h
end Go.Pin
