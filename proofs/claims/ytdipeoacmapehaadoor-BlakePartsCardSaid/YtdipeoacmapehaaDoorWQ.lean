/- The abstract layer (third state): package-level tables of rows, off a row's condition. -/
import Derived.Test.YtdipeoacmapehaaDoorWP

set_option linter.unusedSimpArgs false
set_option linter.unusedVariables false
namespace Go.V
open Go

theorem flat_drop {α : Type} {m : Nat} : ∀ {l : List (List α)} (i : Nat) {r : List α}, (∀ x ∈ l, x.length = m) → l[i]? = some r → (l.flatten.drop (i * m)).take m = r
  | [], i, r, _, h => by simp at h
  | x :: l, 0, r, hm, h => by
    simp at h
    subst h
    rw [Nat.zero_mul, List.drop_zero, List.flatten_cons, List.take_left' (hm _ (by simp))]
  | x :: l, i + 1, r, hm, h => by
    have hx := hm x (by simp)
    rw [List.flatten_cons, show (i + 1) * m = x.length + i * m by rw [hx, Nat.add_mul, Nat.one_mul, Nat.add_comm], ← List.drop_drop, List.drop_left]
    exact flat_drop (l := l) i (fun y hy => hm y (by simp [hy])) (by simpa using h)

theorem length_flat {α : Type} {m : Nat} : ∀ {l : List (List α)}, (∀ x ∈ l, x.length = m) → l.flatten.length = l.length * m
  | [], _ => by simp
  | x :: l, hm => by
    rw [List.flatten_cons, List.length_append, hm x (by simp), length_flat (fun y hy => hm y (by simp [hy])), List.length_cons, Nat.add_mul, Nat.one_mul, Nat.add_comm]

/-- Two lists that are the same in each of their parts. -/
theorem ext_parts {α : Type} {m : Nat} (hm : 0 < m) {n : Nat} {a b : List α} (ha : a.length = n * m) (hb : b.length = n * m) (h : ∀ i, i < n → (a.drop (i * m)).take m = (b.drop (i * m)).take m) : a = b := by
  apply List.ext_getElem?
  intro j
  rcases Nat.lt_or_ge j (n * m) with hj | hj
  · have hi : j / m < n := by rw [Nat.div_lt_iff_lt_mul hm]; exact hj
    have e := congrArg (·[j % m]?) (h (j / m) hi)
    have hlt := Nat.mod_lt j hm
    simp only [List.getElem?_take, hlt, if_true, List.getElem?_drop] at e
    rwa [Nat.mul_comm, Nat.div_add_mod] at e
  · rw [List.getElem?_eq_none (by omega), List.getElem?_eq_none (by omega)]

theorem cells_of_tab2 {H : Type} {enc : TypeId × Value → H} {P : Program} {w : World} {base : Nat} {sp : Nat → Bool} {held : Bool} {fuel : Nat} {t e e' : TypeId} {n m : Nat} {k : IntKind} {cs : List Value} {zss : List (List Int)} {p : List MemPlace}
    (hm : 0 < m) (ht : P.underlying t = some (.array n e)) (he : P.underlying e = some (.array m e')) (he' : P.underlying e' = some (.int k)) (hce' : P.cellsOf e' = 1) (hce : P.cellsOf e = m) (hct : P.cellsOf t = n * m) (hz : ∀ zs ∈ zss, zs.length = m)
    (h : DataW.trod enc P w base sp held fuel t cs = some (.agg (zss.map (Lib.tabData k)), p)) : cs = zss.flatten.map fun z => Value.int k z := by
  cases fuel with
  | zero => simp [DataW.trod] at h
  | succ fuel =>
    simp only [DataW.trod, ht, hce, hct] at h
    split at h
    · rename_i hl
      obtain ⟨xs, hmm, hx⟩ := Option.map_eq_some_iff.1 h
      have hxs : xs.map (·.1) = zss.map (Lib.tabData k) := by
        have := congrArg Prod.fst hx
        simpa using this
      have hxl : xs.length = n := by simpa using Lib.mapM_length hmm
      have hzl : zss.length = n := by
        have := congrArg List.length hxs
        simp at this
        omega
      refine ext_parts hm (n := n) hl (by rw [List.length_map, length_flat hz, hzl]) fun i hi => ?_
      obtain ⟨b, hb, hf⟩ := Lib.mapM_at hmm i i (by simp [hi])
      obtain ⟨zs, hzs⟩ : ∃ zs, zss[i]? = some zs := ⟨zss[i], by simp [hzl, hi]⟩
      have h2 : (xs.map (·.1))[i]? = some b.1 := by simp [hb]
      rw [hxs] at h2
      simp only [List.getElem?_map, hzs, Option.map_some, Option.some.injEq] at h2
      have hf' : DataW.trod enc P w base sp held fuel e ((cs.drop (i * m)).take m) = some (Lib.tabData k zs, b.2) := by rw [h2]; exact hf
      rw [Lib.cells_of_tab he he' hce' hce hf', ← List.map_drop, ← List.map_take, flat_drop i hz hzs]
    · cases h

/-- The second table of a row's list. -/
theorem tab2_of_second {P : Program} {W : World} {n1 name : String} {d1 : DataW Unit} {k : IntKind} {zss : List (List Int)} {rest : List (String × DataW Unit)} {g : Nat} {t e e' : TypeId} {n m : Nat}
    (hg : P.globalNamed name = some g) (hty : (P.globals[g]?).map (·.type) = some t) (hm : 0 < m) (ht : P.underlying t = some (.array n e)) (he : P.underlying e = some (.array m e')) (he' : P.underlying e' = some (.int k)) (hce' : P.cellsOf e' = 1) (hce : P.cellsOf e = m) (hct : P.cellsOf t = n * m) (hz : ∀ zs ∈ zss, zs.length = m)
    (h : laidMet P ((n1, d1) :: (name, .agg (zss.map (Lib.tabData k))) :: rest) W) : Lib.TabIs P W name k zss.flatten := by
  obtain ⟨ps, ⟨_, _, _, _, _, _, _, _, _, _, h2, _⟩, _⟩ := h
  obtain ⟨g', t', cs, fuel, p, q, hg', ht', hvar, hd, _, _⟩ := h2
  obtain rfl := Option.some.inj (hg.symm.trans hg')
  obtain rfl := Option.some.inj (hty.symm.trans ht')
  unfold Lib.TabIs
  rw [hvar, ← cells_of_tab2 hm ht he he' hce' hce hct hz hd]
end Go.V
