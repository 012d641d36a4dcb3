/- Pins, as plain things. -/
import Derived.Test.YtfpladpbnbpehaaUC

set_option linter.unusedSimpArgs false
set_option linter.unusedVariables false
namespace Go.Pin
open Go Go.V
structure Pn where
  name : List UInt8
  key : List UInt8
  gone : Bool
  deriving DecidableEq
def pn0 : Pn := ⟨[], [], false⟩
def Pn.cells (p : Pn) : List AV := [.str p.name, .b8 32 p.key, .bool p.gone]
def pcs (l : List Pn) (i : Nat) : List AV := (l.getD i pn0).cells
theorem pcs_ok (l : List Pn) (i : Nat) : leR (pcs l i) (pcs l i) := leR.refl rfl
theorem pcs_app1 {a b : List Pn} {x : Nat} (h : x < a.length) : pcs (a ++ b) x = pcs a x := by
  unfold pcs; rw [List.getD_eq_getElem?_getD, List.getD_eq_getElem?_getD, List.getElem?_append_left h]
theorem pcs_app2 {a b : List Pn} {x : Nat} : pcs (a ++ b) (a.length + x) = pcs b x := by
  unfold pcs; rw [List.getD_eq_getElem?_getD, List.getD_eq_getElem?_getD, List.getElem?_append_right (by omega), Nat.add_sub_cancel_left]
theorem pcs_inj {l l' : List Pn} (h1 : l.length = l'.length) (h2 : ∀ i, i < l.length → pcs l i = pcs l' i) : l = l' := by
  apply List.ext_getElem h1
  intro i hi hi'
  have := h2 i hi
  unfold pcs at this
  rw [List.getD_eq_getElem?_getD, List.getD_eq_getElem?_getD, List.getElem?_eq_getElem hi, List.getElem?_eq_getElem hi'] at this
  simp only [Option.getD_some, Pn.cells, List.cons.injEq, AV.str.injEq, AV.b8.injEq, AV.bool.injEq, true_and, and_true] at this
  obtain ⟨a, b, c⟩ := this
  cases h : l[i]; cases h' : l'[i]
  simp_all
/-- Pins off rows. -/
noncomputable def pnsOf (n : Nat) (f : Nat → List AV) : List Pn := @dite _ (∃ l : List Pn, n = l.length ∧ ∀ i, i < n → f i = pcs l i) (Classical.propDecidable _) (fun h => Classical.choose h) (fun _ => [])
theorem pnsOf_eq {n : Nat} {f : Nat → List AV} (l : List Pn) (hn : n = l.length) (hf : ∀ i, i < n → f i = pcs l i) : pnsOf n f = l := by
  unfold pnsOf
  have h : ∃ l : List Pn, n = l.length ∧ ∀ i, i < n → f i = pcs l i := ⟨l, hn, hf⟩
  rw [dif_pos h]
  obtain ⟨h1, h2⟩ := Classical.choose_spec h
  exact pcs_inj (h1.symm.trans hn) fun i hi => by rw [← h2 i (by omega), hf i (by omega)]
noncomputable def isPnsF (n : Nat) (f : Nat → List AV) : Bool := yes (∃ l : List Pn, n = l.length ∧ ∀ i, i < n → f i = pcs l i)
noncomputable def isPns : Nat → (Nat → List AV) → Bool := (sealed isPnsF).val
theorem isPns_iff {n : Nat} {f : Nat → List AV} : isPns n f = true ↔ ∃ l : List Pn, n = l.length ∧ ∀ i, i < n → f i = pcs l i := by
  rw [isPns, (sealed isPnsF).property]; exact yes_iff
theorem isPns_pcs {l : List Pn} : isPns l.length (pcs l) = true := isPns_iff.2 ⟨l, rfl, fun _ _ => rfl⟩

/-- Is it a name? -/
def nameOk (s : List UInt8) : Bool := leB 1 s.length && leB s.length 16
/-- May the pin at a place be? -/
def pinOk (l : List Pn) (i : Nat) : Bool := nameOk (l.getD i pn0).name && (bif ltB 0 i then Op.bytesLess (l.getD (i - 1) pn0).name (l.getD i pn0).name else true)
def pinsOk (l : List Pn) : Bool := (List.range l.length).all (pinOk l)
def faultP (l : List Pn) : Int := bif ltB 8 l.length then 1 else bif pinsOk l then 0 else 9
noncomputable def faultPS : List Pn → Int := (sealed faultP).val
theorem faultPS_eq : faultPS = faultP := by rw [faultPS, (sealed faultP).property]
/-- How many names are ahead. -/
def posP (l : List Pn) (s : List UInt8) : Nat := (l.takeWhile fun p => Op.bytesLess p.name s).length
def hasP (l : List Pn) (s : List UInt8) : Bool := ltB (posP l s) l.length && (l.getD (posP l s) pn0).name == s
end Go.Pin
