/- Frames, as plain things. -/
import Derived.Test.YtfpladpbnbpehaaUT
import Derived.Test.YtfpladpbnbpehaaNums

set_option linter.unusedSimpArgs false
set_option linter.unusedVariables false
namespace Go.Frm
open Go Go.V
structure Fr where
  kind : Int
  id : Int
  body : List UInt8
  deriving DecidableEq
def fr0 : Fr := ⟨0, 0, []⟩
def Fr.cells (f : Fr) : List AV := [.int .i64 f.kind, .int .i64 f.id, .vec8 false f.body]
def frs (l : List Fr) (i : Nat) : List AV := (l.getD i fr0).cells
/-- A frame of a raw thing. -/
def frOf (r : Raw3) : Fr := ⟨1 + r.kind % 5, r.a % 256, bif 1 + r.kind % 5 == 5 then [] else r.text.take 50⟩
def fsOf (l : List Raw3) : List Fr := (l.take 8).map frOf
end Go.Frm
namespace Go.Frm
open Go Go.V
/-- What is wrong with a frame. -/
def fault (k i : Int) (b : List UInt8) : Int := if k < 1 ∨ 5 < k then 2 else if i < 0 ∨ 255 < i then 6 else if 900 < b.length then 1 else if k = 5 ∧ 0 < b.length then 3 else 0
noncomputable def faultS : Int → Int → List UInt8 → Int := (sealed fault).val
theorem faultS_eq : faultS = fault := by rw [faultS, (sealed fault).property]
def encF (k i : Int) (b : List UInt8) : List UInt8 := bif fault k i b == 0 then [UInt8.ofNat k.toNat, UInt8.ofNat i.toNat, UInt8.ofNat (b.length / 256), UInt8.ofNat b.length] ++ b else []
noncomputable def encS : Int → Int → List UInt8 → List UInt8 := (sealed encF).val
theorem encS_eq : encS = encF := by rw [encS, (sealed encF).property]
/-- Frames read off bytes: frames, what is left, and what is wrong. -/
structure Fed where
  fs : List Fr
  rest : List UInt8
  e : Int
def Fed.pre (l : List Fr) (d : Fed) : Fed := bif d.e == 0 then ⟨l ++ d.fs, d.rest, 0⟩ else d
def fd0 (e : Int) : Fed := ⟨[], [], e⟩
def lenOf (l : List UInt8) : Nat := (l.getD 2 0).toNat * 256 + (l.getD 3 0).toNat
/-- What one step comes to: an end, or a frame and the rest. -/
def fdStep (l : List UInt8) : Fed ⊕ (Fr × Nat) :=
  if l.length < 4 then .inl ⟨[], l, 0⟩
  else if fault (l.getD 0 0).toNat (l.getD 1 0).toNat [] ≠ 0 then .inl (fd0 (fault (l.getD 0 0).toNat (l.getD 1 0).toNat []))
  else if 900 < lenOf l then .inl (fd0 1)
  else if (l.getD 0 0).toNat = 5 ∧ 0 < lenOf l then .inl (fd0 3)
  else if l.length < 4 + lenOf l then .inl ⟨[], l, 0⟩
  else .inr (⟨(l.getD 0 0).toNat, (l.getD 1 0).toNat, (l.drop 4).take (lenOf l)⟩, 4 + lenOf l)
def fdN : Nat → List UInt8 → Fed
  | 0, l => ⟨[], l, 0⟩
  | n + 1, l => match fdStep l with
    | .inl d => d
    | .inr (f, k) => (fdN n (l.drop k)).pre [f]
def fdF (l : List UInt8) : Fed := fdN l.length l
noncomputable def fdS : List UInt8 → Fed := (sealed fdF).val
theorem fdS_eq : fdS = fdF := by rw [fdS, (sealed fdF).property]
def feedF (h b : List UInt8) : Fed := bif ltB 903 h.length then fd0 9 else fdF (h ++ b)
noncomputable def feedS : List UInt8 → List UInt8 → Fed := (sealed feedF).val
theorem feedS_eq : feedS = feedF := by rw [feedS, (sealed feedF).property]
end Go.Frm
namespace Go.Frm
open Go Go.V
open Classical in
/-- Raw things off rows. -/
noncomputable def rawsOf (n : Nat) (f : Nat → List AV) : List Raw3 := if h : ∃ l : List Raw3, n = l.length ∧ f = rawsF l then Classical.choose h else []
theorem rawsF_inj {l l' : List Raw3} (h1 : l.length = l'.length) (h2 : rawsF l = rawsF l') : l = l' := by
  apply List.ext_getElem h1
  intro i hi hi'
  have := congrFun h2 i
  unfold rawsF at this
  rw [List.getD_eq_getElem?_getD, List.getD_eq_getElem?_getD, List.getElem?_eq_getElem hi, List.getElem?_eq_getElem hi'] at this
  simp only [Option.getD_some, Raw3.cells, List.cons.injEq, AV.int.injEq, AV.str.injEq, true_and, and_true] at this
  obtain ⟨a, b, c, d⟩ := this
  cases h : l[i]; cases h' : l'[i]
  simp_all
theorem rawsOf_eq (l : List Raw3) : rawsOf l.length (rawsF l) = l := by
  unfold rawsOf
  have h : ∃ l' : List Raw3, l.length = l'.length ∧ rawsF l = rawsF l' := ⟨l, rfl, rfl⟩
  rw [dif_pos h]
  obtain ⟨h1, h2⟩ := Classical.choose_spec h
  exact (rawsF_inj h1 h2).symm
end Go.Frm
namespace Go.Frm
open Go Go.V
theorem fdStep_short {l : List UInt8} (h : l.length < 4) : fdStep l = .inl ⟨[], l, 0⟩ := by unfold fdStep; rw [if_pos h]
theorem fdStep_pos {l : List UInt8} {f : Fr} {k : Nat} (h : fdStep l = .inr (f, k)) : 4 ≤ k ∧ k ≤ l.length := by
  unfold fdStep at h
  repeat (split at h; · cases h)
  simp only [Sum.inr.injEq, Prod.mk.injEq] at h
  omega
theorem fdN_big : ∀ (n m : Nat) (l : List UInt8), l.length ≤ n → l.length ≤ m → fdN n l = fdN m l
  | 0, 0, _, _, _ => rfl
  | 0, m + 1, l, h, _ => by
    have : l = [] := List.eq_nil_of_length_eq_zero (by omega)
    subst this; rfl
  | n + 1, 0, l, _, h => by
    have : l = [] := List.eq_nil_of_length_eq_zero (by omega)
    subst this; rfl
  | n + 1, m + 1, l, h1, h2 => by
    unfold fdN
    split
    · rfl
    · rename_i f k hs
      have := fdStep_pos hs
      rw [fdN_big n m (l.drop k) (by rw [List.length_drop]; omega) (by rw [List.length_drop]; omega)]
theorem fdF_step (l : List UInt8) : fdF l = match fdStep l with
    | .inl d => d
    | .inr (f, k) => (fdF (l.drop k)).pre [f] := by
  show fdN l.length l = _
  rw [fdN_big l.length (l.length + 1) l (Nat.le_refl _) (by omega)]
  show (match fdStep l with | .inl d => d | .inr (f, k) => (fdN l.length (l.drop k)).pre [f]) = _
  split
  · rfl
  · rename_i f k hs
    rw [fdN_big l.length (l.drop k).length (l.drop k) (by rw [List.length_drop]; omega) (Nat.le_refl _)]; rfl
theorem pre_pre (a b : List Fr) (d : Fed) : (d.pre b).pre a = d.pre (a ++ b) := by
  unfold Fed.pre
  cases h : d.e == 0 with
  | true => simp
  | false => simp only [cond_false, h]
theorem pre_nil (d : Fed) : d.pre [] = d := by
  unfold Fed.pre
  cases h : d.e == 0 with
  | true => simp only [cond_true, List.nil_append]; have : d.e = 0 := by simpa using h
            rw [← this]
  | false => rfl
theorem or256 (x y : UInt8) : bits .or .i64 (wr .i64 (((x.toNat : Nat) : Int) * 256)) ((y.toNat : Nat) : Int) = ((x.toNat * 256 + y.toNat : Nat) : Int) := by
  have hx := x.toNat_lt; have hy := y.toNat_lt
  rw [wr_of (by omega) (by omega)]
  have h1 : (BitVec.ofInt 64 (((x.toNat : Nat) : Int) * 256)).toNat = x.toNat * 256 := by rw [BitVec.toNat_ofInt]; omega
  have h2 : (BitVec.ofInt 64 ((y.toNat : Nat) : Int)).toNat = y.toNat := by rw [BitVec.toNat_ofInt]; omega
  show IntKind.i64.wrap ((BitVec.ofInt 64 _ ||| BitVec.ofInt 64 _).toNat : Int) = _
  rw [BitVec.toNat_or, h1, h2, Nat.mul_comm, show (256 : Nat) = 2 ^ 8 from rfl, ← Nat.two_pow_add_eq_or_of_lt (by omega) x.toNat]
  rw [IntKind.wrap_i64]
  omega
end Go.Frm
namespace Go.Frm
open Go Go.V
theorem frs_app1 {a b : List Fr} {x : Nat} (h : x < a.length) : frs (a ++ b) x = frs a x := by
  unfold frs; rw [List.getD_eq_getElem?_getD, List.getD_eq_getElem?_getD, List.getElem?_append_left h]
theorem frs_app2 {a b : List Fr} {x : Nat} : frs (a ++ b) (a.length + x) = frs b x := by
  unfold frs; rw [List.getD_eq_getElem?_getD, List.getD_eq_getElem?_getD, List.getElem?_append_right (by omega), Nat.add_sub_cancel_left]
theorem frs_leR (a : List Fr) (x : Nat) : leR (frs a x) (frs a x) := leR.refl rfl
end Go.Frm
namespace Go.Frm
open Go Go.V
open Classical in
/-- Frames off rows. -/
noncomputable def frsOf (n : Nat) (f : Nat → List AV) : List Fr := if h : ∃ l : List Fr, n = l.length ∧ ∀ i, i < n → f i = frs l i then Classical.choose h else []
theorem frs_inj {l l' : List Fr} (h1 : l.length = l'.length) (h2 : ∀ i, i < l.length → frs l i = frs l' i) : l = l' := by
  apply List.ext_getElem h1
  intro i hi hi'
  have := h2 i hi
  unfold frs at this
  rw [List.getD_eq_getElem?_getD, List.getD_eq_getElem?_getD, List.getElem?_eq_getElem hi, List.getElem?_eq_getElem hi'] at this
  simp only [Option.getD_some, Fr.cells, List.cons.injEq, AV.int.injEq, AV.vec8.injEq, true_and, and_true] at this
  obtain ⟨a, b, c⟩ := this
  cases h : l[i]; cases h' : l'[i]
  simp_all
theorem frsOf_eq {n : Nat} {f : Nat → List AV} (l : List Fr) (hn : n = l.length) (hf : ∀ i, i < n → f i = frs l i) : frsOf n f = l := by
  unfold frsOf
  have h : ∃ l : List Fr, n = l.length ∧ ∀ i, i < n → f i = frs l i := ⟨l, hn, hf⟩
  rw [dif_pos h]
  obtain ⟨h1, h2⟩ := Classical.choose_spec h
  exact frs_inj (h1.symm.trans hn) fun i hi => by rw [← h2 i (by omega), hf i (by omega)]
theorem catF_frs {a b : List Fr} {n : Nat} (hn : n = a.length) {f g : Nat → List AV} (hf : ∀ i, i < n → f i = frs a i) (hg : ∀ i, i < b.length → g i = frs b i) : ∀ i, i < n + b.length → catF n f g i = frs (a ++ b) i := by
  intro i hi
  unfold catF
  subst hn
  rcases Nat.lt_or_ge i a.length with h | h
  · rw [ltB_iff.2 h, cond_true, hf i h, frs_app1 h]
  · rw [ltB_no h, cond_false, hg _ (by omega)]
    have := frs_app2 (a := a) (b := b) (x := i - a.length)
    rw [show a.length + (i - a.length) = i by omega] at this
    exact this.symm
def enc (f : Fr) : List UInt8 := encF f.kind f.id f.body
def encs (l : List Fr) (i : Nat) : List UInt8 := ((l.take i).map enc).flatten
end Go.Frm
namespace Go.Frm
open Go Go.V
noncomputable def isRawsF (n : Nat) (f : Nat → List AV) : Bool := yes (∃ l : List Raw3, n = l.length ∧ f = rawsF l)
noncomputable def isRaws : Nat → (Nat → List AV) → Bool := (sealed isRawsF).val
theorem isRaws_iff {n : Nat} {f : Nat → List AV} : isRaws n f = true ↔ ∃ l : List Raw3, n = l.length ∧ f = rawsF l := by
  rw [isRaws, (sealed isRawsF).property]; exact yes_iff
noncomputable def isFrsF (n : Nat) (f : Nat → List AV) : Bool := yes (n ≤ 1000000000 ∧ ∃ l : List Fr, n = l.length ∧ ∀ i, i < n → f i = frs l i)
noncomputable def isFrs : Nat → (Nat → List AV) → Bool := (sealed isFrsF).val
theorem isFrs_iff {n : Nat} {f : Nat → List AV} : isFrs n f = true ↔ n ≤ 1000000000 ∧ ∃ l : List Fr, n = l.length ∧ ∀ i, i < n → f i = frs l i := by
  rw [isFrs, (sealed isFrsF).property]; exact yes_iff
theorem isFrs_frs {l : List Fr} (h : l.length ≤ 1000000000) : isFrs l.length (frs l) = true := isFrs_iff.2 ⟨h, l, rfl, fun _ _ => rfl⟩
end Go.Frm
