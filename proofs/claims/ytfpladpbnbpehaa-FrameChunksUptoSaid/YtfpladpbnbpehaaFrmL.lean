/- Frames: how bytes are cut does not matter; what was encoded is read. -/
import Derived.Test.YtfpladpbnbpehaaFrm

set_option linter.unusedSimpArgs false
set_option linter.unusedVariables false
namespace Go.Frm
open Go Go.V
/-- A step, by its cases. -/
theorem fdStep_app (a b : List UInt8) : (∃ r, fdStep a = .inl ⟨[], a, 0⟩ ∧ r = ()) ∨ (∃ e, e ≠ 0 ∧ fdStep a = .inl (fd0 e) ∧ fdStep (a ++ b) = .inl (fd0 e)) ∨ (∃ f k, fdStep a = .inr (f, k) ∧ fdStep (a ++ b) = .inr (f, k)) := by
  rcases Nat.lt_or_ge a.length 4 with h | h
  · exact .inl ⟨(), fdStep_short h, rfl⟩
  have hg : ∀ j, j < 4 → (a ++ b).getD j 0 = a.getD j 0 := fun j hj => by
    rw [List.getD_eq_getElem?_getD, List.getD_eq_getElem?_getD, List.getElem?_append_left (by omega)]
  have hl : lenOf (a ++ b) = lenOf a := by unfold lenOf; rw [hg 2 (by omega), hg 3 (by omega)]
  have hab : (a ++ b).length = a.length + b.length := List.length_append
  obtain ⟨S, hS⟩ : ∃ S, fdStep a = S := ⟨_, rfl⟩
  obtain ⟨S', hS'⟩ : ∃ S, fdStep (a ++ b) = S := ⟨_, rfl⟩
  have h1 := hS; have h2 := hS'
  unfold fdStep at h1 h2
  rw [hg 0 (by omega), hg 1 (by omega), hl] at h2
  rw [if_neg (by omega)] at h1 h2
  split at h1
  · rename_i hf
    rw [if_pos hf] at h2
    exact .inr (.inl ⟨_, hf, hS.trans h1.symm, hS'.trans h2.symm⟩)
  · rename_i hf
    rw [if_neg hf] at h2
    split at h1
    · rename_i h9
      rw [if_pos h9] at h2
      exact .inr (.inl ⟨1, by decide, hS.trans h1.symm, hS'.trans h2.symm⟩)
    · rename_i h9
      rw [if_neg h9] at h2
      split at h1
      · rename_i h5
        rw [if_pos h5] at h2
        exact .inr (.inl ⟨3, by decide, hS.trans h1.symm, hS'.trans h2.symm⟩)
      · rename_i h5
        rw [if_neg h5] at h2
        split at h1
        · exact .inl ⟨(), hS.trans h1.symm, rfl⟩
        · rename_i hn
          rw [if_neg (by omega)] at h2
          refine .inr (.inr ⟨_, _, hS.trans h1.symm, (hS'.trans h2.symm).trans ?_⟩)
          rw [List.drop_append_of_le_length (by omega), List.take_append_of_le_length (by rw [List.length_drop]; omega)]

theorem fd_chunk : ∀ (n : Nat) (a b : List UInt8), a.length ≤ n → fdF (a ++ b) = bif (fdF a).e == 0 then (fdF ((fdF a).rest ++ b)).pre (fdF a).fs else fdF a := by
  intro n
  induction n with
  | zero =>
    intro a b h
    have : a = [] := List.eq_nil_of_length_eq_zero (by omega)
    subst this
    show fdF b = bif (0 : Int) == 0 then (fdF b).pre [] else _
    rw [beq_self_eq_true, cond_true, pre_nil]
  | succ n ih =>
    intro a b h
    rcases fdStep_app a b with ⟨_, h1, _⟩ | ⟨e, he, h1, h2⟩ | ⟨f, k, h1, h2⟩
    · have ha : fdF a = ⟨[], a, 0⟩ := by rw [fdF_step, h1]
      rw [ha]
      show fdF (a ++ b) = bif (0 : Int) == 0 then (fdF (a ++ b)).pre [] else _
      rw [beq_self_eq_true, cond_true, pre_nil]
    · have ha : fdF a = fd0 e := by rw [fdF_step, h1]
      have hb : fdF (a ++ b) = fd0 e := by rw [fdF_step, h2]
      rw [ha, hb]
      show fd0 e = bif e == 0 then _ else fd0 e
      rw [beq_false_of_ne he, cond_false]
    · have hk := fdStep_pos h1
      have ha : fdF a = (fdF (a.drop k)).pre [f] := by rw [fdF_step, h1]
      have hb : fdF (a ++ b) = (fdF (a.drop k ++ b)).pre [f] := by
        rw [fdF_step, h2]
        show Fed.pre [f] (fdF ((a ++ b).drop k)) = _
        rw [List.drop_append_of_le_length (by omega)]
      rw [ha, hb, ih (a.drop k) b (by rw [List.length_drop]; omega)]
      generalize fdF (a.drop k) = d
      unfold Fed.pre
      cases hd : d.e == 0 with
      | true =>
        simp only [cond_true, beq_self_eq_true]
        generalize fdF (d.rest ++ b) = d2
        cases hd2 : d2.e == 0 with
        | true => simp
        | false => simp only [cond_false, hd2]
      | false => simp only [cond_false, hd]

theorem rest_len : ∀ (n : Nat) (a : List UInt8), a.length ≤ n → (fdF a).e = 0 → (fdF a).rest.length ≤ 903 := by
  intro n
  induction n with
  | zero =>
    intro a h _
    have : a = [] := List.eq_nil_of_length_eq_zero (by omega)
    subst this
    show ([] : List UInt8).length ≤ 903
    simp
  | succ n ih =>
    intro a h he
    rw [fdF_step] at he ⊢
    obtain ⟨S, hS⟩ : ∃ S, fdStep a = S := ⟨_, rfl⟩
    have h1 := hS
    unfold fdStep at h1
    rw [hS] at he ⊢
    split at h1
    · subst h1; show a.length ≤ 903; omega
    · split at h1
      · subst h1; rename_i h2; exact absurd he h2
      · split at h1
        · subst h1; exact absurd (show (1 : Int) = 0 from he) (by decide)
        · split at h1
          · subst h1; exact absurd (show (3 : Int) = 0 from he) (by decide)
          · split at h1
            · subst h1; show a.length ≤ 903; omega
            · subst h1
              have hp : ∀ d : Fed, ∀ l, (d.pre l).e = 0 → (d.pre l).rest = d.rest ∧ d.e = 0 := by
                intro d l h
                unfold Fed.pre at h ⊢
                cases hd : d.e == 0 with
                | true => exact ⟨rfl, by simpa using hd⟩
                | false => rw [hd] at h; simp only [cond_false] at h; rw [h] at hd; simp at hd
              obtain ⟨q1, q2⟩ := hp _ _ he
              show (Fed.pre _ _).rest.length ≤ 903
              rw [q1]
              exact ih _ (by rw [List.length_drop]; omega) q2

def okF (f : Fr) : Prop := 1 ≤ f.kind ∧ f.kind ≤ 5 ∧ 0 ≤ f.id ∧ f.id ≤ 255 ∧ f.body.length ≤ 50 ∧ (f.kind = 5 → f.body = [])
theorem okF_fault {f : Fr} (h : okF f) : fault f.kind f.id f.body = 0 := by
  obtain ⟨h1, h2, h3, h4, h5, h6⟩ := h
  unfold fault
  rw [if_neg (by omega), if_neg (by omega), if_neg (by omega), if_neg]
  rintro ⟨h, h'⟩
  rw [h6 h] at h'
  simp at h'
theorem okF_enc {f : Fr} (h : okF f) : enc f = [UInt8.ofNat f.kind.toNat, UInt8.ofNat f.id.toNat, UInt8.ofNat (f.body.length / 256), UInt8.ofNat f.body.length] ++ f.body := by
  unfold enc encF
  rw [okF_fault h]; rfl
theorem step_enc {f : Fr} (h : okF f) (r : List UInt8) : fdStep (enc f ++ r) = .inr (f, (enc f).length) := by
  have h0 := okF_fault h
  rw [okF_enc h]
  obtain ⟨h1, h2, h3, h4, h5, h6⟩ := h
  unfold fdStep
  have g0 : (([UInt8.ofNat f.kind.toNat, UInt8.ofNat f.id.toNat, UInt8.ofNat (f.body.length / 256), UInt8.ofNat f.body.length] ++ f.body ++ r).getD 0 0).toNat = f.kind.toNat := by
    show (UInt8.ofNat _).toNat = _
    rw [UInt8.toNat_ofNat']; omega
  have g1 : (([UInt8.ofNat f.kind.toNat, UInt8.ofNat f.id.toNat, UInt8.ofNat (f.body.length / 256), UInt8.ofNat f.body.length] ++ f.body ++ r).getD 1 0).toNat = f.id.toNat := by
    show (UInt8.ofNat _).toNat = _
    rw [UInt8.toNat_ofNat']; omega
  have g2 : lenOf ([UInt8.ofNat f.kind.toNat, UInt8.ofNat f.id.toNat, UInt8.ofNat (f.body.length / 256), UInt8.ofNat f.body.length] ++ f.body ++ r) = f.body.length := by
    show (UInt8.ofNat _).toNat * 256 + (UInt8.ofNat _).toNat = _
    rw [UInt8.toNat_ofNat', UInt8.toNat_ofNat']; omega
  have g3 : ([UInt8.ofNat f.kind.toNat, UInt8.ofNat f.id.toNat, UInt8.ofNat (f.body.length / 256), UInt8.ofNat f.body.length] ++ f.body ++ r).length = 4 + f.body.length + r.length := by
    rw [List.length_append, List.length_append]; rfl
  have g4 : ([UInt8.ofNat f.kind.toNat, UInt8.ofNat f.id.toNat, UInt8.ofNat (f.body.length / 256), UInt8.ofNat f.body.length] ++ f.body ++ r).drop 4 = f.body ++ r := rfl
  rw [g0, g1, g2, g3, g4]
  have hf : fault ((f.kind.toNat : Nat) : Int) ((f.id.toNat : Nat) : Int) [] = 0 := by
    unfold fault
    rw [if_neg (by omega), if_neg (by omega), if_neg (by simp), if_neg (by simp)]
  rw [hf, if_neg (by omega), if_neg (by simp), if_neg (by omega), if_neg, if_neg (by omega)]
  · rw [List.take_left]
    have e1 : ((f.kind.toNat : Nat) : Int) = f.kind := by omega
    have e2 : ((f.id.toNat : Nat) : Int) = f.id := by omega
    rw [e1, e2]
    simp
    omega
  · rintro ⟨h, h'⟩
    rw [h6 (by omega)] at h'
    simp at h'

theorem fd_encs : ∀ (F : List Fr), (∀ f ∈ F, okF f) → fdF (F.map enc).flatten = ⟨F, [], 0⟩
  | [], _ => rfl
  | f :: F, h => by
    rw [List.map_cons, List.flatten_cons, fdF_step, step_enc (h f (by simp))]
    show Fed.pre [f] (fdF _) = _
    rw [List.drop_left, fd_encs F fun g hg => h g (by simp [hg])]
    rfl

theorem feed_nil (b : List UInt8) : feedS [] b = fdF b := by
  rw [feedS_eq]; rfl
/-- However it is cut. -/
theorem feed_cut (L : List UInt8) (k : Nat) : (fdF (L.take k)).e = 0 → feedS (fdF (L.take k)).rest (L.drop k) = fdF ((fdF (L.take k)).rest ++ L.drop k) := by
  intro h
  have := rest_len _ _ (Nat.le_refl _) h
  rw [feedS_eq]
  unfold feedF
  rw [ltB_no (by omega)]; rfl
theorem fd_cut (L : List UInt8) (k : Nat) : fdF L = bif (fdF (L.take k)).e == 0 then (fdF ((fdF (L.take k)).rest ++ L.drop k)).pre (fdF (L.take k)).fs else fdF (L.take k) := by
  have := fd_chunk _ (L.take k) (L.drop k) (Nat.le_refl _)
  rwa [List.take_append_drop] at this
theorem frOf_ok (r : Raw3) : okF (frOf r) := by
  have h1 := Int.emod_nonneg r.kind (show (5 : Int) ≠ 0 by omega)
  have h2 := Int.emod_lt_of_pos r.kind (show (0 : Int) < 5 by omega)
  have h3 := Int.emod_nonneg r.a (show (256 : Int) ≠ 0 by omega)
  have h4 := Int.emod_lt_of_pos r.a (show (0 : Int) < 256 by omega)
  refine ⟨?_, ?_, ?_, ?_, ?_, ?_⟩
  · show (1 : Int) ≤ 1 + _; omega
  · show 1 + r.kind % 5 ≤ 5; omega
  · show 0 ≤ r.a % 256; omega
  · show r.a % 256 ≤ 255; omega
  · show (bif _ then [] else r.text.take 50).length ≤ 50
    cases 1 + r.kind % 5 == 5 with
    | true => simp
    | false => rw [cond_false, List.length_take]; omega
  · intro h
    show (bif 1 + r.kind % 5 == 5 then [] else _) = _
    have h : 1 + r.kind % 5 = 5 := h
    rw [h]; rfl
theorem fsOf_ok (l : List Raw3) : ∀ f ∈ fsOf l, okF f := by
  intro f h
  unfold fsOf at h
  obtain ⟨r, _, rfl⟩ := List.mem_map.1 h
  exact frOf_ok r
theorem encs_len (F : List Fr) (h : ∀ f ∈ F, okF f) : ∀ i, (encs F i).length ≤ 54 * i := by
  intro i
  unfold encs
  induction i generalizing F with
  | zero => simp
  | succ i ih =>
    cases F with
    | nil => simp
    | cons f F =>
      rw [List.take_succ_cons, List.map_cons, List.flatten_cons, List.length_append]
      have := ih F fun g hg => h g (by simp [hg])
      have hf := h f (by simp)
      have he : (enc f).length = 4 + f.body.length := by rw [okF_enc hf, List.length_append]; rfl
      have := hf.2.2.2.2.1
      omega
theorem encs_succ (F : List Fr) (i : Nat) (h : i < F.length) : encs F (i + 1) = encs F i ++ enc (F.getD i fr0) := by
  unfold encs
  rw [List.take_add_one, List.map_append, List.flatten_append, List.getD_eq_getElem?_getD]
  cases hf : F[i]? with
  | none => rw [List.getElem?_eq_none_iff] at hf; omega
  | some f => simp
theorem encs_all (F : List Fr) (i : Nat) (h : F.length ≤ i) : encs F i = (F.map enc).flatten := by
  unfold encs; rw [List.take_of_length_le h]
end Go.Frm
namespace Go.Frm
open Go Go.V
theorem pre_e (d : Fed) (l : List Fr) : (d.pre l).e = d.e := by
  unfold Fed.pre
  cases h : d.e == 0 with
  | true => show (0 : Int) = d.e; simpa using (by simpa using h : d.e = 0).symm
  | false => rfl
theorem pre_ok {d : Fed} (h : d.e = 0) (l : List Fr) : d.pre l = ⟨l ++ d.fs, d.rest, 0⟩ := by
  unfold Fed.pre; rw [h]; rfl
theorem fs_len : ∀ (n : Nat) (a : List UInt8), a.length ≤ n → (fdF a).fs.length ≤ a.length := by
  intro n
  induction n with
  | zero =>
    intro a h
    have : a = [] := List.eq_nil_of_length_eq_zero (by omega)
    subst this
    exact Nat.le_refl _
  | succ n ih =>
    intro a h
    rw [fdF_step]
    obtain ⟨S, hS⟩ : ∃ S, fdStep a = S := ⟨_, rfl⟩
    rw [hS]
    cases S with
    | inr fk =>
      obtain ⟨f, k⟩ := fk
      have hk := fdStep_pos hS
      show (Fed.pre _ _).fs.length ≤ _
      have := ih (a.drop k) (by rw [List.length_drop]; omega)
      rw [List.length_drop] at this
      unfold Fed.pre
      cases (fdF (a.drop k)).e == 0 with
      | true => show ([f] ++ _).length ≤ _; rw [List.length_append]; show 1 + _ ≤ _; omega
      | false => show (fdF (a.drop k)).fs.length ≤ _; omega
    | inl d =>
      unfold fdStep at hS
      repeat (split at hS; · (simp only [Sum.inl.injEq] at hS; subst hS; exact Nat.zero_le _))
      cases hS
theorem tells8 : faultS 1 0 [97] = 0 := by rw [faultS_eq]; decide
theorem tells5 : (encS 1 0 [97]).length = 5 := by rw [encS_eq]; decide
end Go.Frm
