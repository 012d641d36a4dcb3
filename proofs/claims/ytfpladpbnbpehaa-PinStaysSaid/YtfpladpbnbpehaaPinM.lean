/- Pins: what the operations keep. -/
import Derived.Test.YtfpladpbnbpehaaPinL
import Derived.Test.YtfpladpbnbpehaaKeyP

set_option linter.unusedSimpArgs false
set_option linter.unusedVariables false
namespace Go.Pin
open Go Go.V
theorem nm_get {l : List Pn} {i : Nat} (h : i < l.length) : nm l i = l[i].name := by
  unfold nm; rw [List.getD_eq_getElem?_getD, List.getElem?_eq_getElem h]; rfl
theorem pinsOk_pw {L : List Pn} : pinsOk L = true ↔ (∀ p ∈ L, nameOk p.name = true) ∧ (L.map (·.name)).Pairwise fun a b => Op.bytesLess a b = true := by
  constructor
  · intro h
    refine ⟨fun p hp => ?_, ?_⟩
    · obtain ⟨i, hi, rfl⟩ := List.getElem_of_mem hp
      have := (pinsOk_iff.1 h i hi).1
      rwa [nm_get hi] at this
    · rw [List.pairwise_iff_getElem]
      intro i j hi hj hij
      rw [List.length_map] at hi hj
      have := nm_lt h hij hj
      rw [nm_get hi, nm_get hj] at this
      simpa using this
  · rintro ⟨h1, h2⟩
    refine pinsOk_iff.2 fun i hi => ⟨?_, fun h0 => ?_⟩
    · rw [nm_get hi]; exact h1 _ (List.getElem_mem _)
    · rw [nm_get hi, nm_get (by omega)]
      have := List.pairwise_iff_getElem.1 h2 (i - 1) i (by rw [List.length_map]; omega) (by rw [List.length_map]; exact hi) (by omega)
      simpa using this
theorem faultP_iff {L : List Pn} : faultP L = 0 ↔ L.length ≤ 8 ∧ pinsOk L = true := by
  constructor
  · exact fault_le
  · rintro ⟨h1, h2⟩
    unfold faultP
    rw [ltB_no h1, h2]; rfl
theorem mem_take_nm {L : List Pn} {k : Nat} {p : Pn} (h : p ∈ L.take k) : ∃ i, i < k ∧ i < L.length ∧ p.name = nm L i := by
  obtain ⟨i, hi, rfl⟩ := List.getElem_of_mem h
  rw [List.length_take] at hi
  exact ⟨i, by omega, by omega, by rw [nm_get (by omega), List.getElem_take]⟩
theorem mem_drop_nm {L : List Pn} {k : Nat} {p : Pn} (h : p ∈ L.drop k) : ∃ i, k ≤ i ∧ i < L.length ∧ p.name = nm L i := by
  obtain ⟨i, hi, rfl⟩ := List.getElem_of_mem h
  rw [List.length_drop] at hi
  exact ⟨k + i, by omega, by omega, by rw [nm_get (by omega), List.getElem_drop]⟩
theorem ins_ok {L : List Pn} (h : faultP L = 0) {p : Pn} (hn : nameOk p.name = true) (hh : hasP L p.name = false) (h8 : L.length ≠ 8) : faultP (insP L (posP L p.name) p) = 0 := by
  obtain ⟨hl, hp⟩ := faultP_iff.1 h
  obtain ⟨h1, h2⟩ := pinsOk_pw.1 hp
  have hpl := posP_le L p.name
  refine faultP_iff.2 ⟨by unfold insP; rw [List.length_append, List.length_append, List.length_take, List.length_drop]; show _ + 1 + _ ≤ _; omega, pinsOk_pw.2 ⟨fun q hq => ?_, ?_⟩⟩
  · unfold insP at hq
    rw [List.mem_append, List.mem_append, List.mem_singleton] at hq
    rcases hq with (hq | rfl) | hq
    · exact h1 q (List.mem_of_mem_take hq)
    · exact hn
    · exact h1 q (List.mem_of_mem_drop hq)
  · unfold insP
    rw [List.map_append, List.map_append, List.pairwise_append, List.pairwise_append]
    have low : ∀ q ∈ L.take (posP L p.name), Op.bytesLess q.name p.name = true := fun q hq => by
      obtain ⟨i, hi, hi2, he⟩ := mem_take_nm hq
      rw [he, posP_spec hp hi2, ltB_iff.2 hi]
    have high : ∀ q ∈ L.drop (posP L p.name), Op.bytesLess p.name q.name = true := fun q hq => by
      obtain ⟨i, hi, hi2, he⟩ := mem_drop_nm hq
      have hlt : posP L p.name < L.length := by omega
      have hat := posP_at hlt
      have hne : (nm L (posP L p.name) == p.name) = false := by
        unfold hasP at hh
        rw [ltB_iff.2 hlt, Bool.true_and] at hh
        exact hh
      have h0 : Op.bytesLess p.name (nm L (posP L p.name)) = true := by
        cases hb : Op.bytesLess p.name (nm L (posP L p.name)) with
        | true => rfl
        | false => rw [bl_total hat hb] at hne; simp at hne
      rw [he]
      rcases Nat.lt_or_ge (posP L p.name) i with hk | hk
      · exact bl_trans h0 (nm_lt hp hk hi2)
      · obtain rfl : i = posP L p.name := by omega
        exact h0
    refine ⟨⟨?_, by simp, ?_⟩, ?_, ?_⟩
    · exact h2.sublist ((List.take_sublist _ _).map _)
    · intro a ha b hb
      obtain ⟨q, hq, rfl⟩ := List.mem_map.1 ha
      simp only [List.map_cons, List.map_nil, List.mem_singleton] at hb
      subst hb
      exact low q hq
    · exact h2.sublist ((List.drop_sublist _ _).map _)
    · intro a ha b hb
      obtain ⟨q', hq', rfl⟩ := List.mem_map.1 hb
      rw [List.mem_append] at ha
      rcases ha with ha | ha
      · obtain ⟨q, hq, rfl⟩ := List.mem_map.1 ha
        exact bl_trans (low q hq) (high q' hq')
      · simp only [List.map_cons, List.map_nil, List.mem_singleton] at ha
        subst ha
        exact high q' hq'
theorem split_at {L : List Pn} {i : Nat} (h : i < L.length) : L = (L.take i ++ [L.getD i pn0]) ++ L.drop (i + 1) := by
  rw [List.getD_eq_getElem?_getD, List.getElem?_eq_getElem h, Option.getD_some, List.append_assoc, List.singleton_append, List.getElem_cons_drop, List.take_append_drop]
theorem chg1_ok {L : List Pn} (h : faultP L = 0) {i : Nat} (hi : i < L.length) {q : Pn} (hq : q.name = (L.getD i pn0).name) : faultP (chgP L i [q]) = 0 := by
  obtain ⟨hl, hp⟩ := faultP_iff.1 h
  obtain ⟨h1, h2⟩ := pinsOk_pw.1 hp
  have hm : (chgP L i [q]).map (·.name) = L.map (·.name) := by
    conv => rhs; rw [split_at hi]
    unfold chgP
    simp only [List.map_append, List.map_cons, List.map_nil, hq]
  have hlen : (chgP L i [q]).length = L.length := by have := congrArg List.length hm; simpa using this
  refine faultP_iff.2 ⟨by omega, pinsOk_pw.2 ⟨fun p hp => ?_, by rw [hm]; exact h2⟩⟩
  have : p.name ∈ L.map (·.name) := by rw [← hm]; exact List.mem_map.2 ⟨p, hp, rfl⟩
  obtain ⟨p', hp', he⟩ := List.mem_map.1 this
  rw [← he]; exact h1 p' hp'
theorem chg0_sub (L : List Pn) (i : Nat) : (chgP L i []).Sublist L := by
  unfold chgP
  rw [List.append_nil]
  conv => rhs; rw [← List.take_append_drop i L]
  refine List.Sublist.append (List.Sublist.refl _) ?_
  rw [← List.drop_drop]
  exact List.drop_sublist _ _
theorem chg0_ok {L : List Pn} (h : faultP L = 0) (i : Nat) : faultP (chgP L i []) = 0 := by
  obtain ⟨hl, hp⟩ := faultP_iff.1 h
  obtain ⟨h1, h2⟩ := pinsOk_pw.1 hp
  have hs := chg0_sub L i
  exact faultP_iff.2 ⟨Nat.le_trans hs.length_le hl, pinsOk_pw.2 ⟨fun p hp => h1 p (hs.subset hp), h2.sublist (hs.map _)⟩⟩
/-- What an operation comes to. -/
def Fine (r : List Pn × Int) : Prop := (r.2 = 0 ∧ faultP r.1 = 0) ∨ r.2 = 13 ∨ r.2 = 5 ∨ r.2 = 8
theorem hasP_pos {L : List Pn} {s : List UInt8} (h : hasP L s = true) : posP L s < L.length ∧ (L.getD (posP L s) pn0).name = s := by
  unfold hasP at h
  rw [Bool.and_eq_true] at h
  exact ⟨ltB_iff.1 h.1, by simpa using h.2⟩
theorem trust_fine {L : List Pn} (h : faultP L = 0) {s k : List UInt8} (hn : nameOk s = true) : Fine (trustP L s k) := by
  unfold trustP
  rw [h, beq_self_eq_true, cond_true, hn, cond_true]
  cases hh : hasP L s with
  | true =>
    rw [cond_true]
    cases (L.getD (posP L s) pn0).gone || !((L.getD (posP L s) pn0).key == k) with
    | true => exact .inr (.inl rfl)
    | false => exact .inl ⟨rfl, h⟩
  | false =>
    rw [cond_false]
    cases h8 : L.length == 8 with
    | true => exact .inr (.inr (.inr rfl))
    | false => exact .inl ⟨rfl, ins_ok h (p := ⟨s, k, false⟩) hn hh (by simpa using h8)⟩
theorem rotate_fine {L : List Pn} (h : faultP L = 0) (s k : List UInt8) : Fine (rotateP L s k) := by
  unfold rotateP changeP
  rw [h, beq_self_eq_true, cond_true]
  cases hh : hasP L s with
  | true => exact .inl ⟨rfl, chg1_ok h (hasP_pos hh).1 rfl⟩
  | false => exact .inr (.inr (.inl rfl))
theorem revoke_fine {L : List Pn} (h : faultP L = 0) (s : List UInt8) : Fine (revokeP L s) := by
  unfold revokeP changeP
  rw [h, beq_self_eq_true, cond_true]
  cases hh : hasP L s with
  | true => exact .inl ⟨rfl, chg1_ok h (hasP_pos hh).1 rfl⟩
  | false => exact .inr (.inr (.inl rfl))
theorem forget_fine {L : List Pn} (h : faultP L = 0) (s : List UInt8) : Fine (forgetP L s) := by
  unfold forgetP changeP
  rw [h, beq_self_eq_true, cond_true]
  cases hh : hasP L s with
  | true => exact .inl ⟨rfl, chg0_ok h _⟩
  | false => exact .inr (.inr (.inl rfl))
theorem named_ok (n : Int) : nameOk (namedS n) = true := by
  rw [namedS_eq]
  unfold namedF nameOk
  have h1 := Int.emod_nonneg n (show (2 : Int) ≠ 0 by omega)
  have h2 := Int.emod_lt_of_pos n (show (0 : Int) < 2 by omega)
  rw [List.length_take]
  rw [leB_of (by show 1 ≤ min _ 2; omega), leB_of (by show min _ 2 ≤ 16; omega)]; rfl
theorem fault_nil : faultP [] = 0 := rfl
end Go.Pin
namespace Go.Pin
open Go Go.V
/-- What is kept behind an operation. -/
def sel (P : List Pn) (r : List Pn × Int) : List Pn := bif r.2 == 0 then r.1 else P
noncomputable def stepS (P : List Pn) (r : Raw3) : List Pn :=
  bif r.kind % 6 == 0 then sel P (rotateS P (namedS r.a) (keyS (r.b % 3))) else bif r.kind % 6 == 1 then sel P (revokeS P (namedS r.a)) else bif r.kind % 6 == 2 then sel P (forgetS P (namedS r.a)) else sel P (trustS P (namedS r.a) (keyS (r.b % 3)))
noncomputable def pinnedN (l : List Raw3) (i : Nat) : List Pn := (l.take i).foldl stepS []
theorem pinnedN_succ {l : List Raw3} {i : Nat} (h : i < l.length) : pinnedN l (i + 1) = stepS (pinnedN l i) (l.getD i raw0) := by
  unfold pinnedN
  rw [List.take_add_one, List.foldl_append, List.getElem?_eq_getElem h, List.getD_eq_getElem?_getD, List.getElem?_eq_getElem h]
  rfl
end Go.Pin
namespace Go.Pin
open Go Go.V
theorem posP_map {L M : List Pn} (h : L.map (·.name) = M.map (·.name)) (s : List UInt8) : posP L s = posP M s := by
  have key : ∀ K : List Pn, posP K s = ((K.map (·.name)).takeWhile fun a => Op.bytesLess a s).length := by
    intro K
    unfold posP
    rw [List.takeWhile_map, List.length_map]
    rfl
  rw [key, key, h]
theorem nm_map {L : List Pn} (i : Nat) : nm L i = (L.map (·.name)).getD i [] := by
  unfold nm
  rw [List.getD_eq_getElem?_getD, List.getD_eq_getElem?_getD, List.getElem?_map]
  cases L[i]? <;> rfl
/-- The place of a name, told by what it does. -/
theorem posP_uniq {M : List Pn} (hM : pinsOk M = true) {s : List UInt8} {q : Nat} (hq : q < M.length) (h1 : ∀ i, i < q → Op.bytesLess (nm M i) s = true) (h2 : Op.bytesLess (nm M q) s = false) : posP M s = q := by
  have e := posP_spec hM (s := s) hq
  rw [h2] at e
  have hle := of_ltB_no e.symm
  rcases Nat.eq_zero_or_pos q with h0 | h0
  · omega
  · have e2 := posP_spec hM (s := s) (j := q - 1) (by omega)
    rw [h1 (q - 1) (by omega)] at e2
    have := ltB_iff.1 e2.symm
    omega
theorem getD_ins {L : List Pn} {q : Nat} (hq : q ≤ L.length) (p : Pn) : (insP L q p).getD q pn0 = p := by
  unfold insP
  rw [List.getD_eq_getElem?_getD, List.getElem?_append_left (by rw [List.length_append, List.length_take]; show q < _ + 1; omega), List.getElem?_append_right (by rw [List.length_take]; omega), List.length_take, Nat.min_eq_left hq, Nat.sub_self]
  rfl
theorem nm_ins_low {L : List Pn} {q i : Nat} (hq : q ≤ L.length) (hi : i < q) (p : Pn) : nm (insP L q p) i = nm L i := by
  unfold nm insP
  rw [List.getD_eq_getElem?_getD, List.getD_eq_getElem?_getD, List.append_assoc, List.getElem?_append_left (by rw [List.length_take]; omega), List.getElem?_take, if_pos hi]
theorem length_ins {L : List Pn} {q : Nat} (hq : q ≤ L.length) (p : Pn) : (insP L q p).length = L.length + 1 := by
  unfold insP
  rw [List.length_append, List.length_append, List.length_take, List.length_drop]
  show _ + 1 + _ = _; omega
theorem find_ins {L : List Pn} (h : faultP L = 0) {s k : List UInt8} (hn : nameOk s = true) (hh : hasP L s = false) (h8 : L.length ≠ 8) : findP (insP L (posP L s) ⟨s, k, false⟩) s = (⟨s, k, false⟩, 0) := by
  have hM := ins_ok h (p := ⟨s, k, false⟩) hn hh h8
  dsimp only at hM
  have hpl := posP_le L s
  have hl := length_ins hpl (⟨s, k, false⟩ : Pn)
  have hg := getD_ins hpl (⟨s, k, false⟩ : Pn)
  have hpos : posP (insP L (posP L s) ⟨s, k, false⟩) s = posP L s := posP_uniq (faultP_iff.1 hM).2 (by omega) (fun i hi => by
    rw [nm_ins_low hpl hi]; exact posP_low hi) (by unfold nm; rw [hg]; exact bl_irrefl s)
  have hhas : hasP (insP L (posP L s) ⟨s, k, false⟩) s = true := by
    unfold hasP
    rw [hpos, hg, ltB_of (by omega), beq_self_eq_true]; rfl
  unfold findP
  rw [hM, hhas, hpos, hg]; rfl
theorem chg1_names {L : List Pn} {i : Nat} (hi : i < L.length) {q : Pn} (hq : q.name = (L.getD i pn0).name) : (chgP L i [q]).map (·.name) = L.map (·.name) := by
  conv => rhs; rw [split_at hi]
  unfold chgP
  simp only [List.map_append, List.map_cons, List.map_nil, hq]
theorem getD_chg1 {L : List Pn} {i : Nat} (hi : i < L.length) (q : Pn) : (chgP L i [q]).getD i pn0 = q := by
  unfold chgP
  rw [List.getD_eq_getElem?_getD, List.getElem?_append_left (by rw [List.length_append, List.length_take]; show i < _ + 1; omega), List.getElem?_append_right (by rw [List.length_take]; omega), List.length_take, Nat.min_eq_left (by omega), Nat.sub_self]
  rfl
theorem trust_rot {L : List Pn} (h : faultP L = 0) {s k : List UInt8} (hn : nameOk s = true) (hh : hasP L s = true) : (rotateP L s k).2 = 0 ∧ (trustP (rotateP L s k).1 s k).2 = 0 := by
  obtain ⟨hlt, hnm⟩ := hasP_pos hh
  have e : rotateP L s k = (chgP L (posP L s) [⟨(L.getD (posP L s) pn0).name, k, false⟩], 0) := by
    unfold rotateP changeP
    rw [h, hh]; rfl
  rw [e]
  refine ⟨rfl, ?_⟩
  dsimp only
  have hM := chg1_ok h hlt (q := ⟨(L.getD (posP L s) pn0).name, k, false⟩) rfl
  have hnames := chg1_names hlt (q := ⟨(L.getD (posP L s) pn0).name, k, false⟩) rfl
  have hg := getD_chg1 hlt ⟨(L.getD (posP L s) pn0).name, k, false⟩
  generalize chgP L (posP L s) [⟨(L.getD (posP L s) pn0).name, k, false⟩] = M at *
  have hpos := posP_map hnames s
  have hlen : M.length = L.length := by have := congrArg List.length hnames; simpa using this
  have hhas : hasP M s = true := by
    unfold hasP
    rw [hpos, hg, ltB_of (by omega), hnm, beq_self_eq_true]; rfl
  unfold trustP
  rw [hM, hn, hhas, hpos, hg]
  show (bif false || !(k == k) then (([] : List Pn), (13 : Int)) else (M, 0)).2 = 0
  rw [beq_self_eq_true]; rfl
end Go.Pin
