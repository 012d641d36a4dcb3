/- The abstract layer (third state), part H: a contract off a walk; contracts put together. -/
import Derived.Test.YtfjmpdoidkblcaaDoorWG
set_option linter.unusedSimpArgs false
set_option linter.unusedVariables false
namespace Go.V
open Go
noncomputable section

theorem posIn_get : ∀ {ids : List Nat} {i : Nat}, ids.contains i = true → ids[posIn ids i]? = some i
  | [], _, h => by simp at h
  | a :: as, i, h => by
    unfold posIn
    cases hb : a == i with
    | true => simpa using hb
    | false =>
      have : as.contains i = true := by
        simp only [List.contains_cons, Bool.or_eq_true] at h
        rcases h with h | h
        · rw [beq_iff_eq] at h; subst h; simp at hb
        · exact h
      simpa using posIn_get this

theorem dedup_nodup : ∀ (l acc : List Nat), acc.Nodup → (dedup l acc).Nodup
  | [], acc, h => h
  | a :: as, acc, h => by
    unfold dedup
    cases hb : acc.contains a with
    | true => exact dedup_nodup as acc h
    | false =>
      refine dedup_nodup as _ ?_
      rw [List.nodup_append]
      refine ⟨h, by simp, fun x hx y hy => ?_⟩
      simp only [List.mem_singleton] at hy
      subst hy
      rintro rfl
      simp [List.contains_eq_mem, hx] at hb

section
variable {ρ ρ' : Rho} {I : Imm} {w : World}
mutual
theorem R_col {ids : List Nat} (hρ : ∀ k i, ids[k]? = some i → ρ' k = ρ i) : ∀ (a : AV) (xs : List Value), colOk ids a = true → R ρ I w a xs → R ρ' I w (colA ids a) xs
  | .sl id off k len, xs, ho, ⟨v, h0, h⟩ => by
    refine ⟨v, h0, ?_⟩
    rcases h with ⟨b, cap, h1, h2⟩ | h
    · exact .inl ⟨b, cap, by rw [hρ _ _ (posIn_get ho)]; exact h1, h2⟩
    · exact .inr h
  | .ptr id off, xs, ho, ⟨v, h0, b, h1, h2⟩ => ⟨v, h0, b, by rw [hρ _ _ (posIn_get ho)]; exact h1, h2⟩
  | .agg l, xs, ho, h => RL_col hρ l xs (by simpa [colOk] using ho) h
  | .tup l, xs, ho, ⟨v, h0, cs, h1, h2⟩ => ⟨v, h0, cs, h1, RV_col hρ l _ (by simpa [colOk] using ho) h2⟩
  | .any, xs, ho, h => R_refs (n := 0) (fun _ h => by omega) _ xs ho h
  | .raw _, xs, ho, h => R_refs (n := 0) (fun _ h => by omega) _ xs ho h
  | .int _ _, xs, ho, h => R_refs (n := 0) (fun _ h => by omega) _ xs ho h
  | .u8 _, xs, ho, h => R_refs (n := 0) (fun _ h => by omega) _ xs ho h
  | .u32 _, xs, ho, h => R_refs (n := 0) (fun _ h => by omega) _ xs ho h
  | .u64 _, xs, ho, h => R_refs (n := 0) (fun _ h => by omega) _ xs ho h
  | .bool _, xs, ho, h => R_refs (n := 0) (fun _ h => by omega) _ xs ho h
  | .str _, xs, ho, h => R_refs (n := 0) (fun _ h => by omega) _ xs ho h
  | .b8 _ _, xs, ho, h => R_refs (n := 0) (fun _ h => by omega) _ xs ho h
  | .w32 _ _, xs, ho, h => R_refs (n := 0) (fun _ h => by omega) _ xs ho h
  | .w64 _ _, xs, ho, h => R_refs (n := 0) (fun _ h => by omega) _ xs ho h
  | .pix _ _ _ _, xs, ho, h => R_refs (n := 0) (fun _ h => by omega) _ xs ho h
  | .vec8 _ _, xs, ho, h => R_refs (n := 0) (fun _ h => by omega) _ xs ho h
  | .vec _ _ _, xs, ho, h => R_refs (n := 0) (fun _ h => by omega) _ xs ho h
  | .vp _ _, xs, ho, h => R_refs (n := 0) (fun _ h => by omega) _ xs ho h
  | .vpx _ _ _ _, xs, ho, h => R_refs (n := 0) (fun _ h => by omega) _ xs ho h
  | .fn _ _ _, xs, ho, h => R_refs (n := 0) (fun _ h => by omega) _ xs ho h
theorem RL_col {ids : List Nat} (hρ : ∀ k i, ids[k]? = some i → ρ' k = ρ i) : ∀ (l : List AV) (xs : List Value), colOkL ids l = true → RL ρ I w l xs → RL ρ' I w (colL ids l) xs
  | [], _, _, h => h
  | a :: as, _, ho, ⟨ys, zs, h0, h1, h2⟩ => by
    simp only [colOkL, Bool.and_eq_true] at ho
    exact ⟨ys, zs, h0, R_col hρ a ys ho.1 h1, RL_col hρ as zs ho.2 h2⟩
theorem RV_col {ids : List Nat} (hρ : ∀ k i, ids[k]? = some i → ρ' k = ρ i) : ∀ (l : List AV) (vs : List Value), colOkL ids l = true → RV ρ I w l vs → RV ρ' I w (colL ids l) vs
  | [], _, _, h => h
  | a :: as, _, ho, ⟨x, xs, h0, h1, h2⟩ => by
    simp only [colOkL, Bool.and_eq_true] at ho
    refine ⟨x, xs, h0, ?_, RV_col hρ as xs ho.2 h2⟩
    have : ∀ ys, R ρ I w a ys → R ρ' I w (colA ids a) ys := fun ys => R_col hρ a ys ho.1
    cases a <;> simp only [colA, valOf] at h1 ⊢ <;> first | trivial | exact this _ h1 | (obtain ⟨cs, k1, k2⟩ := h1; exact ⟨cs, k1, this _ k2⟩)
end
end

section
variable {P : Program} {G : Env P} {R : ROps G} {T : Ctr G}

/-- A body from no memory. -/
theorem ACall.of_walk {L : FuncId → Nat → LPlan} {n : Nat} {f : FuncId} {args : List AV} {K : AV → Heap → Prop} (h : walk G R T.C L n f args K) : ACall G f args [] K := by
  unfold walk at h
  split at h
  · rename_i fn hf
    split at h
    · rename_i c hb
      have ha : ACall G f args [] (collectK K) := body_sound hf hb (aw3_sound (cinl_sound L n) (L f) c (by
        simp only [fL_eq] at h
        exact h))
      intro ρ I w vs hc hr
      -- nothing is owned: no number means anything
      have hnone : ∀ id, ρ id = none := fun id => Classical.byContradiction fun hn => by have := hc.dom id hn; simp at this
      have hρ0 : ρ = fun _ => none := funext hnone
      subst hρ0
      refine (ha _ I w vs hc hr).mono ?_
      rintro e w' ⟨x, rfl, ρ', I', v, H', g, c', hx, hk⟩
      unfold collectK at hk
      obtain ⟨hok, hK⟩ := cnd_iff.1 hk
      simp only [Bool.and_eq_true] at hok
      have hE : ∀ (ids : List Nat), colE H' ids = true → ∀ i ∈ ids, ∃ e, H'[i]? = some e ∧ e.live = true ∧ refsE 0 e = true := by
        intro ids
        induction ids with
        | nil => intro _ i hi; simp at hi
        | cons a as ih =>
          intro h i hi
          simp only [colE, Bool.and_eq_true] at h
          rcases List.mem_cons.1 hi with rfl | hi
          · have h1 := h.1
            split at h1
            · rename_i e he
              simp only [Bool.and_eq_true] at h1
              exact ⟨e, he, h1.1, h1.2⟩
            · simp at h1
          · exact ih h.2 i hi
      have hE' := hE _ hok.2
      obtain ⟨ρ2, q1, q2, q3⟩ := pick_conc c' (dedup (refsOf [v]) []) (dedup_nodup _ _ (by simp)) (fun i hi e he => by
        obtain ⟨e', h1, h2, h3⟩ := hE' i hi
        rw [h1] at he; simp at he; subst he; exact ⟨h2, h3⟩) (fun i hi => by
        obtain ⟨e', h1, _⟩ := hE' i hi
        exact (List.getElem?_eq_some_iff.1 h1).1)
      refine ⟨x, rfl, ρ2, I', _, _, q3 g, q2, ?_, hK⟩
      have hl : RV ρ2 I' w' (colL (dedup (refsOf [v]) []) [v]) [x] := RV_col q1 [v] [x] (by simp [colOkL, hok.1]) (RV_cons.2 ⟨x, [], rfl, hx, rfl⟩)
      obtain ⟨y, ys, k1, k2, _⟩ := RV_cons.1 hl
      simp only [List.cons.injEq] at k1
      obtain ⟨rfl, _⟩ := k1
      exact k2
    · exact h.elim
  · exact h.elim

/-- A contract off a walk. -/
theorem HCall.of_walk (L : FuncId → Nat → LPlan) (n : Nat) {f : FuncId} {args : List AV} {out : Out} (hp : pureL args = true) (ho : out.okB = true) (h : walk G R T.C L n f args out.has) : HCall G f args out :=
  ⟨hp, ho, ACall.of_walk h⟩

/-- No contract. -/
def Ctr.nil (G : Env P) : Ctr G := ⟨fun _ _ => none, fun _ _ _ _ h => by simp at h⟩

/-- One more contract. -/
def Ctr.add (T : Ctr G) (k : Nat) (c : List AV → Option (Bool × Out)) (ok : ∀ args pre out, c args = some (pre, out) → pre = true → HCall G k args out) : Ctr G where
  C := fun f args => bif f == k then c args else T.C f args
  ok := fun f args pre out h hp => by
    cases hb : f == k with
    | true =>
      rw [hb] at h
      have : f = k := by simpa using hb
      subst this
      exact ok args pre out h hp
    | false => rw [hb] at h; exact T.ok f args pre out h hp

/-- No operation on slices. -/
def ROps.nil (G : Env P) : ROps G := ⟨fun _ _ _ _ => none, fun _ _ _ _ _ _ _ _ => rfl, fun _ _ _ _ _ _ _ _ _ _ _ _ _ h => by simp at h⟩
end
end
end Go.V
