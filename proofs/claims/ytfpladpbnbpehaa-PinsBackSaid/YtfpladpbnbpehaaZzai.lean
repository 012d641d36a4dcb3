/- The abstract layer (third state): lemmas of use in many places. -/
import Derived.Test.YtfpladpbnbpehaaZzad
import Derived.Test.YtfpladpbnbpehaaZzag
import Derived.Test.YtfpladpbnbpehaaZzaf
import Derived.Test.YtfpladpbnbpehaaZzab

set_option linter.unusedSimpArgs false
set_option linter.unusedVariables false
namespace Go.V
open Go
noncomputable section
section
variable {P : Program} {G : Env P}
/-- What is known of calls, of either. -/
def Ctr.or (T T' : Ctr G) : Ctr G := ⟨fun f args => match T.C f args with
    | some r => some r
    | none => T'.C f args, fun f args pre out h hp => by
    cases h1 : T.C f args with
    | some r => rw [h1] at h; simp only [Option.some.injEq] at h; subst h; exact T.ok f args pre out h1 hp
    | none => rw [h1] at h; exact T'.ok f args pre out h hp⟩
end
section
variable {P : Program} {G : Env P}
/-- Rows of nothing. -/
def noRows : Nat → List AV := fun _ => []
/-- What is known of calls, where the first argument is a slice of nothing, too. -/
def Ctr.nil1 (T : Ctr G) (fs : List Nat) (k : Nat) : Ctr G := ⟨fun f args => match args with
    | .vec8 true [] :: rest => bif fs.contains f then T.C f (.vecr false k 0 noRows :: rest) else T.C f args
    | _ => T.C f args, fun f args pre out h hp => by
    split at h
    · rename_i rest
      cases hb : fs.contains f with
      | false => rw [hb] at h; exact T.ok f _ pre out h hp
      | true =>
        rw [hb] at h
        have hc := T.ok f _ pre out h hp
        refine HCall.args hc ?_ fun ρ I w vs r => ?_
        · have := hc.pa
          simpa [pureL, pureA] using this
        · obtain ⟨x, xs, rfl, k1, k2⟩ := RV_cons.1 r
          exact RV_cons.2 ⟨x, xs, rfl, leV_nil rfl _ _ _ _ k1, k2⟩
    · exact T.ok f _ pre out h hp⟩
end
/-- Is it so? -/
def yesF (p : Prop) : Bool := @decide p (Classical.propDecidable p)
def yes : Prop → Bool := (sealed yesF).val
theorem yes_iff {p : Prop} : yes p = true ↔ p := by
  rw [yes, (sealed yesF).property]; unfold yesF; exact @decide_eq_true_iff p (Classical.propDecidable p)
theorem ucutOk {α : Type} (l : List α) (m : Int) (hm : 0 ≤ m) : sliceOk none (some (cond false (max (l.length : Int) m) (min (l.length : Int) m))) l.length = true := by
  show (nnB _ && leB (Int.toNat _) _) = true
  rw [cond_false, nnB_iff.2 (by omega), leB_of (by omega)]; rfl
theorem ucutL {α : Type} (l : List α) (m : Int) (hm : 0 ≤ m) : sliceL none (some (cond false (max (l.length : Int) m) (min (l.length : Int) m))) l = l.take m.toNat := by
  show l.take (Int.toNat _) = _
  rw [cond_false]
  rcases Nat.le_total l.length m.toNat with h | h
  · rw [List.take_of_length_le h, List.take_of_length_le (by omega)]
  · congr 1; omega
theorem usomeOk (n : Nat) (m : Int) (hm : 0 ≤ m) : sliceOk none (some (cond false (max (n : Int) m) (min (n : Int) m))) n = true := by
  have := ucutOk (List.replicate n ()) m hm
  rwa [List.length_replicate] at this
theorem usomeN (n : Nat) (m : Int) (hm : 0 ≤ m) : hiN n (some (cond false (max (n : Int) m) (min (n : Int) m))) - 0 = min n m.toNat := by
  show Int.toNat _ - 0 = _
  rw [cond_false]; omega
theorem nnB_nat (n : Nat) : nnB (n : Int) = true := nnB_iff.2 (by omega)
theorem all8 (l : List UInt8) : List.take l.length (List.drop 0 l) = l := by rw [List.drop_zero, List.take_length]
end
end Go.V

/- The abstract layer (third state): what a function comes to, written no more from its end on. -/
set_option linter.unusedSimpArgs false
set_option linter.unusedVariables false
namespace Go.V
open Go
noncomputable section

/-- A result, written no more. -/
def coldT (H : Heap) : AV → Bool × AV × List (Nat × Ent)
  | .tup l => match coldL H l with
    | (c, l', u) => (c, .tup l', u)
  | a => coldA H a

section
variable {g : Nat → Option (List AV)} {ρ : Rho} {w : World}
theorem coldT_sound (v : AV) (I : Imm) (H : Heap) (c : Conc g ρ I H w) (hc : (coldT H v).1 = true) : FrzOk g ρ I H w (coldT H v).2.2 fun I' => ∀ x, rel ρ I w v x → rel ρ I' w (coldT H v).2.1 x := by
  have other : ∀ a, coldT H a = coldA H a → (coldT H a).1 = true → FrzOk g ρ I H w (coldT H a).2.2 fun I' => ∀ x, rel ρ I w a x → rel ρ I' w (coldT H a).2.1 x := by
    intro a h h1
    rw [h] at h1 ⊢
    obtain ⟨I', f1, f2, f3, f4⟩ := coldA_sound a I H c h1
    exact ⟨I', f1, f2, f3, fun x r => rel_of_R (coldA_ag H a) f4 r⟩
  cases v with
  | tup l =>
    have hc' : (coldL H l).1 = true := hc
    obtain ⟨I', f1, f2, f3, f4⟩ := coldL_rv l I H c hc'
    refine ⟨I', f1, f2, f3, fun x r => ?_⟩
    obtain ⟨cs, h1, h2⟩ := rel_tup.1 r
    exact rel_tup.2 ⟨cs, h1, f4 _ h2⟩
  | _ => exact other _ rfl hc
end

/-- A leaf of a walk that comes to what is told, as it is or written no more. -/
def okOut (out : Out) (v : AV) (H : Heap) : Prop := out.has v H ∨ ∃ v' v'' u, coldT H v = (true, v', u) ∧ leV v' v'' ∧ pureA v'' = true ∧ out.has v'' []

section
variable {P : Program} {G : Env P} {R : ROps G} {T : Ctr G}
theorem HCall.of_walkC (L : FuncId → Nat → LPlan) (n : Nat) {f : FuncId} {args : List AV} {out : Out} (hp : pureL args = true) (ho : out.okB = true) (h : walk G R T.C L n f args (okOut out)) : HCall G f args out := by
  refine ⟨hp, ho, fun ρ I w vs c r => (ACall.of_walk h ρ I w vs c r).mono ?_⟩
  rintro e w' ⟨x, rfl, ρ', I', v, H', gd, c', hr, hh⟩
  rcases hh with hh | ⟨v', v'', u, h1, h2, h3, h4⟩
  · exact ⟨x, rfl, ρ', I', v, H', gd, c', hr, hh⟩
  · obtain ⟨I2, f1, f2, f3, f4⟩ := coldT_sound v I' H' c' (by rw [h1])
    rw [h1] at f1 f2 f4
    obtain ⟨c2, g2⟩ := cut_conc f2 0 (fun e he => by simp at he)
    exact ⟨x, rfl, cutR 0 ρ', I2, v'', [], g2 (gd.trans f1) (fun id h => absurd (c.dom id h) (by simp)) (Nat.le_refl _), c2, rel_pure h3 (h2 _ _ _ _ (f4 _ hr)), h4⟩
end

theorem okOut.here {out : Out} {v : AV} {H : Heap} (h : out.has v H) : okOut out v H := .inl h
theorem okOut.ret {v : AV} {H : Heap} : okOut (.ret v H) v H := .inl ⟨rfl, rfl⟩
theorem okOut.le {out : Out} {v v' : AV} {H : Heap} (hv : pureA v = true) (hc : coldT H v = (true, v, [])) (hle : leV v v') (hp : pureA v' = true) (h : out.has v' []) : okOut out v H := .inr ⟨v, v', [], hc, hle, hp, h⟩
theorem okOut.cold {out : Out} {v v' v'' : AV} {H : Heap} {u : List (Nat × Ent)} (hc : coldT H v = (true, v', u)) (hle : leV v' v'') (hp : pureA v'' = true) (h : out.has v'' []) : okOut out v H := .inr ⟨v', v'', u, hc, hle, hp, h⟩
theorem okOut.alt {b : Bool} {x y : Out} {v : AV} {H : Heap} (h1 : b = true → okOut x v H) (h2 : b = false → okOut y v H) : okOut (.alt b x y) v H := by
  cases b with
  | true => exact h1 rfl
  | false => exact h2 rfl

/-- Bytes that end a walk, whole. -/
theorem coldA_sl {l : List UInt8} {n : Nat} (h : n = l.length) : coldA [.grow8 l []] (.sl 0 0 1 n) = (true, .vec8 false l, [(0, .grow8 l [(0, n)])]) := by
  subst h
  show (frzFree [] 0 l.length && (1 == 1 && leB (0 + l.length) l.length), AV.vec8 false ((l.drop 0).take l.length), [(0, Ent.grow8 l [(0, 0 + l.length)])]) = _
  rw [leB_of (by omega), List.drop_zero, List.take_length, Nat.zero_add]; rfl

theorem coldA_sl' {H : Heap} {id : Nat} {l : List UInt8} {n : Nat} (hid : H[id]? = some (.grow8 l [])) (h : n = l.length) : coldA H (.sl id 0 1 n) = (true, .vec8 false l, [(id, .grow8 l [(0, n)])]) := by
  subst h
  simp only [coldA, hid]
  show (frzFree [] 0 l.length && (1 == 1 && leB (0 + l.length) l.length), AV.vec8 false ((l.drop 0).take l.length), [(id, Ent.grow8 l [(0, 0 + l.length)])]) = _
  rw [leB_of (by omega), List.drop_zero, List.take_length, Nat.zero_add]; rfl
theorem leV_nil8 {a : AV} (h : nilS a = true) : leV a (.vec8 false []) := fun _ _ _ _ r => by
  obtain ⟨x, rfl⟩ := nilS_val h r
  exact rel_vec8.2 ⟨x, 0, rfl, Nat.le_refl _, fun _ => rfl, .inl rfl⟩
/-- One more row. -/
theorem rows_app {i : Nat} {f g c : Nat → List AV} (h : ∀ x, x < i → leR (f x) (g x)) (hl : leR (c 0) (g i)) : ∀ x, x < i + 1 → leR (catF i f c x) (g x) := by
  intro x hx
  unfold catF
  rcases Nat.lt_or_ge x i with h1 | h1
  · rw [ltB_iff.2 h1]; exact h x h1
  · obtain rfl : x = i := by omega
    rw [ltB_no (by omega), Nat.sub_self]; exact hl
/-- Rows behind rows. -/
theorem rows_cat {n m : Nat} {f g h : Nat → List AV} (h1 : ∀ x, x < n → leR (f x) (h x)) (h2 : ∀ x, x < m → leR (g x) (h (n + x))) : ∀ x, x < n + m → leR (catF n f g x) (h x) := by
  intro x hx
  unfold catF
  rcases Nat.lt_or_ge x n with k | k
  · rw [ltB_iff.2 k]; exact h1 x k
  · rw [ltB_no (by omega)]
    have := h2 (x - n) (by omega)
    rwa [show n + (x - n) = x by omega] at this
end
end Go.V
namespace Go.V
open Go
/-- Rows of parts, told by number. -/
theorem leV_rows {full : Bool} {k : Nat} (L : List (List AV)) (f : Nat → List AV) (hf : ∀ i, i < L.length → f i = L.getD i []) (ho : ∀ i, i < L.length → okL (f i) = true) : leV (.vec full k (L.map AV.agg)) (.vecr full k L.length f) := by
  intro ρ I w v h
  obtain ⟨hsz, vs, hr, hv⟩ := rel_vec.1 h
  rw [List.length_map] at hv
  have hlen : vs.length = L.length * k := by
    have : ∀ (rows : List AV) (us : List Value), (∀ a ∈ rows, szA a = k) → RL ρ I w rows us → us.length = rows.length * k := by
      intro rows
      induction rows with
      | nil => intro us _ h; cases h; simp
      | cons a rs ih =>
        intro us hk h
        obtain ⟨ys, zs, rfl, h1, h2⟩ := RL_cons.1 h
        rw [List.length_append, R_len a ys h1, hk a (by simp), ih zs (fun b hb => hk b (by simp [hb])) h2, List.length_cons, Nat.add_mul, Nat.one_mul, Nat.add_comm]
    have := this _ _ hsz hr
    rwa [List.length_map] at this
  refine rel_vecr.2 ⟨ho, vs, hlen, fun i hi => ?_, hv⟩
  obtain ⟨ys, q1, q2, q3, _⟩ := RL_rows hsz hr (i := i) (a := .agg L[i]) (by simp [hi])
  have hy : ys.length = k := by
    have h1 := R_len _ _ q1
    have h2 := hsz (.agg L[i]) (by simp)
    omega
  have he : (vs.drop (i * k)).take k = ys := by
    apply List.ext_getElem?
    intro j
    rw [List.getElem?_take, List.getElem?_drop]
    split
    · rename_i hj
      rw [List.getElem?_eq_getElem (l := ys) (by omega)]
      exact q3 j _ (List.getElem?_eq_getElem (by omega))
    · rw [List.getElem?_eq_none (by omega)]
  rw [he, hf i hi, List.getD_eq_getElem?_getD, List.getElem?_eq_getElem hi]
  exact q1
end Go.V

/- Pins, as plain things. -/
set_option linter.unusedSimpArgs false
set_option linter.unusedVariables false
namespace Go.Pin
open Go Go.V
structure Pn where
  name : List UInt8
  key : List UInt8
  gone : Bool
  deriving DecidableEq
def pn0 : Pn := ⟨[], [], false⟩
def Pn.cells (p : Pn) : List AV := [.str p.name, .b8 32 p.key, .bool p.gone]
def pcs (l : List Pn) (i : Nat) : List AV := (l.getD i pn0).cells
theorem pcs_ok (l : List Pn) (i : Nat) : leR (pcs l i) (pcs l i) := leR.refl rfl
theorem pcs_app1 {a b : List Pn} {x : Nat} (h : x < a.length) : pcs (a ++ b) x = pcs a x := by
  unfold pcs; rw [List.getD_eq_getElem?_getD, List.getD_eq_getElem?_getD, List.getElem?_append_left h]
theorem pcs_app2 {a b : List Pn} {x : Nat} : pcs (a ++ b) (a.length + x) = pcs b x := by
  unfold pcs; rw [List.getD_eq_getElem?_getD, List.getD_eq_getElem?_getD, List.getElem?_append_right (by omega), Nat.add_sub_cancel_left]
theorem pcs_inj {l l' : List Pn} (h1 : l.length = l'.length) (h2 : ∀ i, i < l.length → pcs l i = pcs l' i) : l = l' := by
  apply List.ext_getElem h1
  intro i hi hi'
  have := h2 i hi
  unfold pcs at this
  rw [List.getD_eq_getElem?_getD, List.getD_eq_getElem?_getD, List.getElem?_eq_getElem hi, List.getElem?_eq_getElem hi'] at this
  simp only [Option.getD_some, Pn.cells, List.cons.injEq, AV.str.injEq, AV.b8.injEq, AV.bool.injEq, true_and, and_true] at this
  obtain ⟨a, b, c⟩ := this
  cases h : l[i]; cases h' : l'[i]
  simp_all
/-- Pins off rows. -/
noncomputable def pnsOf (n : Nat) (f : Nat → List AV) : List Pn := @dite _ (∃ l : List Pn, n = l.length ∧ ∀ i, i < n → f i = pcs l i) (Classical.propDecidable _) (fun h => Classical.choose h) (fun _ => [])
theorem pnsOf_eq {n : Nat} {f : Nat → List AV} (l : List Pn) (hn : n = l.length) (hf : ∀ i, i < n → f i = pcs l i) : pnsOf n f = l := by
  unfold pnsOf
  have h : ∃ l : List Pn, n = l.length ∧ ∀ i, i < n → f i = pcs l i := ⟨l, hn, hf⟩
  rw [dif_pos h]
  obtain ⟨h1, h2⟩ := Classical.choose_spec h
  exact pcs_inj (h1.symm.trans hn) fun i hi => by rw [← h2 i (by omega), hf i (by omega)]
noncomputable def isPnsF (n : Nat) (f : Nat → List AV) : Bool := yes (∃ l : List Pn, n = l.length ∧ ∀ i, i < n → f i = pcs l i)
noncomputable def isPns : Nat → (Nat → List AV) → Bool := (sealed isPnsF).val
theorem isPns_iff {n : Nat} {f : Nat → List AV} : isPns n f = true ↔ ∃ l : List Pn, n = l.length ∧ ∀ i, i < n → f i = pcs l i := by
  rw [isPns, (sealed isPnsF).property]; exact yes_iff
theorem isPns_pcs {l : List Pn} : isPns l.length (pcs l) = true := isPns_iff.2 ⟨l, rfl, fun _ _ => rfl⟩

/-- Is it a name? -/
def nameOk (s : List UInt8) : Bool := leB 1 s.length && leB s.length 16
/-- May the pin at a place be? -/
def pinOk (l : List Pn) (i : Nat) : Bool := nameOk (l.getD i pn0).name && (bif ltB 0 i then Op.bytesLess (l.getD (i - 1) pn0).name (l.getD i pn0).name else true)
def pinsOk (l : List Pn) : Bool := (List.range l.length).all (pinOk l)
def faultP (l : List Pn) : Int := bif ltB 8 l.length then 1 else bif pinsOk l then 0 else 9
noncomputable def faultPS : List Pn → Int := (sealed faultP).val
theorem faultPS_eq : faultPS = faultP := by rw [faultPS, (sealed faultP).property]
/-- How many names are ahead. -/
def posP (l : List Pn) (s : List UInt8) : Nat := (l.takeWhile fun p => Op.bytesLess p.name s).length
def hasP (l : List Pn) (s : List UInt8) : Bool := ltB (posP l s) l.length && (l.getD (posP l s) pn0).name == s
end Go.Pin

/- Pins: their order. -/
set_option linter.unusedSimpArgs false
set_option linter.unusedVariables false
namespace Go.Pin
open Go Go.V
theorem bl_iff : ∀ (x y : List UInt8), Op.bytesLess x y = true ↔ x < y
  | [], [] => by simp [Op.bytesLess]
  | _ :: _, [] => by simp [Op.bytesLess]
  | [], _ :: _ => by simp [Op.bytesLess]
  | a :: x, b :: y => by
    rw [Op.bytesLess, List.cons_lt_cons_iff, ← bl_iff x y]
    by_cases h1 : a < b <;> by_cases h2 : a = b <;> simp [h1, h2]
theorem bl_trans {x y z : List UInt8} (h : Op.bytesLess x y = true) (g : Op.bytesLess y z = true) : Op.bytesLess x z = true :=
  (bl_iff _ _).2 (List.lt_trans ((bl_iff _ _).1 h) ((bl_iff _ _).1 g))
theorem bl_irrefl (x : List UInt8) : Op.bytesLess x x = false := by
  cases h : Op.bytesLess x x with
  | false => rfl
  | true => exact absurd ((bl_iff _ _).1 h) (List.lt_irrefl _)
theorem bl_asymm {x y : List UInt8} (h : Op.bytesLess x y = true) : Op.bytesLess y x = false := by
  cases g : Op.bytesLess y x with
  | false => rfl
  | true => exact absurd ((bl_iff _ _).1 g) (List.lt_asymm ((bl_iff _ _).1 h))
theorem bl_total {x y : List UInt8} (h : Op.bytesLess x y = false) (g : Op.bytesLess y x = false) : x = y := by
  have h' : ¬ x < y := fun e => by rw [(bl_iff _ _).2 e] at h; cases h
  have g' : ¬ y < x := fun e => by rw [(bl_iff _ _).2 e] at g; cases g
  exact List.le_antisymm g' h'
def nm (l : List Pn) (i : Nat) : List UInt8 := (l.getD i pn0).name
theorem pinsOk_iff {l : List Pn} : pinsOk l = true ↔ ∀ i, i < l.length → nameOk (nm l i) = true ∧ (0 < i → Op.bytesLess (nm l (i - 1)) (nm l i) = true) := by
  unfold pinsOk
  rw [List.all_eq_true]
  constructor
  · intro h i hi
    have := h i (List.mem_range.2 hi)
    unfold pinOk at this
    rw [Bool.and_eq_true] at this
    refine ⟨this.1, fun h0 => ?_⟩
    have h2 := this.2
    rw [ltB_iff.2 h0, cond_true] at h2
    exact h2
  · intro h i hi
    obtain ⟨h1, h2⟩ := h i (List.mem_range.1 hi)
    unfold pinOk
    rw [Bool.and_eq_true]
    refine ⟨h1, ?_⟩
    cases hb : ltB 0 i with
    | false => rfl
    | true => exact h2 (ltB_iff.1 hb)
theorem nm_mono {l : List Pn} (h : pinsOk l = true) : ∀ (d i : Nat), i + d + 1 < l.length → Op.bytesLess (nm l i) (nm l (i + d + 1)) = true
  | 0, i, hi => by have := (pinsOk_iff.1 h (i + 1) hi).2 (by omega); exact this
  | d + 1, i, hi => by
    have h1 := nm_mono h d i (by omega)
    have h2 := (pinsOk_iff.1 h (i + d + 1 + 1) (by omega)).2 (by omega)
    exact bl_trans h1 h2
theorem nm_lt {l : List Pn} (h : pinsOk l = true) {i j : Nat} (hij : i < j) (hj : j < l.length) : Op.bytesLess (nm l i) (nm l j) = true := by
  have := nm_mono h (j - i - 1) i (by omega)
  rwa [show i + (j - i - 1) + 1 = j by omega] at this
theorem posP_le (l : List Pn) (s : List UInt8) : posP l s ≤ l.length := (List.takeWhile_sublist _).length_le
theorem posP_low {l : List Pn} {s : List UInt8} : ∀ {j : Nat}, j < posP l s → Op.bytesLess (nm l j) s = true := by
  unfold posP nm
  induction l with
  | nil => intro j h; simp at h
  | cons p l ih =>
    intro j h
    rw [List.takeWhile_cons] at h
    split at h
    · rename_i hp
      cases j with
      | zero => exact hp
      | succ j => exact ih (by simpa using h)
    · simp at h
theorem posP_at {l : List Pn} {s : List UInt8} : posP l s < l.length → Op.bytesLess (nm l (posP l s)) s = false := by
  unfold posP nm
  induction l with
  | nil => intro h; simp at h
  | cons p l ih =>
    intro h
    rw [List.takeWhile_cons] at h ⊢
    split
    · rename_i hp
      rw [if_pos hp] at h
      exact ih (by simpa using h)
    · rename_i hp
      simpa using hp
/-- Names ahead of a place are lesser ones, those from it on are not. -/
theorem posP_spec {l : List Pn} (h : pinsOk l = true) {s : List UInt8} {j : Nat} (hj : j < l.length) : Op.bytesLess (nm l j) s = ltB j (posP l s) := by
  rcases Nat.lt_or_ge j (posP l s) with k | k
  · rw [ltB_iff.2 k]; exact posP_low k
  · rw [ltB_no k]
    have h1 := posP_at (l := l) (s := s) (by omega)
    rcases Nat.lt_or_ge (posP l s) j with k2 | k2
    · cases hb : Op.bytesLess (nm l j) s with
      | false => rfl
      | true => rw [bl_trans (nm_lt h k2 hj) hb] at h1; cases h1
    · obtain rfl : j = posP l s := by omega
      exact h1
theorem mid_val {i j : Nat} (h : i + j < 9223372036854775808) : wr .i64 (((UInt64.toNat (shr64 (UInt64.ofNat (Int.toNat ((wr .i64 (((i : Nat) : Int) + ((j : Nat) : Int))) % 18446744073709551616))) 1)) : Nat) : Int) = (((i + j) / 2 : Nat) : Int) := by
  rw [wr_of (z := ((i : Nat) : Int) + _) (by omega) (by omega)]
  have e1 : ((((i : Nat) : Int) + ((j : Nat) : Int)) % 18446744073709551616).toNat = i + j := by omega
  rw [e1]
  unfold shr64
  have e2 : (UInt64.ofNat (i + j)).toNat = i + j := by rw [UInt64.toNat_ofNat']; omega
  rw [e2]
  have e3 : (UInt64.ofNat ((i + j) / 2 ^ 1)).toNat = (i + j) / 2 := by rw [UInt64.toNat_ofNat']; omega
  rw [e3]
  exact wr_of (by omega) (by omega)
end Go.Pin
namespace Go.Pin
open Go Go.V
theorem catF_pcs {a b : List Pn} {n : Nat} (hn : n = a.length) {f g : Nat → List AV} (hf : ∀ i, i < n → f i = pcs a i) (hg : ∀ i, i < b.length → g i = pcs b i) : ∀ i, i < n + b.length → catF n f g i = pcs (a ++ b) i := by
  intro i hi
  unfold catF
  subst hn
  rcases Nat.lt_or_ge i a.length with h | h
  · rw [ltB_iff.2 h, cond_true, hf i h, pcs_app1 h]
  · rw [ltB_no h, cond_false, hg _ (by omega)]
    have := pcs_app2 (a := a) (b := b) (x := i - a.length)
    rw [show a.length + (i - a.length) = i by omega] at this
    exact this.symm
theorem pcs_take {L : List Pn} {m i : Nat} (h : i < m) : pcs (L.take m) i = pcs L i := by
  unfold pcs; rw [List.getD_eq_getElem?_getD, List.getD_eq_getElem?_getD, List.getElem?_take, if_pos h]
theorem pcs_drop {L : List Pn} {m i : Nat} : pcs (L.drop m) i = pcs L (m + i) := by
  unfold pcs; rw [List.getD_eq_getElem?_getD, List.getD_eq_getElem?_getD, List.getElem?_drop]
def pnZ : Pn := ⟨[], [0, 0, 0, 0, 0, 0, 0, 0, 0, 0, 0, 0, 0, 0, 0, 0, 0, 0, 0, 0, 0, 0, 0, 0, 0, 0, 0, 0, 0, 0, 0, 0], false⟩
def findP (L : List Pn) (s : List UInt8) : Pn × Int := bif faultP L == 0 then (bif hasP L s then (L.getD (posP L s) pn0, 0) else (pnZ, 5)) else (pnZ, faultP L)
def insP (L : List Pn) (i : Nat) (p : Pn) : List Pn := (L.take i ++ [p]) ++ L.drop i
def chgP (L : List Pn) (i : Nat) (g : List Pn) : List Pn := (L.take i ++ g) ++ L.drop (i + 1)
def trustP (L : List Pn) (s k : List UInt8) : List Pn × Int :=
  bif faultP L == 0 then (bif nameOk s then (bif hasP L s then (bif (L.getD (posP L s) pn0).gone || !((L.getD (posP L s) pn0).key == k) then ([], 13) else (L, 0))
    else (bif L.length == 8 then ([], 8) else (insP L (posP L s) ⟨s, k, false⟩, 0))) else ([], 3)) else ([], faultP L)
def changeP (L : List Pn) (s : List UInt8) (g : Pn → List Pn) : List Pn × Int :=
  bif faultP L == 0 then (bif hasP L s then (chgP L (posP L s) (g (L.getD (posP L s) pn0)), 0) else ([], 5)) else ([], faultP L)
def rotateP (L : List Pn) (s k : List UInt8) : List Pn × Int := changeP L s fun p => [⟨p.name, k, false⟩]
def revokeP (L : List Pn) (s : List UInt8) : List Pn × Int := changeP L s fun p => [⟨p.name, p.key, true⟩]
def forgetP (L : List Pn) (s : List UInt8) : List Pn × Int := changeP L s fun _ => []
noncomputable def findS : List Pn → List UInt8 → Pn × Int := (sealed findP).val
theorem findS_eq : findS = findP := by rw [findS, (sealed findP).property]
noncomputable def trustS : List Pn → List UInt8 → List UInt8 → List Pn × Int := (sealed trustP).val
theorem trustS_eq : trustS = trustP := by rw [trustS, (sealed trustP).property]
noncomputable def rotateS : List Pn → List UInt8 → List UInt8 → List Pn × Int := (sealed rotateP).val
theorem rotateS_eq : rotateS = rotateP := by rw [rotateS, (sealed rotateP).property]
noncomputable def revokeS : List Pn → List UInt8 → List Pn × Int := (sealed revokeP).val
theorem revokeS_eq : revokeS = revokeP := by rw [revokeS, (sealed revokeP).property]
noncomputable def forgetS : List Pn → List UInt8 → List Pn × Int := (sealed forgetP).val
theorem forgetS_eq : forgetS = forgetP := by rw [forgetS, (sealed forgetP).property]
/-- Pins and what is wrong. -/
noncomputable def pinsO (r : List Pn × Int) : Out := .ret (.tup [.vecr false 34 r.1.length (pcs r.1), .int .i64 r.2]) []
theorem pins_nil {e : Int} {r : List Pn × Int} (h : r = ([], e)) : okOut (pinsO r) (.tup [.vec8 true [], .int .i64 e]) [] := by
  subst h
  exact okOut.cold (v' := .tup [.vec8 true [], .int .i64 e]) rfl (leV_tup (leRV_cons (leV_nil rfl) (leRV_cons (leV.refl _) leRV_nil))) rfl ⟨rfl, rfl⟩
theorem pins_rows {e : Int} {r : List Pn × Int} {M : List Pn} {n : Nat} {f : Nat → List AV} (h : r = (M, e)) (hn : n = M.length) (hf : ∀ i, i < n → f i = pcs M i) : okOut (pinsO r) (.tup [.slv 0 34 n f, .int .i64 e]) [.tail 34 n] := by
  subst h; subst hn
  exact okOut.cold (v' := .tup [.vecr false 34 M.length f, .int .i64 e]) rfl (leV_tup (leRV_cons (leV_vecr (fun h => h) fun i hi => leR.of_eq (pcs_ok M i).ok (hf i hi)) (leRV_cons (leV.refl _) leRV_nil))) rfl ⟨rfl, rfl⟩
theorem fault_le {L : List Pn} (h : faultP L = 0) : L.length ≤ 8 ∧ pinsOk L = true := by
  unfold faultP at h
  cases h8 : ltB 8 L.length with
  | true => rw [h8] at h; simp at h
  | false =>
    rw [h8] at h
    refine ⟨of_ltB_no h8, ?_⟩
    cases hp : pinsOk L with
    | true => rfl
    | false => rw [hp] at h; simp at h
end Go.Pin

/- Keys and names of numbers. -/
set_option linter.unusedSimpArgs false
set_option linter.unusedVariables false
namespace Go.Pin
open Go Go.V
def kbytes (a b c d : UInt8) : List UInt8 := [a, b + 1, c + 4, d + 9, a + 16, b + 25, c + 36, d + 49, a + 64, b + 81, c + 100, d + 121, a + 144, b + 169, c + 196, d + 225, a, b + 33, c + 68, d + 105, a + 144, b + 185, c + 228, d + 17, a + 64, b + 113, c + 164, d + 217, a + 16, b + 73, c + 132, d + 193]
def kx (n : Int) (k : Nat) : UInt8 := UInt32.toUInt8 (shr32 (UInt32.ofNat (Int.toNat (n % 4294967296))) k)
def keyF (n : Int) : List UInt8 := kbytes (kx n 0) (kx n 8) (kx n 16) (kx n 24)
noncomputable def keyS : Int → List UInt8 := (sealed keyF).val
theorem keyS_eq (n : Int) : keyS n = keyF n := by rw [keyS, (sealed keyF).property]
theorem length_keyS (n : Int) : (keyS n).length = 32 := by rw [keyS_eq]; rfl
def namedF (n : Int) : List UInt8 := ([97 + UInt8.ofNat (Int.toNat ((n % 12) % 256)), 122] : List UInt8).take (1 + n % 2).toNat
noncomputable def namedS : Int → List UInt8 := (sealed namedF).val
theorem namedS_eq (n : Int) : namedS n = namedF n := by rw [namedS, (sealed namedF).property]
end Go.Pin

/- Pins: what the operations keep. -/
set_option linter.unusedSimpArgs false
set_option linter.unusedVariables false
namespace Go.Pin
open Go Go.V
theorem nm_get {l : List Pn} {i : Nat} (h : i < l.length) : nm l i = l[i].name := by
  unfold nm; rw [List.getD_eq_getElem?_getD, List.getElem?_eq_getElem h]; rfl
theorem pinsOk_pw {L : List Pn} : pinsOk L = true ↔ (∀ p ∈ L, nameOk p.name = true) ∧ (L.map (·.name)).Pairwise fun a b => Op.bytesLess a b = true := by
  constructor
  · intro h
    refine ⟨fun p hp => ?_, ?_⟩
    · obtain ⟨i, hi, rfl⟩ := List.getElem_of_mem hp
      have := (pinsOk_iff.1 h i hi).1
      rwa [nm_get hi] at this
    · rw [List.pairwise_iff_getElem]
      intro i j hi hj hij
      rw [List.length_map] at hi hj
      have := nm_lt h hij hj
      rw [nm_get hi, nm_get hj] at this
      simpa using this
  · rintro ⟨h1, h2⟩
    refine pinsOk_iff.2 fun i hi => ⟨?_, fun h0 => ?_⟩
    · rw [nm_get hi]; exact h1 _ (List.getElem_mem _)
    · rw [nm_get hi, nm_get (by omega)]
      have := List.pairwise_iff_getElem.1 h2 (i - 1) i (by rw [List.length_map]; omega) (by rw [List.length_map]; exact hi) (by omega)
      simpa using this
theorem faultP_iff {L : List Pn} : faultP L = 0 ↔ L.length ≤ 8 ∧ pinsOk L = true := by
  constructor
  · exact fault_le
  · rintro ⟨h1, h2⟩
    unfold faultP
    rw [ltB_no h1, h2]; rfl
theorem mem_take_nm {L : List Pn} {k : Nat} {p : Pn} (h : p ∈ L.take k) : ∃ i, i < k ∧ i < L.length ∧ p.name = nm L i := by
  obtain ⟨i, hi, rfl⟩ := List.getElem_of_mem h
  rw [List.length_take] at hi
  exact ⟨i, by omega, by omega, by rw [nm_get (by omega), List.getElem_take]⟩
theorem mem_drop_nm {L : List Pn} {k : Nat} {p : Pn} (h : p ∈ L.drop k) : ∃ i, k ≤ i ∧ i < L.length ∧ p.name = nm L i := by
  obtain ⟨i, hi, rfl⟩ := List.getElem_of_mem h
  rw [List.length_drop] at hi
  exact ⟨k + i, by omega, by omega, by rw [nm_get (by omega), List.getElem_drop]⟩
theorem ins_ok {L : List Pn} (h : faultP L = 0) {p : Pn} (hn : nameOk p.name = true) (hh : hasP L p.name = false) (h8 : L.length ≠ 8) : faultP (insP L (posP L p.name) p) = 0 := by
  obtain ⟨hl, hp⟩ := faultP_iff.1 h
  obtain ⟨h1, h2⟩ := pinsOk_pw.1 hp
  have hpl := posP_le L p.name
  refine faultP_iff.2 ⟨by unfold insP; rw [List.length_append, List.length_append, List.length_take, List.length_drop]; show _ + 1 + _ ≤ _; omega, pinsOk_pw.2 ⟨fun q hq => ?_, ?_⟩⟩
  · unfold insP at hq
    rw [List.mem_append, List.mem_append, List.mem_singleton] at hq
    rcases hq with (hq | rfl) | hq
    · exact h1 q (List.mem_of_mem_take hq)
    · exact hn
    · exact h1 q (List.mem_of_mem_drop hq)
  · unfold insP
    rw [List.map_append, List.map_append, List.pairwise_append, List.pairwise_append]
    have low : ∀ q ∈ L.take (posP L p.name), Op.bytesLess q.name p.name = true := fun q hq => by
      obtain ⟨i, hi, hi2, he⟩ := mem_take_nm hq
      rw [he, posP_spec hp hi2, ltB_iff.2 hi]
    have high : ∀ q ∈ L.drop (posP L p.name), Op.bytesLess p.name q.name = true := fun q hq => by
      obtain ⟨i, hi, hi2, he⟩ := mem_drop_nm hq
      have hlt : posP L p.name < L.length := by omega
      have hat := posP_at hlt
      have hne : (nm L (posP L p.name) == p.name) = false := by
        unfold hasP at hh
        rw [ltB_iff.2 hlt, Bool.true_and] at hh
        exact hh
      have h0 : Op.bytesLess p.name (nm L (posP L p.name)) = true := by
        cases hb : Op.bytesLess p.name (nm L (posP L p.name)) with
        | true => rfl
        | false => rw [bl_total hat hb] at hne; simp at hne
      rw [he]
      rcases Nat.lt_or_ge (posP L p.name) i with hk | hk
      · exact bl_trans h0 (nm_lt hp hk hi2)
      · obtain rfl : i = posP L p.name := by omega
        exact h0
    refine ⟨⟨?_, by simp, ?_⟩, ?_, ?_⟩
    · exact h2.sublist ((List.take_sublist _ _).map _)
    · intro a ha b hb
      obtain ⟨q, hq, rfl⟩ := List.mem_map.1 ha
      simp only [List.map_cons, List.map_nil, List.mem_singleton] at hb
      subst hb
      exact low q hq
    · exact h2.sublist ((List.drop_sublist _ _).map _)
    · intro a ha b hb
      obtain ⟨q', hq', rfl⟩ := List.mem_map.1 hb
      rw [List.mem_append] at ha
      rcases ha with ha | ha
      · obtain ⟨q, hq, rfl⟩ := List.mem_map.1 ha
        exact bl_trans (low q hq) (high q' hq')
      · simp only [List.map_cons, List.map_nil, List.mem_singleton] at ha
        subst ha
        exact high q' hq'
theorem split_at {L : List Pn} {i : Nat} (h : i < L.length) : L = (L.take i ++ [L.getD i pn0]) ++ L.drop (i + 1) := by
  rw [List.getD_eq_getElem?_getD, List.getElem?_eq_getElem h, Option.getD_some, List.append_assoc, List.singleton_append, List.getElem_cons_drop, List.take_append_drop]
theorem chg1_ok {L : List Pn} (h : faultP L = 0) {i : Nat} (hi : i < L.length) {q : Pn} (hq : q.name = (L.getD i pn0).name) : faultP (chgP L i [q]) = 0 := by
  obtain ⟨hl, hp⟩ := faultP_iff.1 h
  obtain ⟨h1, h2⟩ := pinsOk_pw.1 hp
  have hm : (chgP L i [q]).map (·.name) = L.map (·.name) := by
    conv => rhs; rw [split_at hi]
    unfold chgP
    simp only [List.map_append, List.map_cons, List.map_nil, hq]
  have hlen : (chgP L i [q]).length = L.length := by have := congrArg List.length hm; simpa using this
  refine faultP_iff.2 ⟨by omega, pinsOk_pw.2 ⟨fun p hp => ?_, by rw [hm]; exact h2⟩⟩
  have : p.name ∈ L.map (·.name) := by rw [← hm]; exact List.mem_map.2 ⟨p, hp, rfl⟩
  obtain ⟨p', hp', he⟩ := List.mem_map.1 this
  rw [← he]; exact h1 p' hp'
theorem chg0_sub (L : List Pn) (i : Nat) : (chgP L i []).Sublist L := by
  unfold chgP
  rw [List.append_nil]
  conv => rhs; rw [← List.take_append_drop i L]
  refine List.Sublist.append (List.Sublist.refl _) ?_
  rw [← List.drop_drop]
  exact List.drop_sublist _ _
theorem chg0_ok {L : List Pn} (h : faultP L = 0) (i : Nat) : faultP (chgP L i []) = 0 := by
  obtain ⟨hl, hp⟩ := faultP_iff.1 h
  obtain ⟨h1, h2⟩ := pinsOk_pw.1 hp
  have hs := chg0_sub L i
  exact faultP_iff.2 ⟨Nat.le_trans hs.length_le hl, pinsOk_pw.2 ⟨fun p hp => h1 p (hs.subset hp), h2.sublist (hs.map _)⟩⟩
/-- What an operation comes to. -/
def Fine (r : List Pn × Int) : Prop := (r.2 = 0 ∧ faultP r.1 = 0) ∨ r.2 = 13 ∨ r.2 = 5 ∨ r.2 = 8
theorem hasP_pos {L : List Pn} {s : List UInt8} (h : hasP L s = true) : posP L s < L.length ∧ (L.getD (posP L s) pn0).name = s := by
  unfold hasP at h
  rw [Bool.and_eq_true] at h
  exact ⟨ltB_iff.1 h.1, by simpa using h.2⟩
theorem trust_fine {L : List Pn} (h : faultP L = 0) {s k : List UInt8} (hn : nameOk s = true) : Fine (trustP L s k) := by
  unfold trustP
  rw [h, beq_self_eq_true, cond_true, hn, cond_true]
  cases hh : hasP L s with
  | true =>
    rw [cond_true]
    cases (L.getD (posP L s) pn0).gone || !((L.getD (posP L s) pn0).key == k) with
    | true => exact .inr (.inl rfl)
    | false => exact .inl ⟨rfl, h⟩
  | false =>
    rw [cond_false]
    cases h8 : L.length == 8 with
    | true => exact .inr (.inr (.inr rfl))
    | false => exact .inl ⟨rfl, ins_ok h (p := ⟨s, k, false⟩) hn hh (by simpa using h8)⟩
theorem rotate_fine {L : List Pn} (h : faultP L = 0) (s k : List UInt8) : Fine (rotateP L s k) := by
  unfold rotateP changeP
  rw [h, beq_self_eq_true, cond_true]
  cases hh : hasP L s with
  | true => exact .inl ⟨rfl, chg1_ok h (hasP_pos hh).1 rfl⟩
  | false => exact .inr (.inr (.inl rfl))
theorem revoke_fine {L : List Pn} (h : faultP L = 0) (s : List UInt8) : Fine (revokeP L s) := by
  unfold revokeP changeP
  rw [h, beq_self_eq_true, cond_true]
  cases hh : hasP L s with
  | true => exact .inl ⟨rfl, chg1_ok h (hasP_pos hh).1 rfl⟩
  | false => exact .inr (.inr (.inl rfl))
theorem forget_fine {L : List Pn} (h : faultP L = 0) (s : List UInt8) : Fine (forgetP L s) := by
  unfold forgetP changeP
  rw [h, beq_self_eq_true, cond_true]
  cases hh : hasP L s with
  | true => exact .inl ⟨rfl, chg0_ok h _⟩
  | false => exact .inr (.inr (.inl rfl))
theorem named_ok (n : Int) : nameOk (namedS n) = true := by
  rw [namedS_eq]
  unfold namedF nameOk
  have h1 := Int.emod_nonneg n (show (2 : Int) ≠ 0 by omega)
  have h2 := Int.emod_lt_of_pos n (show (0 : Int) < 2 by omega)
  rw [List.length_take]
  rw [leB_of (by show 1 ≤ min _ 2; omega), leB_of (by show min _ 2 ≤ 16; omega)]; rfl
theorem fault_nil : faultP [] = 0 := rfl
end Go.Pin
namespace Go.Pin
open Go Go.V
/-- What is kept behind an operation. -/
def sel (P : List Pn) (r : List Pn × Int) : List Pn := bif r.2 == 0 then r.1 else P
noncomputable def stepS (P : List Pn) (r : Raw3) : List Pn :=
  bif r.kind % 6 == 0 then sel P (rotateS P (namedS r.a) (keyS (r.b % 3))) else bif r.kind % 6 == 1 then sel P (revokeS P (namedS r.a)) else bif r.kind % 6 == 2 then sel P (forgetS P (namedS r.a)) else sel P (trustS P (namedS r.a) (keyS (r.b % 3)))
noncomputable def pinnedN (l : List Raw3) (i : Nat) : List Pn := (l.take i).foldl stepS []
theorem pinnedN_succ {l : List Raw3} {i : Nat} (h : i < l.length) : pinnedN l (i + 1) = stepS (pinnedN l i) (l.getD i raw0) := by
  unfold pinnedN
  rw [List.take_add_one, List.foldl_append, List.getElem?_eq_getElem h, List.getD_eq_getElem?_getD, List.getElem?_eq_getElem h]
  rfl
end Go.Pin
namespace Go.Pin
open Go Go.V
theorem posP_map {L M : List Pn} (h : L.map (·.name) = M.map (·.name)) (s : List UInt8) : posP L s = posP M s := by
  have key : ∀ K : List Pn, posP K s = ((K.map (·.name)).takeWhile fun a => Op.bytesLess a s).length := by
    intro K
    unfold posP
    rw [List.takeWhile_map, List.length_map]
    rfl
  rw [key, key, h]
theorem nm_map {L : List Pn} (i : Nat) : nm L i = (L.map (·.name)).getD i [] := by
  unfold nm
  rw [List.getD_eq_getElem?_getD, List.getD_eq_getElem?_getD, List.getElem?_map]
  cases L[i]? <;> rfl
/-- The place of a name, told by what it does. -/
theorem posP_uniq {M : List Pn} (hM : pinsOk M = true) {s : List UInt8} {q : Nat} (hq : q < M.length) (h1 : ∀ i, i < q → Op.bytesLess (nm M i) s = true) (h2 : Op.bytesLess (nm M q) s = false) : posP M s = q := by
  have e := posP_spec hM (s := s) hq
  rw [h2] at e
  have hle := of_ltB_no e.symm
  rcases Nat.eq_zero_or_pos q with h0 | h0
  · omega
  · have e2 := posP_spec hM (s := s) (j := q - 1) (by omega)
    rw [h1 (q - 1) (by omega)] at e2
    have := ltB_iff.1 e2.symm
    omega
theorem getD_ins {L : List Pn} {q : Nat} (hq : q ≤ L.length) (p : Pn) : (insP L q p).getD q pn0 = p := by
  unfold insP
  rw [List.getD_eq_getElem?_getD, List.getElem?_append_left (by rw [List.length_append, List.length_take]; show q < _ + 1; omega), List.getElem?_append_right (by rw [List.length_take]; omega), List.length_take, Nat.min_eq_left hq, Nat.sub_self]
  rfl
theorem nm_ins_low {L : List Pn} {q i : Nat} (hq : q ≤ L.length) (hi : i < q) (p : Pn) : nm (insP L q p) i = nm L i := by
  unfold nm insP
  rw [List.getD_eq_getElem?_getD, List.getD_eq_getElem?_getD, List.append_assoc, List.getElem?_append_left (by rw [List.length_take]; omega), List.getElem?_take, if_pos hi]
theorem length_ins {L : List Pn} {q : Nat} (hq : q ≤ L.length) (p : Pn) : (insP L q p).length = L.length + 1 := by
  unfold insP
  rw [List.length_append, List.length_append, List.length_take, List.length_drop]
  show _ + 1 + _ = _; omega
theorem find_ins {L : List Pn} (h : faultP L = 0) {s k : List UInt8} (hn : nameOk s = true) (hh : hasP L s = false) (h8 : L.length ≠ 8) : findP (insP L (posP L s) ⟨s, k, false⟩) s = (⟨s, k, false⟩, 0) := by
  have hM := ins_ok h (p := ⟨s, k, false⟩) hn hh h8
  dsimp only at hM
  have hpl := posP_le L s
  have hl := length_ins hpl (⟨s, k, false⟩ : Pn)
  have hg := getD_ins hpl (⟨s, k, false⟩ : Pn)
  have hpos : posP (insP L (posP L s) ⟨s, k, false⟩) s = posP L s := posP_uniq (faultP_iff.1 hM).2 (by omega) (fun i hi => by
    rw [nm_ins_low hpl hi]; exact posP_low hi) (by unfold nm; rw [hg]; exact bl_irrefl s)
  have hhas : hasP (insP L (posP L s) ⟨s, k, false⟩) s = true := by
    unfold hasP
    rw [hpos, hg, ltB_of (by omega), beq_self_eq_true]; rfl
  unfold findP
  rw [hM, hhas, hpos, hg]; rfl
theorem chg1_names {L : List Pn} {i : Nat} (hi : i < L.length) {q : Pn} (hq : q.name = (L.getD i pn0).name) : (chgP L i [q]).map (·.name) = L.map (·.name) := by
  conv => rhs; rw [split_at hi]
  unfold chgP
  simp only [List.map_append, List.map_cons, List.map_nil, hq]
theorem getD_chg1 {L : List Pn} {i : Nat} (hi : i < L.length) (q : Pn) : (chgP L i [q]).getD i pn0 = q := by
  unfold chgP
  rw [List.getD_eq_getElem?_getD, List.getElem?_append_left (by rw [List.length_append, List.length_take]; show i < _ + 1; omega), List.getElem?_append_right (by rw [List.length_take]; omega), List.length_take, Nat.min_eq_left (by omega), Nat.sub_self]
  rfl
theorem trust_rot {L : List Pn} (h : faultP L = 0) {s k : List UInt8} (hn : nameOk s = true) (hh : hasP L s = true) : (rotateP L s k).2 = 0 ∧ (trustP (rotateP L s k).1 s k).2 = 0 := by
  obtain ⟨hlt, hnm⟩ := hasP_pos hh
  have e : rotateP L s k = (chgP L (posP L s) [⟨(L.getD (posP L s) pn0).name, k, false⟩], 0) := by
    unfold rotateP changeP
    rw [h, hh]; rfl
  rw [e]
  refine ⟨rfl, ?_⟩
  dsimp only
  have hM := chg1_ok h hlt (q := ⟨(L.getD (posP L s) pn0).name, k, false⟩) rfl
  have hnames := chg1_names hlt (q := ⟨(L.getD (posP L s) pn0).name, k, false⟩) rfl
  have hg := getD_chg1 hlt ⟨(L.getD (posP L s) pn0).name, k, false⟩
  generalize chgP L (posP L s) [⟨(L.getD (posP L s) pn0).name, k, false⟩] = M at *
  have hpos := posP_map hnames s
  have hlen : M.length = L.length := by have := congrArg List.length hnames; simpa using this
  have hhas : hasP M s = true := by
    unfold hasP
    rw [hpos, hg, ltB_of (by omega), hnm, beq_self_eq_true]; rfl
  unfold trustP
  rw [hM, hn, hhas, hpos, hg]
  show (bif false || !(k == k) then (([] : List Pn), (13 : Int)) else (M, 0)).2 = 0
  rw [beq_self_eq_true]; rfl
end Go.Pin
namespace Go.Pin
open Go Go.V
/-- A pin's bytes. -/
def penc1 (p : Pn) : List UInt8 := [UInt8.ofNat p.name.length] ++ p.name ++ p.key ++ [bif p.gone then 1 else 0]
def pencs (L : List Pn) (i : Nat) : List UInt8 := [UInt8.ofNat L.length] ++ ((L.take i).map penc1).flatten
def keys32 (L : List Pn) : Bool := L.all fun p => p.key.length == 32
def encP (L : List Pn) : List UInt8 × Int := bif faultP L == 0 then (pencs L L.length, 0) else ([], faultP L)
noncomputable def encS : List Pn → List UInt8 × Int := (sealed encP).val
theorem encS_eq : encS = encP := by rw [encS, (sealed encP).property]
noncomputable def keys32S : List Pn → Bool := (sealed keys32).val
theorem keys32S_eq : keys32S = keys32 := by rw [keys32S, (sealed keys32).property]
/-- One pin off bytes, and the rest; or what is wrong. -/
def dec1 (r : List UInt8) : (Pn × List UInt8) ⊕ Int :=
  if r.length < 34 + (r.getD 0 0).toNat then .inr 4
  else if 1 < (r.getD (1 + (r.getD 0 0).toNat + 32) 0).toNat then .inr 3
  else .inl (⟨(r.take (1 + (r.getD 0 0).toNat)).drop 1, (r.drop (1 + (r.getD 0 0).toNat)).take 32, r.getD (1 + (r.getD 0 0).toNat + 32) 0 == 1⟩, r.drop (1 + (r.getD 0 0).toNat + 33))
def decN : Nat → List UInt8 → List Pn → (List Pn × List UInt8) ⊕ Int
  | 0, r, out => .inl (out, r)
  | n + 1, r, out => match dec1 r with
    | .inl (p, r') => decN n r' (out ++ [p])
    | .inr e => .inr e
def decP (b : List UInt8) : List Pn × Int :=
  if b.length = 0 then ([], 4) else if 8 < (b.getD 0 0).toNat then ([], 1)
  else match decN (b.getD 0 0).toNat (b.drop 1) [] with
    | .inr e => ([], e)
    | .inl (out, r) => if 0 < r.length then ([], 3) else if faultP out ≠ 0 then ([], faultP out) else (out, 0)
noncomputable def decS : List UInt8 → List Pn × Int := (sealed decP).val
theorem decS_eq : decS = decP := by rw [decS, (sealed decP).property]
structure DS where
  i : Nat
  rest : List UInt8
  out : List Pn
end Go.Pin
namespace Go.Pin
open Go Go.V
theorem dec1_spec {r : List UInt8} {p : Pn} {r' : List UInt8} (h : dec1 r = .inl (p, r')) : r = penc1 p ++ r' ∧ p.key.length = 32 := by
  unfold dec1 at h
  split at h
  · cases h
  · rename_i h34
    split at h
    · cases h
    · rename_i hg
      simp only [Sum.inl.injEq, Prod.mk.injEq] at h
      obtain ⟨rfl, rfl⟩ := h
      have hm := (r.getD 0 0).toNat_lt
      cases r with
      | nil => simp at h34
      | cons a t =>
        have ha : (a :: t).getD 0 0 = a := rfl
        change ¬ (t.length + 1 < 34 + a.toNat) at h34
        change ¬ (1 < ((a :: t).getD (1 + a.toNat + 32) 0).toNat) at hg
        change a :: t = penc1 ⟨((a :: t).take (1 + a.toNat)).drop 1, ((a :: t).drop (1 + a.toNat)).take 32, (a :: t).getD (1 + a.toNat + 32) 0 == 1⟩ ++ (a :: t).drop (1 + a.toNat + 33) ∧ (((a :: t).drop (1 + a.toNat)).take 32).length = 32
        clear hm
        generalize hM : a.toNat = m at *
        have e1 : ((a :: t).take (1 + m)).drop 1 = t.take m := by rw [Nat.add_comm 1 m]; rfl
        have e2 : (a :: t).drop (1 + m) = t.drop m := by rw [Nat.add_comm 1 m]; rfl
        have e3 : (a :: t).drop (1 + m + 33) = t.drop (m + 33) := by rw [show 1 + m + 33 = (m + 33) + 1 by omega]; rfl
        have e4 : (a :: t).getD (1 + m + 32) 0 = t.getD (m + 32) 0 := by rw [show 1 + m + 32 = (m + 32) + 1 by omega]; rfl
        rw [e4] at hg
        rw [e1, e2, e3, e4]
        have hk : ((t.drop m).take 32).length = 32 := by rw [List.length_take, List.length_drop]; omega
        refine ⟨?_, hk⟩
        unfold penc1
        dsimp only
        have hn : (t.take m).length = m := by rw [List.length_take]; omega
        have ha2 : UInt8.ofNat (t.take m).length = a := by
          rw [hn, ← hM]; exact UInt8.ofNat_toNat
        have hflag : (bif t.getD (m + 32) 0 == 1 then (1 : UInt8) else 0) = t.getD (m + 32) 0 := by
          cases h : t.getD (m + 32) 0 == 1 with
          | true => have : t.getD (m + 32) 0 = 1 := by simpa using h
                    rw [this]; rfl
          | false =>
            have h1 : t.getD (m + 32) 0 ≠ 1 := by simpa using h
            apply UInt8.toNat_inj.1
            show 0 = _
            have h2 : (t.getD (m + 32) 0).toNat ≠ 1 := fun e => h1 (UInt8.toNat_inj.1 e)
            omega
        rw [ha2, hflag]
        have hx : [t.getD (m + 32) 0] ++ t.drop (m + 33) = t.drop (m + 32) := by
          rw [List.getD_eq_getElem?_getD, List.getElem?_eq_getElem (by omega), Option.getD_some, List.singleton_append]
          exact (List.drop_eq_getElem_cons (by omega)).symm
        show a :: t = _
        simp only [List.append_assoc]
        rw [hx, show m + 32 = 32 + m by omega, ← List.drop_drop, show t.drop m = t.drop m from rfl]
        have : List.take 32 (t.drop m) ++ List.drop m (List.drop 32 t) = t.drop m := by
          rw [List.drop_drop, show 32 + m = m + 32 by omega, ← List.drop_drop, List.take_append_drop]
        rw [this, List.take_append_drop]; rfl
theorem decN_spec : ∀ (n : Nat) (r : List UInt8) (out out' : List Pn) (r' : List UInt8), decN n r out = .inl (out', r') → ∃ ps, out' = out ++ ps ∧ ps.length = n ∧ keys32 ps = true ∧ r = (ps.map penc1).flatten ++ r'
  | 0, r, out, out', r', h => by
    simp only [decN, Sum.inl.injEq, Prod.mk.injEq] at h
    obtain ⟨rfl, rfl⟩ := h
    exact ⟨[], by simp, rfl, rfl, rfl⟩
  | n + 1, r, out, out', r', h => by
    unfold decN at h
    split at h
    · rename_i p r1 h1
      obtain ⟨k1, k2⟩ := dec1_spec h1
      obtain ⟨ps, q1, q2, q3, q4⟩ := decN_spec n r1 (out ++ [p]) out' r' h
      refine ⟨p :: ps, by rw [q1, List.append_assoc]; rfl, by rw [List.length_cons, q2], ?_, ?_⟩
      · unfold keys32 at q3 ⊢
        rw [List.all_cons, q3, k2]; rfl
      · rw [k1, q4, List.map_cons, List.flatten_cons, List.append_assoc]
    · cases h
theorem dec_enc {b : List UInt8} {L : List Pn} (h : decP b = (L, 0)) : faultP L = 0 ∧ keys32 L = true ∧ encP L = (b, 0) := by
  unfold decP at h
  split at h
  · cases h
  · rename_i hb
    split at h
    · cases h
    · rename_i h8
      split at h
      · rename_i e he
        simp only [Prod.mk.injEq] at h
        obtain ⟨rfl, rfl⟩ := h
        -- no error is nought
        exfalso
        have : ∀ (n : Nat) (r : List UInt8) (out : List Pn), decN n r out ≠ .inr 0 := by
          intro n
          induction n with
          | zero => intro r out h; cases h
          | succ n ih =>
            intro r out h
            unfold decN at h
            split at h
            · exact ih _ _ h
            · rename_i e he
              cases h
              unfold dec1 at he
              split at he
              · cases he
              · split at he
                · cases he
                · cases he
        exact this _ _ _ he
      · rename_i out r hd
        split at h
        · cases h
        · rename_i hr
          split at h
          · rename_i hf
            simp only [Prod.mk.injEq] at h
            exact absurd h.2 hf
          · rename_i hf
            simp only [Prod.mk.injEq, and_true] at h
            subst h
            have hf : faultP out = 0 := by simpa using hf
            obtain ⟨ps, q1, q2, q3, q4⟩ := decN_spec _ _ _ _ _ hd
            rw [List.nil_append] at q1
            subst q1
            have hr0 : r = [] := List.eq_nil_of_length_eq_zero (by omega)
            refine ⟨hf, q3, ?_⟩
            unfold encP
            rw [hf, beq_self_eq_true, cond_true]
            have : pencs out out.length = b := by
              unfold pencs
              rw [List.take_length, q2]
              rw [hr0, List.append_nil] at q4
              rw [← q4]
              cases b with
              | nil => simp at hb
              | cons a t =>
                show UInt8.ofNat a.toNat :: t = a :: t
                rw [UInt8.ofNat_toNat]
            rw [this]
theorem dec_err {b : List UInt8} : (decP b).2 ≠ 0 → (decP b).1 = [] := by
  intro h
  unfold decP at h ⊢
  split
  · rfl
  · rename_i h0
    rw [if_neg h0] at h
    split
    · rfl
    · rename_i h8
      rw [if_neg h8] at h
      split
      · rfl
      · rename_i out r hd
        rw [hd] at h
        dsimp only at h
        split
        · rfl
        · rename_i hr
          rw [if_neg hr] at h
          split
          · rfl
          · rename_i hf
            rw [if_neg hf] at h
            exact absurd rfl h
theorem dec1_enc {p : Pn} (hn : p.name.length ≤ 255) (hk : p.key.length = 32) (r : List UInt8) : dec1 (penc1 p ++ r) = .inl (p, r) := by
  have e0 : (penc1 p ++ r).getD 0 0 = UInt8.ofNat p.name.length := by unfold penc1; simp
  have e1 : (UInt8.ofNat p.name.length).toNat = p.name.length := by rw [UInt8.toNat_ofNat']; omega
  have hl : (penc1 p ++ r).length = p.name.length + 34 + r.length := by
    unfold penc1; simp only [List.length_append, hk]; show 1 + _ + 32 + 1 + _ = _; omega
  have form : penc1 p ++ r = UInt8.ofNat p.name.length :: (p.name ++ (p.key ++ ((bif p.gone then 1 else 0) :: r))) := by
    unfold penc1; simp
  have eg : (penc1 p ++ r).getD (1 + p.name.length + 32) 0 = bif p.gone then 1 else 0 := by
    rw [form, show 1 + p.name.length + 32 = (p.name.length + 32) + 1 by omega]
    show (p.name ++ (p.key ++ _)).getD _ 0 = _
    rw [List.getD_eq_getElem?_getD, List.getElem?_append_right (by omega), List.getElem?_append_right (by omega)]
    rw [show p.name.length + 32 - p.name.length - p.key.length = 0 by omega]; rfl
  have ed : (penc1 p ++ r).drop (1 + p.name.length) = p.key ++ ((bif p.gone then 1 else 0) :: r) := by
    rw [form, Nat.add_comm]
    show (p.name ++ _).drop _ = _
    rw [List.drop_left]
  have et : ((penc1 p ++ r).take (1 + p.name.length)).drop 1 = p.name := by
    rw [form, Nat.add_comm]
    show (p.name ++ _).take _ = _
    rw [List.take_left]
  have er : (penc1 p ++ r).drop (1 + p.name.length + 33) = r := by
    rw [← List.drop_drop, ed, show 33 = p.key.length + 1 by omega, ← List.drop_drop, List.drop_left]; rfl
  unfold dec1
  rw [e0, e1, eg, ed, et, er, if_neg (by omega), if_neg, show 32 = p.key.length from hk.symm, List.take_left]
  · congr 2
    cases p with
    | mk nm ky g => cases g <;> rfl
  · cases p.gone <;> decide
theorem decN_enc : ∀ (ps : List Pn) (out : List Pn) (r : List UInt8), (∀ p ∈ ps, p.name.length ≤ 255) → keys32 ps = true → decN ps.length ((ps.map penc1).flatten ++ r) out = .inl (out ++ ps, r)
  | [], out, r, _, _ => by simp [decN]
  | p :: ps, out, r, hn, hk => by
    unfold keys32 at hk
    rw [List.all_cons, Bool.and_eq_true] at hk
    rw [List.length_cons, List.map_cons, List.flatten_cons, List.append_assoc]
    unfold decN
    rw [dec1_enc (hn p (by simp)) (by simpa using hk.1)]
    dsimp only
    rw [decN_enc ps (out ++ [p]) r (fun q hq => hn q (by simp [hq])) hk.2, List.append_assoc]; rfl
theorem name_le {L : List Pn} (h : pinsOk L = true) : ∀ p ∈ L, p.name.length ≤ 16 := by
  intro p hp
  have := (pinsOk_pw.1 h).1 p hp
  unfold nameOk at this
  rw [Bool.and_eq_true] at this
  exact leB_iff.1 this.2
theorem enc_dec {L : List Pn} (h : faultP L = 0) (hk : keys32 L = true) : decP (pencs L L.length) = (L, 0) := by
  obtain ⟨h8, hp⟩ := fault_le h
  have hn := name_le hp
  have e0 : (pencs L L.length).getD 0 0 = UInt8.ofNat L.length := by unfold pencs; simp
  have e1 : (UInt8.ofNat L.length).toNat = L.length := by rw [UInt8.toNat_ofNat']; omega
  have e2 : (pencs L L.length).drop 1 = (L.map penc1).flatten ++ [] := by
    unfold pencs; rw [List.take_length, List.append_nil]; rfl
  have e3 : (pencs L L.length).length ≠ 0 := by unfold pencs; simp
  unfold decP
  rw [e0, e1, e2, decN_enc L [] [] (fun p hp => by have := hn p hp; omega) hk, if_neg e3, if_neg (by omega)]
  dsimp only
  rw [if_neg (by simp), List.nil_append, if_neg (by simpa using h)]
theorem find_mem {L : List Pn} (h : faultP L = 0) {p : Pn} (hp : p ∈ L) : findP L p.name = (p, 0) := by
  obtain ⟨_, hok⟩ := fault_le h
  obtain ⟨i, hi, rfl⟩ := List.getElem_of_mem hp
  have hnm : nm L i = L[i].name := nm_get hi
  have hpos : posP L L[i].name = i := posP_uniq hok hi (fun j hj => by rw [← hnm]; exact nm_lt hok hj hi) (by rw [hnm]; exact bl_irrefl _)
  have hg : L.getD i pn0 = L[i] := by rw [List.getD_eq_getElem?_getD, List.getElem?_eq_getElem hi]; rfl
  have hhas : hasP L L[i].name = true := by unfold hasP; rw [hpos, hg, ltB_of hi, beq_self_eq_true]; rfl
  unfold findP
  rw [h, hhas, hpos, hg]; rfl
theorem find_not {L : List Pn} (h : faultP L = 0) {s : List UInt8} (hs : ∀ p ∈ L, p.name ≠ s) : findP L s = (pnZ, 5) := by
  have hhas : hasP L s = false := by
    cases hh : hasP L s with
    | false => rfl
    | true =>
      obtain ⟨h1, h2⟩ := hasP_pos hh
      rw [List.getD_eq_getElem?_getD, List.getElem?_eq_getElem h1] at h2
      exact absurd h2 (hs _ (List.getElem_mem _))
  unfold findP
  rw [h, hhas]; rfl
theorem find_forget {L : List Pn} (h : faultP L = 0) {s far : List UInt8} (hh : hasP L s = true) (hne : s ≠ far) : findP (forgetP L s).1 far = findP L far := by
  obtain ⟨hlt, hnm⟩ := hasP_pos hh
  have e : forgetP L s = (chgP L (posP L s) [], 0) := by unfold forgetP changeP; rw [h, hh]; rfl
  have hM := chg0_ok h (posP L s)
  rw [e]
  have hmem : ∀ p, p.name = far → (p ∈ chgP L (posP L s) [] ↔ p ∈ L) := by
    intro p hp
    refine ⟨fun hq => (chg0_sub L _).subset hq, fun hq => ?_⟩
    rw [split_at hlt, List.mem_append, List.mem_append, List.mem_singleton] at hq
    unfold chgP
    rw [List.append_nil, List.mem_append]
    rcases hq with (hq | hq) | hq
    · exact .inl hq
    · rw [hq, hnm] at hp; exact absurd hp hne
    · exact .inr hq
  by_cases hex : ∃ p ∈ L, p.name = far
  · obtain ⟨p, hp, rfl⟩ := hex
    rw [find_mem h hp, find_mem hM ((hmem p rfl).2 hp)]
  · rw [find_not h (fun p hp he => hex ⟨p, hp, he⟩), find_not hM (fun p hp he => hex ⟨p, (hmem p he).1 hp, he⟩)]
end Go.Pin

/- Frames, as plain things. -/
set_option linter.unusedSimpArgs false
set_option linter.unusedVariables false
namespace Go.Frm
open Go Go.V
structure Fr where
  kind : Int
  id : Int
  body : List UInt8
  deriving DecidableEq
def fr0 : Fr := ⟨0, 0, []⟩
def Fr.cells (f : Fr) : List AV := [.int .i64 f.kind, .int .i64 f.id, .vec8 false f.body]
def frs (l : List Fr) (i : Nat) : List AV := (l.getD i fr0).cells
/-- A frame of a raw thing. -/
def frOf (r : Raw3) : Fr := ⟨1 + r.kind % 5, r.a % 256, bif 1 + r.kind % 5 == 5 then [] else r.text.take 50⟩
def fsOf (l : List Raw3) : List Fr := (l.take 8).map frOf
end Go.Frm
namespace Go.Frm
open Go Go.V
/-- What is wrong with a frame. -/
def fault (k i : Int) (b : List UInt8) : Int := if k < 1 ∨ 5 < k then 2 else if i < 0 ∨ 255 < i then 6 else if 900 < b.length then 1 else if k = 5 ∧ 0 < b.length then 3 else 0
noncomputable def faultS : Int → Int → List UInt8 → Int := (sealed fault).val
theorem faultS_eq : faultS = fault := by rw [faultS, (sealed fault).property]
def encF (k i : Int) (b : List UInt8) : List UInt8 := bif fault k i b == 0 then [UInt8.ofNat k.toNat, UInt8.ofNat i.toNat, UInt8.ofNat (b.length / 256), UInt8.ofNat b.length] ++ b else []
noncomputable def encS : Int → Int → List UInt8 → List UInt8 := (sealed encF).val
theorem encS_eq : encS = encF := by rw [encS, (sealed encF).property]
/-- Frames read off bytes: frames, what is left, and what is wrong. -/
structure Fed where
  fs : List Fr
  rest : List UInt8
  e : Int
def Fed.pre (l : List Fr) (d : Fed) : Fed := bif d.e == 0 then ⟨l ++ d.fs, d.rest, 0⟩ else d
def fd0 (e : Int) : Fed := ⟨[], [], e⟩
def lenOf (l : List UInt8) : Nat := (l.getD 2 0).toNat * 256 + (l.getD 3 0).toNat
/-- What one step comes to: an end, or a frame and the rest. -/
def fdStep (l : List UInt8) : Fed ⊕ (Fr × Nat) :=
  if l.length < 4 then .inl ⟨[], l, 0⟩
  else if fault (l.getD 0 0).toNat (l.getD 1 0).toNat [] ≠ 0 then .inl (fd0 (fault (l.getD 0 0).toNat (l.getD 1 0).toNat []))
  else if 900 < lenOf l then .inl (fd0 1)
  else if (l.getD 0 0).toNat = 5 ∧ 0 < lenOf l then .inl (fd0 3)
  else if l.length < 4 + lenOf l then .inl ⟨[], l, 0⟩
  else .inr (⟨(l.getD 0 0).toNat, (l.getD 1 0).toNat, (l.drop 4).take (lenOf l)⟩, 4 + lenOf l)
def fdN : Nat → List UInt8 → Fed
  | 0, l => ⟨[], l, 0⟩
  | n + 1, l => match fdStep l with
    | .inl d => d
    | .inr (f, k) => (fdN n (l.drop k)).pre [f]
def fdF (l : List UInt8) : Fed := fdN l.length l
noncomputable def fdS : List UInt8 → Fed := (sealed fdF).val
theorem fdS_eq : fdS = fdF := by rw [fdS, (sealed fdF).property]
def feedF (h b : List UInt8) : Fed := bif ltB 903 h.length then fd0 9 else fdF (h ++ b)
noncomputable def feedS : List UInt8 → List UInt8 → Fed := (sealed feedF).val
theorem feedS_eq : feedS = feedF := by rw [feedS, (sealed feedF).property]
end Go.Frm
namespace Go.Frm
open Go Go.V
open Classical in
/-- Raw things off rows. -/
noncomputable def rawsOf (n : Nat) (f : Nat → List AV) : List Raw3 := if h : ∃ l : List Raw3, n = l.length ∧ f = rawsF l then Classical.choose h else []
theorem rawsF_inj {l l' : List Raw3} (h1 : l.length = l'.length) (h2 : rawsF l = rawsF l') : l = l' := by
  apply List.ext_getElem h1
  intro i hi hi'
  have := congrFun h2 i
  unfold rawsF at this
  rw [List.getD_eq_getElem?_getD, List.getD_eq_getElem?_getD, List.getElem?_eq_getElem hi, List.getElem?_eq_getElem hi'] at this
  simp only [Option.getD_some, Raw3.cells, List.cons.injEq, AV.int.injEq, AV.str.injEq, true_and, and_true] at this
  obtain ⟨a, b, c, d⟩ := this
  cases h : l[i]; cases h' : l'[i]
  simp_all
theorem rawsOf_eq (l : List Raw3) : rawsOf l.length (rawsF l) = l := by
  unfold rawsOf
  have h : ∃ l' : List Raw3, l.length = l'.length ∧ rawsF l = rawsF l' := ⟨l, rfl, rfl⟩
  rw [dif_pos h]
  obtain ⟨h1, h2⟩ := Classical.choose_spec h
  exact (rawsF_inj h1 h2).symm
end Go.Frm
namespace Go.Frm
open Go Go.V
theorem fdStep_short {l : List UInt8} (h : l.length < 4) : fdStep l = .inl ⟨[], l, 0⟩ := by unfold fdStep; rw [if_pos h]
theorem fdStep_pos {l : List UInt8} {f : Fr} {k : Nat} (h : fdStep l = .inr (f, k)) : 4 ≤ k ∧ k ≤ l.length := by
  unfold fdStep at h
  repeat (split at h; · cases h)
  simp only [Sum.inr.injEq, Prod.mk.injEq] at h
  omega
theorem fdN_big : ∀ (n m : Nat) (l : List UInt8), l.length ≤ n → l.length ≤ m → fdN n l = fdN m l
  | 0, 0, _, _, _ => rfl
  | 0, m + 1, l, h, _ => by
    have : l = [] := List.eq_nil_of_length_eq_zero (by omega)
    subst this; rfl
  | n + 1, 0, l, _, h => by
    have : l = [] := List.eq_nil_of_length_eq_zero (by omega)
    subst this; rfl
  | n + 1, m + 1, l, h1, h2 => by
    unfold fdN
    split
    · rfl
    · rename_i f k hs
      have := fdStep_pos hs
      rw [fdN_big n m (l.drop k) (by rw [List.length_drop]; omega) (by rw [List.length_drop]; omega)]
theorem fdF_step (l : List UInt8) : fdF l = match fdStep l with
    | .inl d => d
    | .inr (f, k) => (fdF (l.drop k)).pre [f] := by
  show fdN l.length l = _
  rw [fdN_big l.length (l.length + 1) l (Nat.le_refl _) (by omega)]
  show (match fdStep l with | .inl d => d | .inr (f, k) => (fdN l.length (l.drop k)).pre [f]) = _
  split
  · rfl
  · rename_i f k hs
    rw [fdN_big l.length (l.drop k).length (l.drop k) (by rw [List.length_drop]; omega) (Nat.le_refl _)]; rfl
theorem pre_pre (a b : List Fr) (d : Fed) : (d.pre b).pre a = d.pre (a ++ b) := by
  unfold Fed.pre
  cases h : d.e == 0 with
  | true => simp
  | false => simp only [cond_false, h]
theorem pre_nil (d : Fed) : d.pre [] = d := by
  unfold Fed.pre
  cases h : d.e == 0 with
  | true => simp only [cond_true, List.nil_append]; have : d.e = 0 := by simpa using h
            rw [← this]
  | false => rfl
theorem or256 (x y : UInt8) : bits .or .i64 (wr .i64 (((x.toNat : Nat) : Int) * 256)) ((y.toNat : Nat) : Int) = ((x.toNat * 256 + y.toNat : Nat) : Int) := by
  have hx := x.toNat_lt; have hy := y.toNat_lt
  rw [wr_of (by omega) (by omega)]
  have h1 : (BitVec.ofInt 64 (((x.toNat : Nat) : Int) * 256)).toNat = x.toNat * 256 := by rw [BitVec.toNat_ofInt]; omega
  have h2 : (BitVec.ofInt 64 ((y.toNat : Nat) : Int)).toNat = y.toNat := by rw [BitVec.toNat_ofInt]; omega
  show IntKind.i64.wrap ((BitVec.ofInt 64 _ ||| BitVec.ofInt 64 _).toNat : Int) = _
  rw [BitVec.toNat_or, h1, h2, Nat.mul_comm, show (256 : Nat) = 2 ^ 8 from rfl, ← Nat.two_pow_add_eq_or_of_lt (by omega) x.toNat]
  rw [IntKind.wrap_i64]
  omega
end Go.Frm
namespace Go.Frm
open Go Go.V
theorem frs_app1 {a b : List Fr} {x : Nat} (h : x < a.length) : frs (a ++ b) x = frs a x := by
  unfold frs; rw [List.getD_eq_getElem?_getD, List.getD_eq_getElem?_getD, List.getElem?_append_left h]
theorem frs_app2 {a b : List Fr} {x : Nat} : frs (a ++ b) (a.length + x) = frs b x := by
  unfold frs; rw [List.getD_eq_getElem?_getD, List.getD_eq_getElem?_getD, List.getElem?_append_right (by omega), Nat.add_sub_cancel_left]
theorem frs_leR (a : List Fr) (x : Nat) : leR (frs a x) (frs a x) := leR.refl rfl
end Go.Frm
namespace Go.Frm
open Go Go.V
open Classical in
/-- Frames off rows. -/
noncomputable def frsOf (n : Nat) (f : Nat → List AV) : List Fr := if h : ∃ l : List Fr, n = l.length ∧ ∀ i, i < n → f i = frs l i then Classical.choose h else []
theorem frs_inj {l l' : List Fr} (h1 : l.length = l'.length) (h2 : ∀ i, i < l.length → frs l i = frs l' i) : l = l' := by
  apply List.ext_getElem h1
  intro i hi hi'
  have := h2 i hi
  unfold frs at this
  rw [List.getD_eq_getElem?_getD, List.getD_eq_getElem?_getD, List.getElem?_eq_getElem hi, List.getElem?_eq_getElem hi'] at this
  simp only [Option.getD_some, Fr.cells, List.cons.injEq, AV.int.injEq, AV.vec8.injEq, true_and, and_true] at this
  obtain ⟨a, b, c⟩ := this
  cases h : l[i]; cases h' : l'[i]
  simp_all
theorem frsOf_eq {n : Nat} {f : Nat → List AV} (l : List Fr) (hn : n = l.length) (hf : ∀ i, i < n → f i = frs l i) : frsOf n f = l := by
  unfold frsOf
  have h : ∃ l : List Fr, n = l.length ∧ ∀ i, i < n → f i = frs l i := ⟨l, hn, hf⟩
  rw [dif_pos h]
  obtain ⟨h1, h2⟩ := Classical.choose_spec h
  exact frs_inj (h1.symm.trans hn) fun i hi => by rw [← h2 i (by omega), hf i (by omega)]
theorem catF_frs {a b : List Fr} {n : Nat} (hn : n = a.length) {f g : Nat → List AV} (hf : ∀ i, i < n → f i = frs a i) (hg : ∀ i, i < b.length → g i = frs b i) : ∀ i, i < n + b.length → catF n f g i = frs (a ++ b) i := by
  intro i hi
  unfold catF
  subst hn
  rcases Nat.lt_or_ge i a.length with h | h
  · rw [ltB_iff.2 h, cond_true, hf i h, frs_app1 h]
  · rw [ltB_no h, cond_false, hg _ (by omega)]
    have := frs_app2 (a := a) (b := b) (x := i - a.length)
    rw [show a.length + (i - a.length) = i by omega] at this
    exact this.symm
def enc (f : Fr) : List UInt8 := encF f.kind f.id f.body
def encs (l : List Fr) (i : Nat) : List UInt8 := ((l.take i).map enc).flatten
end Go.Frm
namespace Go.Frm
open Go Go.V
noncomputable def isRawsF (n : Nat) (f : Nat → List AV) : Bool := yes (∃ l : List Raw3, n = l.length ∧ f = rawsF l)
noncomputable def isRaws : Nat → (Nat → List AV) → Bool := (sealed isRawsF).val
theorem isRaws_iff {n : Nat} {f : Nat → List AV} : isRaws n f = true ↔ ∃ l : List Raw3, n = l.length ∧ f = rawsF l := by
  rw [isRaws, (sealed isRawsF).property]; exact yes_iff
noncomputable def isFrsF (n : Nat) (f : Nat → List AV) : Bool := yes (n ≤ 1000000000 ∧ ∃ l : List Fr, n = l.length ∧ ∀ i, i < n → f i = frs l i)
noncomputable def isFrs : Nat → (Nat → List AV) → Bool := (sealed isFrsF).val
theorem isFrs_iff {n : Nat} {f : Nat → List AV} : isFrs n f = true ↔ n ≤ 1000000000 ∧ ∃ l : List Fr, n = l.length ∧ ∀ i, i < n → f i = frs l i := by
  rw [isFrs, (sealed isFrsF).property]; exact yes_iff
theorem isFrs_frs {l : List Fr} (h : l.length ≤ 1000000000) : isFrs l.length (frs l) = true := isFrs_iff.2 ⟨h, l, rfl, fun _ _ => rfl⟩
end Go.Frm

/- The keys of pins that were pinned have 32 bytes. -/
set_option linter.unusedSimpArgs false
set_option linter.unusedVariables false
namespace Go.Pin
open Go Go.V
theorem keys32_iff {L : List Pn} : keys32 L = true ↔ ∀ p ∈ L, p.key.length = 32 := by simp [keys32]
theorem keys32_sub {L : List Pn} (h : keys32 L = true) {i j : Nat} {q : List Pn} (hq : ∀ p ∈ q, p.key.length = 32) : keys32 ((L.take i ++ q) ++ L.drop j) = true := by
  rw [keys32_iff] at h ⊢
  intro p hp
  rw [List.mem_append, List.mem_append] at hp
  rcases hp with (hp | hp) | hp
  · exact h p (List.mem_of_mem_take hp)
  · exact hq p hp
  · exact h p (List.mem_of_mem_drop hp)
theorem keys32_nil : keys32 [] = true := rfl
theorem keys32_bif {c : Bool} {r r' : List Pn × Int} (h : keys32 r.1 = true) (h' : keys32 r'.1 = true) : keys32 (bif c then r else r').1 = true := by cases c <;> assumption
theorem keys32_change {L : List Pn} (h : keys32 L = true) {s : List UInt8} {g : Pn → List Pn} (hg : ∀ p, p.key.length = 32 → ∀ q ∈ g p, q.key.length = 32) : keys32 (changeP L s g).1 = true := by
  unfold changeP
  refine keys32_bif ?_ keys32_nil
  cases hh : hasP L s with
  | false => exact keys32_nil
  | true =>
    refine keys32_sub h (hg _ ?_)
    obtain ⟨h1, _⟩ := hasP_pos hh
    rw [List.getD_eq_getElem?_getD, List.getElem?_eq_getElem h1]
    exact keys32_iff.1 h _ (List.getElem_mem h1)
theorem keys32_rotate {L : List Pn} (h : keys32 L = true) (s : List UInt8) {k : List UInt8} (hk : k.length = 32) : keys32 (rotateP L s k).1 = true :=
  keys32_change h fun p hp q hq => by rw [List.mem_singleton] at hq; rw [hq]; exact hk
theorem keys32_revoke {L : List Pn} (h : keys32 L = true) (s : List UInt8) : keys32 (revokeP L s).1 = true :=
  keys32_change h fun p hp q hq => by rw [List.mem_singleton] at hq; rw [hq]; exact hp
theorem keys32_forget {L : List Pn} (h : keys32 L = true) (s : List UInt8) : keys32 (forgetP L s).1 = true :=
  keys32_change h fun p hp q hq => absurd hq (by simp)
theorem keys32_trust {L : List Pn} (h : keys32 L = true) (s : List UInt8) {k : List UInt8} (hk : k.length = 32) : keys32 (trustP L s k).1 = true := by
  unfold trustP
  refine keys32_bif (keys32_bif (keys32_bif (keys32_bif keys32_nil h) (keys32_bif keys32_nil ?_)) keys32_nil) keys32_nil
  refine keys32_sub h fun p hp => ?_
  rw [List.mem_singleton] at hp; rw [hp]; exact hk
theorem keys32_sel {P : List Pn} {r : List Pn × Int} (h : keys32 P = true) (h' : keys32 r.1 = true) : keys32 (sel P r) = true := by
  unfold sel
  cases r.2 == 0 <;> assumption
theorem keys32_step {P : List Pn} (h : keys32 P = true) (r : Raw3) : keys32 (stepS P r) = true := by
  unfold stepS
  rw [rotateS_eq, revokeS_eq, forgetS_eq, trustS_eq]
  have b : ∀ (c : Bool) (x y : List Pn), keys32 x = true → keys32 y = true → keys32 (bif c then x else y) = true := fun c x y hx hy => by cases c <;> assumption
  exact b _ _ _ (keys32_sel h (keys32_rotate h _ (length_keyS _))) (b _ _ _ (keys32_sel h (keys32_revoke h _)) (b _ _ _ (keys32_sel h (keys32_forget h _)) (keys32_sel h (keys32_trust h _ (length_keyS _)))))
theorem keys32_fold : ∀ (l : List Raw3) (P : List Pn), keys32 P = true → keys32 (l.foldl stepS P) = true
  | [], P, h => h
  | r :: l, P, h => keys32_fold l _ (keys32_step h r)
theorem keys32_pinned (l : List Raw3) (i : Nat) : keys32 (pinnedN l i) = true := keys32_fold _ _ keys32_nil
theorem pencs_small {L : List Pn} (h : faultP L = 0) (hk : keys32 L = true) : (pencs L L.length).length ≤ 1000 := by
  obtain ⟨h8, hp⟩ := faultP_iff.1 h
  have hn := name_le hp
  unfold pencs
  have key : ∀ M : List Pn, (∀ p ∈ M, p.name.length ≤ 16 ∧ p.key.length = 32) → ((M.map penc1).flatten).length ≤ 50 * M.length := by
    intro M
    induction M with
    | nil => intro _; simp
    | cons p M ih =>
      intro h
      have h1 := h p (List.mem_cons_self ..)
      have h2 := ih fun q hq => h q (List.mem_cons_of_mem _ hq)
      have h3 : (penc1 p).length ≤ 50 := by unfold penc1; simp; omega
      rw [List.map_cons, List.flatten_cons, List.length_append, List.length_cons]
      omega
  have h4 := key (L.take L.length) fun p hp => ⟨hn p (List.mem_of_mem_take hp), keys32_iff.1 hk p (List.mem_of_mem_take hp)⟩
  rw [List.length_take] at h4
  rw [List.length_append, List.length_singleton]
  omega
end Go.Pin
