/- The abstract layer (third state): what a function comes to, written no more from its end on. -/
import Derived.Test.YtcnnogimaikicaaDoorWX
import Derived.Test.YtcnnogimaikicaaDoorUT
import Derived.Test.YtcnnogimaikicaaDoorNums

set_option linter.unusedSimpArgs false
set_option linter.unusedVariables false
namespace Go.V
open Go
noncomputable section

/-- A result, written no more. -/
def coldT (H : Heap) : AV → Bool × AV × List (Nat × Ent)
  | .tup l => match coldL H l with
    | (c, l', u) => (c, .tup l', u)
  | a => coldA H a

section
variable {g : Nat → Option (List AV)} {ρ : Rho} {w : World}
theorem coldT_sound (v : AV) (I : Imm) (H : Heap) (c : Conc g ρ I H w) (hc : (coldT H v).1 = true) : FrzOk g ρ I H w (coldT H v).2.2 fun I' => ∀ x, rel ρ I w v x → rel ρ I' w (coldT H v).2.1 x := by
  have other : ∀ a, coldT H a = coldA H a → (coldT H a).1 = true → FrzOk g ρ I H w (coldT H a).2.2 fun I' => ∀ x, rel ρ I w a x → rel ρ I' w (coldT H a).2.1 x := by
    intro a h h1
    rw [h] at h1 ⊢
    obtain ⟨I', f1, f2, f3, f4⟩ := coldA_sound a I H c h1
    exact ⟨I', f1, f2, f3, fun x r => rel_of_R (coldA_ag H a) f4 r⟩
  cases v with
  | tup l =>
    have hc' : (coldL H l).1 = true := hc
    obtain ⟨I', f1, f2, f3, f4⟩ := coldL_rv l I H c hc'
    refine ⟨I', f1, f2, f3, fun x r => ?_⟩
    obtain ⟨cs, h1, h2⟩ := rel_tup.1 r
    exact rel_tup.2 ⟨cs, h1, f4 _ h2⟩
  | _ => exact other _ rfl hc
end

/-- A leaf of a walk that comes to what is told, as it is or written no more. -/
def okOut (out : Out) (v : AV) (H : Heap) : Prop := out.has v H ∨ ∃ v' v'' u, coldT H v = (true, v', u) ∧ leV v' v'' ∧ pureA v'' = true ∧ out.has v'' []

section
variable {P : Program} {G : Env P} {R : ROps G} {T : Ctr G}
theorem HCall.of_walkC (L : FuncId → Nat → LPlan) (n : Nat) {f : FuncId} {args : List AV} {out : Out} (hp : pureL args = true) (ho : out.okB = true) (h : walk G R T.C L n f args (okOut out)) : HCall G f args out := by
  refine ⟨hp, ho, fun ρ I w vs c r => (ACall.of_walk h ρ I w vs c r).mono ?_⟩
  rintro e w' ⟨x, rfl, ρ', I', v, H', gd, c', hr, hh⟩
  rcases hh with hh | ⟨v', v'', u, h1, h2, h3, h4⟩
  · exact ⟨x, rfl, ρ', I', v, H', gd, c', hr, hh⟩
  · obtain ⟨I2, f1, f2, f3, f4⟩ := coldT_sound v I' H' c' (by rw [h1])
    rw [h1] at f1 f2 f4
    obtain ⟨c2, g2⟩ := cut_conc f2 0 (fun e he => by simp at he)
    exact ⟨x, rfl, cutR 0 ρ', I2, v'', [], g2 (gd.trans f1) (fun id h => absurd (c.dom id h) (by simp)) (Nat.le_refl _), c2, rel_pure h3 (h2 _ _ _ _ (f4 _ hr)), h4⟩
end

theorem okOut.here {out : Out} {v : AV} {H : Heap} (h : out.has v H) : okOut out v H := .inl h
theorem okOut.ret {v : AV} {H : Heap} : okOut (.ret v H) v H := .inl ⟨rfl, rfl⟩
theorem okOut.le {out : Out} {v v' : AV} {H : Heap} (hv : pureA v = true) (hc : coldT H v = (true, v, [])) (hle : leV v v') (hp : pureA v' = true) (h : out.has v' []) : okOut out v H := .inr ⟨v, v', [], hc, hle, hp, h⟩
theorem okOut.cold {out : Out} {v v' v'' : AV} {H : Heap} {u : List (Nat × Ent)} (hc : coldT H v = (true, v', u)) (hle : leV v' v'') (hp : pureA v'' = true) (h : out.has v'' []) : okOut out v H := .inr ⟨v', v'', u, hc, hle, hp, h⟩
theorem okOut.alt {b : Bool} {x y : Out} {v : AV} {H : Heap} (h1 : b = true → okOut x v H) (h2 : b = false → okOut y v H) : okOut (.alt b x y) v H := by
  cases b with
  | true => exact h1 rfl
  | false => exact h2 rfl

/-- Bytes that end a walk, whole. -/
theorem coldA_sl {l : List UInt8} {n : Nat} (h : n = l.length) : coldA [.grow8 l []] (.sl 0 0 1 n) = (true, .vec8 false l, [(0, .grow8 l [(0, n)])]) := by
  subst h
  show (frzFree [] 0 l.length && (1 == 1 && leB (0 + l.length) l.length), AV.vec8 false ((l.drop 0).take l.length), [(0, Ent.grow8 l [(0, 0 + l.length)])]) = _
  rw [leB_of (by omega), List.drop_zero, List.take_length, Nat.zero_add]; rfl

theorem coldA_sl' {H : Heap} {id : Nat} {l : List UInt8} {n : Nat} (hid : H[id]? = some (.grow8 l [])) (h : n = l.length) : coldA H (.sl id 0 1 n) = (true, .vec8 false l, [(id, .grow8 l [(0, n)])]) := by
  subst h
  simp only [coldA, hid]
  show (frzFree [] 0 l.length && (1 == 1 && leB (0 + l.length) l.length), AV.vec8 false ((l.drop 0).take l.length), [(id, Ent.grow8 l [(0, 0 + l.length)])]) = _
  rw [leB_of (by omega), List.drop_zero, List.take_length, Nat.zero_add]; rfl
theorem leV_nil8 {a : AV} (h : nilS a = true) : leV a (.vec8 false []) := fun _ _ _ _ r => by
  obtain ⟨x, rfl⟩ := nilS_val h r
  exact rel_vec8.2 ⟨x, 0, rfl, Nat.le_refl _, fun _ => rfl, .inl rfl⟩
/-- One more row. -/
theorem rows_app {i : Nat} {f g c : Nat → List AV} (h : ∀ x, x < i → leR (f x) (g x)) (hl : leR (c 0) (g i)) : ∀ x, x < i + 1 → leR (catF i f c x) (g x) := by
  intro x hx
  unfold catF
  rcases Nat.lt_or_ge x i with h1 | h1
  · rw [ltB_iff.2 h1]; exact h x h1
  · obtain rfl : x = i := by omega
    rw [ltB_no (by omega), Nat.sub_self]; exact hl
/-- Rows behind rows. -/
theorem rows_cat {n m : Nat} {f g h : Nat → List AV} (h1 : ∀ x, x < n → leR (f x) (h x)) (h2 : ∀ x, x < m → leR (g x) (h (n + x))) : ∀ x, x < n + m → leR (catF n f g x) (h x) := by
  intro x hx
  unfold catF
  rcases Nat.lt_or_ge x n with k | k
  · rw [ltB_iff.2 k]; exact h1 x k
  · rw [ltB_no (by omega)]
    have := h2 (x - n) (by omega)
    rwa [show n + (x - n) = x by omega] at this
end
end Go.V
namespace Go.V
open Go
/-- Rows of parts, told by number. -/
theorem leV_rows {full : Bool} {k : Nat} (L : List (List AV)) (f : Nat → List AV) (hf : ∀ i, i < L.length → f i = L.getD i []) (ho : ∀ i, i < L.length → okL (f i) = true) : leV (.vec full k (L.map AV.agg)) (.vecr full k L.length f) := by
  intro ρ I w v h
  obtain ⟨hsz, vs, hr, hv⟩ := rel_vec.1 h
  rw [List.length_map] at hv
  have hlen : vs.length = L.length * k := by
    have : ∀ (rows : List AV) (us : List Value), (∀ a ∈ rows, szA a = k) → RL ρ I w rows us → us.length = rows.length * k := by
      intro rows
      induction rows with
      | nil => intro us _ h; cases h; simp
      | cons a rs ih =>
        intro us hk h
        obtain ⟨ys, zs, rfl, h1, h2⟩ := RL_cons.1 h
        rw [List.length_append, R_len a ys h1, hk a (by simp), ih zs (fun b hb => hk b (by simp [hb])) h2, List.length_cons, Nat.add_mul, Nat.one_mul, Nat.add_comm]
    have := this _ _ hsz hr
    rwa [List.length_map] at this
  refine rel_vecr.2 ⟨ho, vs, hlen, fun i hi => ?_, hv⟩
  obtain ⟨ys, q1, q2, q3, _⟩ := RL_rows hsz hr (i := i) (a := .agg L[i]) (by simp [hi])
  have hy : ys.length = k := by
    have h1 := R_len _ _ q1
    have h2 := hsz (.agg L[i]) (by simp)
    omega
  have he : (vs.drop (i * k)).take k = ys := by
    apply List.ext_getElem?
    intro j
    rw [List.getElem?_take, List.getElem?_drop]
    split
    · rename_i hj
      rw [List.getElem?_eq_getElem (l := ys) (by omega)]
      exact q3 j _ (List.getElem?_eq_getElem (by omega))
    · rw [List.getElem?_eq_none (by omega)]
  rw [he, hf i hi, List.getD_eq_getElem?_getD, List.getElem?_eq_getElem hi]
  exact q1
end Go.V
