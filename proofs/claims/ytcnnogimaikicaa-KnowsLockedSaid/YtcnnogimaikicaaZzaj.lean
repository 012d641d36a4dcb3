/- The abstract layer (third state): lemmas of use in many places. -/
import Derived.Test.YtcnnogimaikicaaZzae
import Derived.Test.YtcnnogimaikicaaZzah
import Derived.Test.YtcnnogimaikicaaZzag
import Derived.Test.YtcnnogimaikicaaZzab

set_option linter.unusedSimpArgs false
set_option linter.unusedVariables false
namespace Go.V
open Go
noncomputable section
section
variable {P : Program} {G : Env P}
/-- What is known of calls, of either. -/
def Ctr.or (T T' : Ctr G) : Ctr G := ⟨fun f args => match T.C f args with
    | some r => some r
    | none => T'.C f args, fun f args pre out h hp => by
    cases h1 : T.C f args with
    | some r => rw [h1] at h; simp only [Option.some.injEq] at h; subst h; exact T.ok f args pre out h1 hp
    | none => rw [h1] at h; exact T'.ok f args pre out h hp⟩
end
section
variable {P : Program} {G : Env P}
/-- Rows of nothing. -/
def noRows : Nat → List AV := fun _ => []
/-- What is known of calls, where the first argument is a slice of nothing, too. -/
def Ctr.nil1 (T : Ctr G) (fs : List Nat) (k : Nat) : Ctr G := ⟨fun f args => match args with
    | .vec8 true [] :: rest => bif fs.contains f then T.C f (.vecr false k 0 noRows :: rest) else T.C f args
    | _ => T.C f args, fun f args pre out h hp => by
    split at h
    · rename_i rest
      cases hb : fs.contains f with
      | false => rw [hb] at h; exact T.ok f _ pre out h hp
      | true =>
        rw [hb] at h
        rcases T.ok f _ pre out h hp with hc | ⟨_, _, _, h1, _⟩
        case inr => simp at h1
        refine .inl (HCall.args hc ?_ fun ρ I w vs r => ?_)
        · have := hc.pa
          simpa [pureL, pureA] using this
        · obtain ⟨x, xs, rfl, k1, k2⟩ := RV_cons.1 r
          exact RV_cons.2 ⟨x, xs, rfl, leV_nil rfl _ _ _ _ k1, k2⟩
    · exact T.ok f _ pre out h hp⟩
end
/-- Is it so? -/
def yesF (p : Prop) : Bool := @decide p (Classical.propDecidable p)
def yes : Prop → Bool := (sealed yesF).val
theorem yes_iff {p : Prop} : yes p = true ↔ p := by
  rw [yes, (sealed yesF).property]; unfold yesF; exact @decide_eq_true_iff p (Classical.propDecidable p)
theorem ucutOk {α : Type} (l : List α) (m : Int) (hm : 0 ≤ m) : sliceOk none (some (cond false (max (l.length : Int) m) (min (l.length : Int) m))) l.length = true := by
  show (nnB _ && leB (Int.toNat _) _) = true
  rw [cond_false, nnB_iff.2 (by omega), leB_of (by omega)]; rfl
theorem ucutL {α : Type} (l : List α) (m : Int) (hm : 0 ≤ m) : sliceL none (some (cond false (max (l.length : Int) m) (min (l.length : Int) m))) l = l.take m.toNat := by
  show l.take (Int.toNat _) = _
  rw [cond_false]
  rcases Nat.le_total l.length m.toNat with h | h
  · rw [List.take_of_length_le h, List.take_of_length_le (by omega)]
  · congr 1; omega
theorem usomeOk (n : Nat) (m : Int) (hm : 0 ≤ m) : sliceOk none (some (cond false (max (n : Int) m) (min (n : Int) m))) n = true := by
  have := ucutOk (List.replicate n ()) m hm
  rwa [List.length_replicate] at this
theorem usomeN (n : Nat) (m : Int) (hm : 0 ≤ m) : hiN n (some (cond false (max (n : Int) m) (min (n : Int) m))) - 0 = min n m.toNat := by
  show Int.toNat _ - 0 = _
  rw [cond_false]; omega
theorem nnB_nat (n : Nat) : nnB (n : Int) = true := nnB_iff.2 (by omega)
theorem all8 (l : List UInt8) : List.take l.length (List.drop 0 l) = l := by rw [List.drop_zero, List.take_length]
end
end Go.V

/- The abstract layer (third state): what a function comes to, written no more from its end on. -/
set_option linter.unusedSimpArgs false
set_option linter.unusedVariables false
namespace Go.V
open Go
noncomputable section

/-- A result, written no more. -/
def coldT (H : Heap) : AV → Bool × AV × List (Nat × Ent)
  | .tup l => match coldL H l with
    | (c, l', u) => (c, .tup l', u)
  | a => coldA H a

section
variable {g : Nat → Option (List AV)} {ρ : Rho} {w : World}
theorem coldT_sound (v : AV) (I : Imm) (H : Heap) (c : Conc g ρ I H w) (hc : (coldT H v).1 = true) : FrzOk g ρ I H w (coldT H v).2.2 fun I' => ∀ x, rel ρ I w v x → rel ρ I' w (coldT H v).2.1 x := by
  have other : ∀ a, coldT H a = coldA H a → (coldT H a).1 = true → FrzOk g ρ I H w (coldT H a).2.2 fun I' => ∀ x, rel ρ I w a x → rel ρ I' w (coldT H a).2.1 x := by
    intro a h h1
    rw [h] at h1 ⊢
    obtain ⟨I', f1, f2, f3, f4⟩ := coldA_sound a I H c h1
    exact ⟨I', f1, f2, f3, fun x r => rel_of_R (coldA_ag H a) f4 r⟩
  cases v with
  | tup l =>
    have hc' : (coldL H l).1 = true := hc
    obtain ⟨I', f1, f2, f3, f4⟩ := coldL_rv l I H c hc'
    refine ⟨I', f1, f2, f3, fun x r => ?_⟩
    obtain ⟨cs, h1, h2⟩ := rel_tup.1 r
    exact rel_tup.2 ⟨cs, h1, f4 _ h2⟩
  | _ => exact other _ rfl hc
end

/-- A leaf of a walk that comes to what is told, as it is or written no more. -/
def okOut (out : Out) (v : AV) (H : Heap) : Prop := out.has v H ∨ ∃ v' v'' u, coldT H v = (true, v', u) ∧ leV v' v'' ∧ pureA v'' = true ∧ out.has v'' []

section
variable {P : Program} {G : Env P} {R : ROps G} {T : Ctr G}
theorem HCall.of_walkC (L : FuncId → Nat → LPlan) (n : Nat) {f : FuncId} {args : List AV} {out : Out} (hp : pureL args = true) (ho : out.okB = true) (h : walk G R T.C L n f args (okOut out)) : HCall G f args out := by
  refine ⟨hp, ho, fun ρ I w vs c r => (ACall.of_walk h ρ I w vs c r).mono ?_⟩
  rintro e w' ⟨x, rfl, ρ', I', v, H', gd, c', hr, hh⟩
  rcases hh with hh | ⟨v', v'', u, h1, h2, h3, h4⟩
  · exact ⟨x, rfl, ρ', I', v, H', gd, c', hr, hh⟩
  · obtain ⟨I2, f1, f2, f3, f4⟩ := coldT_sound v I' H' c' (by rw [h1])
    rw [h1] at f1 f2 f4
    obtain ⟨c2, g2⟩ := cut_conc f2 0 (fun e he => by simp at he)
    exact ⟨x, rfl, cutR 0 ρ', I2, v'', [], g2 (gd.trans f1) (fun id h => absurd (c.dom id h) (by simp)) (Nat.le_refl _), c2, rel_pure h3 (h2 _ _ _ _ (f4 _ hr)), h4⟩
end

theorem okOut.here {out : Out} {v : AV} {H : Heap} (h : out.has v H) : okOut out v H := .inl h
theorem okOut.ret {v : AV} {H : Heap} : okOut (.ret v H) v H := .inl ⟨rfl, rfl⟩
theorem okOut.le {out : Out} {v v' : AV} {H : Heap} (hv : pureA v = true) (hc : coldT H v = (true, v, [])) (hle : leV v v') (hp : pureA v' = true) (h : out.has v' []) : okOut out v H := .inr ⟨v, v', [], hc, hle, hp, h⟩
theorem okOut.cold {out : Out} {v v' v'' : AV} {H : Heap} {u : List (Nat × Ent)} (hc : coldT H v = (true, v', u)) (hle : leV v' v'') (hp : pureA v'' = true) (h : out.has v'' []) : okOut out v H := .inr ⟨v', v'', u, hc, hle, hp, h⟩
theorem okOut.alt {b : Bool} {x y : Out} {v : AV} {H : Heap} (h1 : b = true → okOut x v H) (h2 : b = false → okOut y v H) : okOut (.alt b x y) v H := by
  cases b with
  | true => exact h1 rfl
  | false => exact h2 rfl

/-- Bytes that end a walk, whole. -/
theorem coldA_sl {l : List UInt8} {n : Nat} (h : n = l.length) : coldA [.grow8 l []] (.sl 0 0 1 n) = (true, .vec8 false l, [(0, .grow8 l [(0, n)])]) := by
  subst h
  show (frzFree [] 0 l.length && (1 == 1 && leB (0 + l.length) l.length), AV.vec8 false ((l.drop 0).take l.length), [(0, Ent.grow8 l [(0, 0 + l.length)])]) = _
  rw [leB_of (by omega), List.drop_zero, List.take_length, Nat.zero_add]; rfl

theorem coldA_sl' {H : Heap} {id : Nat} {l : List UInt8} {n : Nat} (hid : H[id]? = some (.grow8 l [])) (h : n = l.length) : coldA H (.sl id 0 1 n) = (true, .vec8 false l, [(id, .grow8 l [(0, n)])]) := by
  subst h
  simp only [coldA, hid]
  show (frzFree [] 0 l.length && (1 == 1 && leB (0 + l.length) l.length), AV.vec8 false ((l.drop 0).take l.length), [(id, Ent.grow8 l [(0, 0 + l.length)])]) = _
  rw [leB_of (by omega), List.drop_zero, List.take_length, Nat.zero_add]; rfl
theorem leV_nil8 {a : AV} (h : nilS a = true) : leV a (.vec8 false []) := fun _ _ _ _ r => by
  obtain ⟨x, rfl⟩ := nilS_val h r
  exact rel_vec8.2 ⟨x, 0, rfl, Nat.le_refl _, fun _ => rfl, .inl rfl⟩
/-- One more row. -/
theorem rows_app {i : Nat} {f g c : Nat → List AV} (h : ∀ x, x < i → leR (f x) (g x)) (hl : leR (c 0) (g i)) : ∀ x, x < i + 1 → leR (catF i f c x) (g x) := by
  intro x hx
  unfold catF
  rcases Nat.lt_or_ge x i with h1 | h1
  · rw [ltB_iff.2 h1]; exact h x h1
  · obtain rfl : x = i := by omega
    rw [ltB_no (by omega), Nat.sub_self]; exact hl
/-- Rows behind rows. -/
theorem rows_cat {n m : Nat} {f g h : Nat → List AV} (h1 : ∀ x, x < n → leR (f x) (h x)) (h2 : ∀ x, x < m → leR (g x) (h (n + x))) : ∀ x, x < n + m → leR (catF n f g x) (h x) := by
  intro x hx
  unfold catF
  rcases Nat.lt_or_ge x n with k | k
  · rw [ltB_iff.2 k]; exact h1 x k
  · rw [ltB_no (by omega)]
    have := h2 (x - n) (by omega)
    rwa [show n + (x - n) = x by omega] at this
end
end Go.V
namespace Go.V
open Go
/-- Rows of parts, told by number. -/
theorem leV_rows {full : Bool} {k : Nat} (L : List (List AV)) (f : Nat → List AV) (hf : ∀ i, i < L.length → f i = L.getD i []) (ho : ∀ i, i < L.length → okL (f i) = true) : leV (.vec full k (L.map AV.agg)) (.vecr full k L.length f) := by
  intro ρ I w v h
  obtain ⟨hsz, vs, hr, hv⟩ := rel_vec.1 h
  rw [List.length_map] at hv
  have hlen : vs.length = L.length * k := by
    have : ∀ (rows : List AV) (us : List Value), (∀ a ∈ rows, szA a = k) → RL ρ I w rows us → us.length = rows.length * k := by
      intro rows
      induction rows with
      | nil => intro us _ h; cases h; simp
      | cons a rs ih =>
        intro us hk h
        obtain ⟨ys, zs, rfl, h1, h2⟩ := RL_cons.1 h
        rw [List.length_append, R_len a ys h1, hk a (by simp), ih zs (fun b hb => hk b (by simp [hb])) h2, List.length_cons, Nat.add_mul, Nat.one_mul, Nat.add_comm]
    have := this _ _ hsz hr
    rwa [List.length_map] at this
  refine rel_vecr.2 ⟨ho, vs, hlen, fun i hi => ?_, hv⟩
  obtain ⟨ys, q1, q2, q3, _⟩ := RL_rows hsz hr (i := i) (a := .agg L[i]) (by simp [hi])
  have hy : ys.length = k := by
    have h1 := R_len _ _ q1
    have h2 := hsz (.agg L[i]) (by simp)
    omega
  have he : (vs.drop (i * k)).take k = ys := by
    apply List.ext_getElem?
    intro j
    rw [List.getElem?_take, List.getElem?_drop]
    split
    · rename_i hj
      rw [List.getElem?_eq_getElem (l := ys) (by omega)]
      exact q3 j _ (List.getElem?_eq_getElem (by omega))
    · rw [List.getElem?_eq_none (by omega)]
  rw [he, hf i hi, List.getD_eq_getElem?_getD, List.getElem?_eq_getElem hi]
  exact q1
end Go.V

/- The abstract layer (third state): contracts of calls that take over the room behind their first argument. -/
set_option linter.unusedSimpArgs false
set_option linter.unusedVariables false
namespace Go.V
open Go
noncomputable section
/-- A leaf that comes to a plain value, written no more. -/
def okG (v0 v : AV) (H : Heap) : Prop := ∃ v' u, coldT H v = (true, v', u) ∧ leV v' v0
theorem okG.mk {v0 v v' : AV} {H : Heap} {u : List (Nat × Ent)} (h : coldT H v = (true, v', u)) (hle : leV v' v0) : okG v0 v H := ⟨v', u, h, hle⟩
section
variable {P : Program} (G : Env P) (R : ROps G) (C : FuncId → List AV → Option (Bool × Out))
def walkH (L : FuncId → Nat → LPlan) (n : Nat) (f : FuncId) (args : List AV) (H : Heap) (K : AV → Heap → Prop) : Prop :=
  match P.funcs[f]? with
  | some fn => match fn.body with
    | some c => fL (args ++ List.replicate (fn.ntmps - args.length) (.tup [])) fun t => aw3 G R C (cinl G R C L n) (L f) c (aend G fn K) ⟨t, H⟩
    | none => False
  | none => False
end
section
variable {P : Program} {G : Env P} {R : ROps G} {T : Ctr G}
theorem GCall.of_walk (L : FuncId → Nat → LPlan) (d : Nat) {f : FuncId} {k n : Nat} {fr : Nat → List AV} {rest : List AV} {v : AV} (hp : pureL rest = true) (hv : pureA v = true)
    (h : walkH G R T.C L d f (.slv 0 k n fr :: rest) [.tail k n] (okG v)) : GCall G f (.slv 0 k n fr :: rest) v := by
  refine ⟨hv, k, n, fr, rest, rfl, hp, ?_⟩
  unfold walkH at h
  split at h
  · rename_i fn hf
    split at h
    · rename_i c hb
      have ha : ACall G f (.slv 0 k n fr :: rest) [.tail k n] (okG v) := body_sound hf hb (aw3_sound (cinl_sound L d) (L f) c (by
        simp only [fL_eq] at h
        exact h))
      intro ρ I w vs hc hr
      refine (ha ρ I w vs hc hr).mono ?_
      rintro e w' ⟨x, rfl, ρ', I', v1, H', g, c', hx, v', u, h1, h2⟩
      obtain ⟨I2, f1, f2, f3, f4⟩ := coldT_sound v1 I' H' c' (by rw [h1])
      rw [h1] at f1 f2 f4
      exact ⟨x, rfl, ρ', I2, v, _, g.trans f1, f2, h2 _ _ _ _ (f4 _ hx), rfl⟩
    · exact h.elim
  · exact h.elim

/-- One more such contract. -/
def Ctr.addG (T : Ctr G) (k : Nat) (c : List AV → Option (Bool × AV)) (ok : ∀ args pre v, c args = some (pre, v) → pre = true → GCall G k args v) : Ctr G where
  C := fun f args => bif f == k then (match args with
    | [.tup [], .tup a] => (match c a with
      | some (pre, v) => some (pre, .ret v [])
      | none => none)
    | _ => T.C f args) else T.C f args
  ok := fun f args pre out h hp => by
    cases hb : f == k with
    | true =>
      rw [hb] at h
      have : f = k := by simpa using hb
      subst this
      simp only [cond_true] at h
      split at h
      · rename_i a
        split at h
        · rename_i p v hc
          simp only [Option.some.injEq, Prod.mk.injEq] at h
          obtain ⟨rfl, rfl⟩ := h
          exact .inr ⟨v, a, rfl, rfl, ok a _ v hc hp⟩
        · simp at h
      · exact T.ok f args pre out h hp
    | false => rw [hb] at h; exact T.ok f args pre out h hp
/-- Such a contract, of rows that say more. -/
theorem GCall.rows {f : FuncId} {k n : Nat} {fr gr : Nat → List AV} {rest : List AV} {v : AV} (h : GCall G f (.slv 0 k n gr :: rest) v) (hr : ∀ i, i < n → leR (fr i) (gr i)) : GCall G f (.slv 0 k n fr :: rest) v := by
  obtain ⟨hv, k', n', gr', rest', he, hp, hc⟩ := h
  simp only [List.cons.injEq, AV.slv.injEq, true_and] at he
  obtain ⟨⟨rfl, rfl, rfl⟩, rfl⟩ := he
  refine ⟨hv, k, n, fr, rest, rfl, hp, fun ρ I w vs c r => hc ρ I w vs c ?_⟩
  obtain ⟨x, xs, rfl, k1, k2⟩ := RV_cons.1 r
  obtain ⟨j1, j2⟩ := rel_slv.1 k1
  exact RV_cons.2 ⟨x, xs, rfl, rel_slv.2 ⟨leV_vecr id hr _ _ _ _ j1, j2⟩, k2⟩
end
end
end Go.V

/- Terms as rows: what they say, and how rows are read as terms. -/
set_option linter.unusedSimpArgs false
set_option linter.unusedVariables false
namespace Go.Tm
open Go Go.V
inductive Tm where
  | mk (kind id other : Int) (args : List Tm)
  deriving Inhabited
namespace Tm
def kind : Tm → Int | .mk k _ _ _ => k
def id : Tm → Int | .mk _ i _ _ => i
def other : Tm → Int | .mk _ _ o _ => o
def args : Tm → List Tm | .mk _ _ _ a => a
end Tm
def tm0 : Tm := .mk 0 0 0 []
mutual
def tmC : Tm → List AV
  | .mk k i o as => [.int .i64 k, .int .i64 i, .int .i64 o, .vecr false 4 as.length (tmL as)]
def tmL : List Tm → Nat → List AV
  | [], _ => []
  | a :: _, 0 => tmC a
  | _ :: as, n + 1 => tmL as n
end
noncomputable def tmG : List Tm → Nat → List AV := (sealed tmL).val
theorem tmG_eq : tmG = tmL := by rw [tmG, (sealed tmL).property]
/-- The cells of a term, one level of them told. -/
noncomputable def tmK (t : Tm) : List AV := [.int .i64 t.kind, .int .i64 t.id, .int .i64 t.other, .vecr false 4 t.args.length (tmG t.args)]
noncomputable def tmF (as : List Tm) (i : Nat) : List AV := [.int .i64 (as.getD i tm0).kind, .int .i64 (as.getD i tm0).id, .int .i64 (as.getD i tm0).other, .vecr false 4 (as.getD i tm0).args.length (tmG (as.getD i tm0).args)]
theorem tmK_eq (t : Tm) : tmK t = tmC t := by cases t; rw [tmK, tmG_eq, tmC]; rfl
theorem tmF_eq (as : List Tm) (i : Nat) : tmF as i = tmK (as.getD i tm0) := rfl
theorem tmL_get : ∀ {as : List Tm} {i : Nat}, i < as.length → tmL as i = tmK (as.getD i tm0)
  | a :: as, 0, _ => by rw [tmL, ← tmK_eq]; rfl
  | a :: as, n + 1, h => by
    rw [tmL, tmL_get (as := as) (i := n) (by simpa using h)]; rfl
theorem tmG_get {as : List Tm} {i : Nat} (h : i < as.length) : tmG as i = tmF as i := by rw [tmG_eq, tmL_get h]; rfl

mutual
/-- Terms that a slice is read as. -/
def rdA : AV → List Tm
  | .vecr _ _ n f => (List.range n).map fun i => rdL (f i)
  | .vec _ _ l => rdR l
  | _ => []
def rdL : List AV → Tm
  | [] => tm0
  | a :: l => rd1 (rdI a) l
def rd1 (k : Int) : List AV → Tm
  | [] => tm0
  | a :: l => rd2 k (rdI a) l
def rd2 (k i : Int) : List AV → Tm
  | [] => tm0
  | a :: l => rd3 k i (rdI a) l
def rd3 (k i o : Int) : List AV → Tm
  | [] => tm0
  | a :: _ => .mk k i o (rdA a)
def rdI : AV → Int
  | .int _ k => k
  | _ => 0
def rdR : List AV → List Tm
  | [] => []
  | a :: l => rdG a :: rdR l
def rdG : AV → Tm
  | .agg cs => rdL cs
  | _ => tm0
end
end Go.Tm
namespace Go.Tm
open Go Go.V
mutual
/-- Is it a slice that can be read as terms? -/
def okT : AV → Bool
  | .vecr _ k n f => k == 4 && (leB n 1000 && (List.range n).all fun i => okC (f i))
  | .vec _ k l => k == 4 && (leB l.length 1000 && okR l)
  | .vec8 b l => b && l.isEmpty
  | _ => false
def okC : List AV → Bool
  | [] => false
  | a :: l => okI a && okC1 l
def okC1 : List AV → Bool
  | [] => false
  | a :: l => okI a && okC2 l
def okC2 : List AV → Bool
  | [] => false
  | a :: l => okI a && okC3 l
def okC3 : List AV → Bool
  | [] => false
  | a :: l => okT a && okE l
def okE : List AV → Bool
  | [] => true
  | _ :: _ => false
def okI : AV → Bool
  | .int .i64 _ => true
  | _ => false
def okR : List AV → Bool
  | [] => true
  | a :: l => okG1 a && okR l
def okG1 : AV → Bool
  | .agg cs => okC cs
  | _ => false
end
theorem okI_eq {a : AV} (h : okI a = true) : a = .int .i64 (rdI a) := by
  cases a with
  | int k n => cases k <;> first | rfl | simp [okI] at h
  | _ => simp [okI] at h
theorem okL_tmK (t : Tm) : okL (tmK t) = true := rfl
theorem leR_leV {a b : AV} {as bs : List AV} (ha : isAg a = false) (ha2 : a ≠ .any) (ha3 : szA a = 1) (hb : isAg b = false) (hb2 : b ≠ .any) (hok : okL [b] = true) (h : leV a b) (hr : leR as bs) : leR (a :: as) (b :: bs) := by
  refine leR.mk ?_ fun ρ I w vs r => ?_
  · have h1 := okL_pure hr.ok; have h2 := okL_one hr.ok
    have h3 := okL_pure hok; have h4 := okL_one hok
    simp only [pureL, oneL, Bool.and_true] at h3 h4
    simp only [okL, pureL, oneL, h1, h2, h3, h4, Bool.and_self]
  · obtain ⟨ys, zs, rfl, q, r2⟩ := RL_cons.1 r
    have hl := R_len a ys q
    rw [ha3] at hl
    obtain ⟨v, rfl⟩ : ∃ v, ys = [v] := by
      cases ys with
      | nil => simp at hl
      | cons v t => cases t with
        | nil => exact ⟨v, rfl⟩
        | cons _ _ => simp at hl
    have h1 : rel ρ I w a v := (valOf_ag ha2).2 (by rw [ha]; exact q)
    have h2 := (valOf_ag hb2).1 (h ρ I w v h1)
    rw [hb] at h2
    exact RL_cons.2 ⟨[v], zs, rfl, h2, hr.rl _ _ _ _ r2⟩
theorem okT_ag {x : AV} (h : okT x = true) : isAg x = false ∧ x ≠ .any ∧ szA x = 1 := by
  cases x <;> first | (simp [okT] at h; done) | exact ⟨rfl, nofun, rfl⟩
mutual
theorem okT_pure : ∀ (x : AV), okT x = true → pureA x = true
  | .vecr b k n f, h => rfl
  | .vec b k l, h => by
    simp only [okT, Bool.and_eq_true] at h
    exact okR_pure l h.2.2
  | .vec8 b l, h => rfl
  | .any, h => by simp [okT] at h
  | .raw _, h => by simp [okT] at h
  | .int _ _, h => by simp [okT] at h
  | .u8 _, h => by simp [okT] at h
  | .u32 _, h => by simp [okT] at h
  | .u64 _, h => by simp [okT] at h
  | .bool _, h => by simp [okT] at h
  | .str _, h => by simp [okT] at h
  | .b8 _ _, h => by simp [okT] at h
  | .w32 _ _, h => by simp [okT] at h
  | .w64 _ _, h => by simp [okT] at h
  | .n64 _ _, h => by simp [okT] at h
  | .ptr _ _, h => by simp [okT] at h
  | .pix _ _ _ _, h => by simp [okT] at h
  | .sl _ _ _ _, h => by simp [okT] at h
  | .slv _ _ _ _, h => by simp [okT] at h
  | .vp _ _, h => by simp [okT] at h
  | .vpx _ _ _ _, h => by simp [okT] at h
  | .fn _ _ _, h => by simp [okT] at h
  | .agg _, h => by simp [okT] at h
  | .tup _, h => by simp [okT] at h
theorem okC_ok : ∀ (cs : List AV), okC cs = true → okL cs = true
  | [a, b, c, x], h => by
    simp only [okC, okC1, okC2, okC3, Bool.and_eq_true] at h
    obtain ⟨h1, h2, h3, h4, h5⟩ := h
    rw [okI_eq h1, okI_eq h2, okI_eq h3]
    have hp := okT_pure x h4
    have ho : oneA x = true := by cases x <;> first | rfl | simp [okT] at h4
    simp [okL, pureL, pureA, oneL, oneA, hp, ho]
  | [], h => by simp [okC] at h
  | [_], h => by simp [okC, okC1] at h
  | [_, _], h => by simp [okC, okC1, okC2] at h
  | [_, _, _], h => by simp [okC, okC1, okC2, okC3] at h
  | _ :: _ :: _ :: _ :: _ :: _, h => by simp [okC, okC1, okC2, okC3, okE] at h
theorem okR_pure : ∀ (l : List AV), okR l = true → pureL l = true
  | [], _ => rfl
  | a :: l, h => by
    simp only [okR, Bool.and_eq_true] at h
    have h2 := okR_pure l h.2
    have h1 := okG_pure a h.1
    simp [pureL, h1, h2]
theorem okG_pure : ∀ (a : AV), okG1 a = true → pureA a = true
  | .agg cs, h => by
    have := okC_ok cs (by simpa [okG1] using h)
    simpa [pureA] using okL_pure this
  | .vecr _ _ _ _, h => by simp [okG1] at h
  | .vec _ _ _, h => by simp [okG1] at h
  | .vec8 _ _, h => by simp [okG1] at h
  | .any, h => by simp [okG1] at h
  | .raw _, h => by simp [okG1] at h
  | .int _ _, h => by simp [okG1] at h
  | .u8 _, h => by simp [okG1] at h
  | .u32 _, h => by simp [okG1] at h
  | .u64 _, h => by simp [okG1] at h
  | .bool _, h => by simp [okG1] at h
  | .str _, h => by simp [okG1] at h
  | .b8 _ _, h => by simp [okG1] at h
  | .w32 _ _, h => by simp [okG1] at h
  | .w64 _ _, h => by simp [okG1] at h
  | .n64 _ _, h => by simp [okG1] at h
  | .ptr _ _, h => by simp [okG1] at h
  | .pix _ _ _ _, h => by simp [okG1] at h
  | .sl _ _ _ _, h => by simp [okG1] at h
  | .slv _ _ _ _, h => by simp [okG1] at h
  | .vp _ _, h => by simp [okG1] at h
  | .vpx _ _ _ _, h => by simp [okG1] at h
  | .fn _ _ _, h => by simp [okG1] at h
  | .tup _, h => by simp [okG1] at h
end
theorem okG_agg {a : AV} (h : okG1 a = true) : ∃ cs, a = .agg cs ∧ okC cs = true := by
  cases a <;> first | exact ⟨_, rfl, by simpa [okG1] using h⟩ | simp [okG1] at h
mutual
theorem okT_le : ∀ (x : AV), okT x = true → leV x (.vecr false 4 (rdA x).length (tmF (rdA x)))
  | .vecr b k n f, h => by
    simp only [okT, Bool.and_eq_true, beq_iff_eq, List.all_eq_true] at h
    obtain ⟨rfl, _, h⟩ := h
    have hl : (rdA (.vecr b 4 n f)).length = n := by rw [rdA, List.length_map, List.length_range]
    rw [hl]
    refine leV_vecr (by simp) fun i hi => ?_
    have hg : (rdA (.vecr b 4 n f)).getD i tm0 = rdL (f i) := by
      rw [rdA, List.getD_eq_getElem?_getD, List.getElem?_map, List.getElem?_range hi]; rfl
    rw [tmF_eq, hg]
    exact okC_le (f i) (h i (List.mem_range.2 hi))
  | .vec b k l, h => by
    simp only [okT, Bool.and_eq_true, beq_iff_eq] at h
    obtain ⟨rfl, _, h⟩ := h
    obtain ⟨L, rfl, h1, h2⟩ := okR_all l h
    have e : rdA (.vec b 4 (L.map AV.agg)) = L.map rdL := by rw [rdA]; exact h1
    rw [e, List.length_map]
    intro ρ I w v r
    refine leV_vecr (f := fun i => L.getD i []) (full := false) (full' := b) (by simp) (fun i hi => ?_) _ _ _ _ (leV_rows L (fun i => L.getD i []) (fun _ _ => rfl) (fun i hi => ?_) _ _ _ _ r)
    · rw [tmF_eq, List.getD_eq_getElem?_getD, List.getD_eq_getElem?_getD, List.getElem?_map, List.getElem?_eq_getElem hi]
      exact (h2 _ (List.getElem_mem hi)).2
    · rw [List.getD_eq_getElem?_getD, List.getElem?_eq_getElem hi]
      exact (h2 _ (List.getElem_mem hi)).1
  | .vec8 b l, h => by
    simp only [okT, Bool.and_eq_true] at h
    have e : rdA (.vec8 b l) = [] := by simp [rdA]
    rw [e]
    exact leV_nil (by cases b <;> simp_all [nilS])
  | .any, h => by simp [okT] at h
  | .raw _, h => by simp [okT] at h
  | .int _ _, h => by simp [okT] at h
  | .u8 _, h => by simp [okT] at h
  | .u32 _, h => by simp [okT] at h
  | .u64 _, h => by simp [okT] at h
  | .bool _, h => by simp [okT] at h
  | .str _, h => by simp [okT] at h
  | .b8 _ _, h => by simp [okT] at h
  | .w32 _ _, h => by simp [okT] at h
  | .w64 _ _, h => by simp [okT] at h
  | .n64 _ _, h => by simp [okT] at h
  | .ptr _ _, h => by simp [okT] at h
  | .pix _ _ _ _, h => by simp [okT] at h
  | .sl _ _ _ _, h => by simp [okT] at h
  | .slv _ _ _ _, h => by simp [okT] at h
  | .vp _ _, h => by simp [okT] at h
  | .vpx _ _ _ _, h => by simp [okT] at h
  | .fn _ _ _, h => by simp [okT] at h
  | .agg _, h => by simp [okT] at h
  | .tup _, h => by simp [okT] at h
theorem okC_le : ∀ (cs : List AV), okC cs = true → leR cs (tmK (rdL cs))
  | [a, b, c, x], h => by
    simp only [okC, okC1, okC2, okC3, Bool.and_eq_true] at h
    obtain ⟨h1, h2, h3, h4, h5⟩ := h
    rw [okI_eq h1, okI_eq h2, okI_eq h3]
    obtain ⟨q1, q2, q3⟩ := okT_ag h4
    have hx := okT_le x h4
    have e : tmK (rdL [.int .i64 (rdI a), .int .i64 (rdI b), .int .i64 (rdI c), x]) = [.int .i64 (rdI a), .int .i64 (rdI b), .int .i64 (rdI c), .vecr false 4 (rdA x).length (tmG (rdA x))] := rfl
    rw [e]
    refine leR_same rfl (leR_same rfl (leR_same rfl (leR_leV q1 q2 q3 rfl (by simp) rfl (fun ρ I w v r => ?_) leR_end)))
    exact leV_vecr (f := tmF (rdA x)) (by simp) (fun i hi => by rw [tmG_get hi]; exact leR.refl (okL_tmK _)) _ _ _ _ (hx _ _ _ _ r)
  | [], h => by simp [okC] at h
  | [_], h => by simp [okC, okC1] at h
  | [_, _], h => by simp [okC, okC1, okC2] at h
  | [_, _, _], h => by simp [okC, okC1, okC2, okC3] at h
  | _ :: _ :: _ :: _ :: _ :: _, h => by simp [okC, okC1, okC2, okC3, okE] at h
theorem okR_all : ∀ (l : List AV), okR l = true → ∃ L : List (List AV), l = L.map AV.agg ∧ rdR l = L.map rdL ∧ ∀ cs ∈ L, okL cs = true ∧ leR cs (tmK (rdL cs))
  | [], _ => ⟨[], rfl, by rw [rdR]; rfl, fun _ h => absurd h (by simp)⟩
  | .agg cs :: l, h => by
    simp only [okR, okG1, Bool.and_eq_true] at h
    obtain ⟨L, h1, h2, h3⟩ := okR_all l h.2
    have k1 := okC_ok cs h.1
    have k2 := okC_le cs h.1
    refine ⟨cs :: L, by rw [h1]; rfl, by rw [rdR, h2, rdG]; rfl, ?_⟩
    intro c hc
    rcases List.mem_cons.1 hc with hc | hc
    · rw [hc]; exact ⟨k1, k2⟩
    · exact h3 c hc
  | .vecr _ _ _ _ :: _, h => by simp [okR, okG1] at h
  | .vec _ _ _ :: _, h => by simp [okR, okG1] at h
  | .vec8 _ _ :: _, h => by simp [okR, okG1] at h
  | .any :: _, h => by simp [okR, okG1] at h
  | .raw _ :: _, h => by simp [okR, okG1] at h
  | .int _ _ :: _, h => by simp [okR, okG1] at h
  | .u8 _ :: _, h => by simp [okR, okG1] at h
  | .u32 _ :: _, h => by simp [okR, okG1] at h
  | .u64 _ :: _, h => by simp [okR, okG1] at h
  | .bool _ :: _, h => by simp [okR, okG1] at h
  | .str _ :: _, h => by simp [okR, okG1] at h
  | .b8 _ _ :: _, h => by simp [okR, okG1] at h
  | .w32 _ _ :: _, h => by simp [okR, okG1] at h
  | .w64 _ _ :: _, h => by simp [okR, okG1] at h
  | .n64 _ _ :: _, h => by simp [okR, okG1] at h
  | .ptr _ _ :: _, h => by simp [okR, okG1] at h
  | .pix _ _ _ _ :: _, h => by simp [okR, okG1] at h
  | .sl _ _ _ _ :: _, h => by simp [okR, okG1] at h
  | .slv _ _ _ _ :: _, h => by simp [okR, okG1] at h
  | .vp _ _ :: _, h => by simp [okR, okG1] at h
  | .vpx _ _ _ _ :: _, h => by simp [okR, okG1] at h
  | .fn _ _ _ :: _, h => by simp [okR, okG1] at h
  | .tup _ :: _, h => by simp [okR, okG1] at h
end
end Go.Tm

/- What is said of terms: how many, in form, known. -/
set_option linter.unusedSimpArgs false
set_option linter.unusedVariables false
namespace Go.Tm
open Go Go.V
mutual
/-- No term in it has too many parts. -/
def smT : Tm → Bool
  | .mk _ _ _ es => leB es.length 1000 && smL es
def smL : List Tm → Bool
  | [] => true
  | a :: es => smT a && smL es
end
theorem smL_iff {es : List Tm} : smL es = true ↔ ∀ t ∈ es, smT t = true := by
  induction es with
  | nil => simp [smL]
  | cons a es ih => simp [smL, ih]
theorem smT_iff {t : Tm} : smT t = true ↔ t.args.length ≤ 1000 ∧ smL t.args = true := by
  cases t; simp [smT, Tm.args, leB_iff]
mutual
theorem okC_tmC : ∀ t : Tm, smT t = true → okC (tmC t) = true
  | .mk k i o es, h => by
    simp only [smT, Bool.and_eq_true] at h
    simp only [tmC, okC, okC1, okC2, okC3, okE, okI, okT, beq_self_eq_true, Bool.true_and, Bool.and_true, Bool.and_eq_true, List.all_eq_true, List.mem_range]
    exact ⟨h.1, okC_tmL es h.2⟩
theorem okC_tmL : ∀ (es : List Tm), smL es = true → ∀ (i : Nat), i < es.length → okC (tmL es i) = true
  | a :: es, h, 0, _ => by
    simp only [smL, Bool.and_eq_true] at h
    rw [tmL]; exact okC_tmC a h.1
  | a :: es, h, n + 1, hn => by
    simp only [smL, Bool.and_eq_true] at h
    rw [tmL]; exact okC_tmL es h.2 n (by simpa using hn)
end
mutual
theorem sm_okT : ∀ x : AV, okT x = true → (rdA x).length ≤ 1000 ∧ smL (rdA x) = true
  | .vecr b k n f, h => by
    simp only [okT, Bool.and_eq_true, List.all_eq_true, List.mem_range] at h
    obtain ⟨_, h1, h2⟩ := h
    refine ⟨by rw [rdA, List.length_map, List.length_range]; exact leB_iff.1 h1, ?_⟩
    rw [rdA, smL_iff]
    intro t ht
    obtain ⟨i, hi, rfl⟩ := List.mem_map.1 ht
    exact sm_okC (f i) (h2 i (List.mem_range.1 hi))
  | .vec b k l, h => by
    simp only [okT, Bool.and_eq_true] at h
    obtain ⟨_, h1, h2⟩ := h
    have := sm_okR l h2
    rw [rdA]
    exact ⟨by rw [this.1]; exact leB_iff.1 h1, this.2⟩
  | .vec8 b l, h => by
    have e : rdA (.vec8 b l) = [] := by simp [rdA]
    rw [e]; exact ⟨by simp, rfl⟩
  | .any, h => by simp [okT] at h
  | .raw _, h => by simp [okT] at h
  | .int _ _, h => by simp [okT] at h
  | .u8 _, h => by simp [okT] at h
  | .u32 _, h => by simp [okT] at h
  | .u64 _, h => by simp [okT] at h
  | .bool _, h => by simp [okT] at h
  | .str _, h => by simp [okT] at h
  | .b8 _ _, h => by simp [okT] at h
  | .w32 _ _, h => by simp [okT] at h
  | .w64 _ _, h => by simp [okT] at h
  | .n64 _ _, h => by simp [okT] at h
  | .ptr _ _, h => by simp [okT] at h
  | .pix _ _ _ _, h => by simp [okT] at h
  | .sl _ _ _ _, h => by simp [okT] at h
  | .slv _ _ _ _, h => by simp [okT] at h
  | .vp _ _, h => by simp [okT] at h
  | .vpx _ _ _ _, h => by simp [okT] at h
  | .fn _ _ _, h => by simp [okT] at h
  | .agg _, h => by simp [okT] at h
  | .tup _, h => by simp [okT] at h
theorem sm_okC : ∀ cs : List AV, okC cs = true → smT (rdL cs) = true
  | [a, b, c, x], h => by
    simp only [okC, okC1, okC2, okC3, Bool.and_eq_true] at h
    obtain ⟨_, _, _, h4, _⟩ := h
    have := sm_okT x h4
    simp only [rdL, rd1, rd2, rd3, smT, leB_of this.1, this.2, Bool.and_self]
  | [], h => by simp [okC] at h
  | [_], h => by simp [okC, okC1] at h
  | [_, _], h => by simp [okC, okC1, okC2] at h
  | [_, _, _], h => by simp [okC, okC1, okC2, okC3] at h
  | _ :: _ :: _ :: _ :: _ :: _, h => by simp [okC, okC1, okC2, okC3, okE] at h
theorem sm_okR : ∀ l : List AV, okR l = true → (rdR l).length = l.length ∧ smL (rdR l) = true
  | [], _ => by rw [rdR]; exact ⟨rfl, rfl⟩
  | a :: l, h => by
    simp only [okR, Bool.and_eq_true] at h
    have h2 := sm_okR l h.2
    have h1 := sm_okG a h.1
    rw [rdR]
    simp only [List.length_cons, h2.1, smL, h1, h2.2, Bool.and_self, and_self]
theorem sm_okG : ∀ a : AV, okG1 a = true → smT (rdG a) = true
  | .agg cs, h => by
    rw [rdG]; exact sm_okC cs (by simpa [okG1] using h)
  | .vecr _ _ _ _, h => by simp [okG1] at h
  | .vec _ _ _, h => by simp [okG1] at h
  | .vec8 _ _, h => by simp [okG1] at h
  | .any, h => by simp [okG1] at h
  | .raw _, h => by simp [okG1] at h
  | .int _ _, h => by simp [okG1] at h
  | .u8 _, h => by simp [okG1] at h
  | .u32 _, h => by simp [okG1] at h
  | .u64 _, h => by simp [okG1] at h
  | .bool _, h => by simp [okG1] at h
  | .str _, h => by simp [okG1] at h
  | .b8 _ _, h => by simp [okG1] at h
  | .w32 _ _, h => by simp [okG1] at h
  | .w64 _ _, h => by simp [okG1] at h
  | .n64 _ _, h => by simp [okG1] at h
  | .ptr _ _, h => by simp [okG1] at h
  | .pix _ _ _ _, h => by simp [okG1] at h
  | .sl _ _ _ _, h => by simp [okG1] at h
  | .slv _ _ _ _, h => by simp [okG1] at h
  | .vp _ _, h => by simp [okG1] at h
  | .vpx _ _ _ _, h => by simp [okG1] at h
  | .fn _ _ _, h => by simp [okG1] at h
  | .tup _, h => by simp [okG1] at h
end
theorem map_range {α β : Type} (f : α → β) (d : α) (l : List α) (g : Nat → β) (h : ∀ i, i < l.length → g i = f (l.getD i d)) : (List.range l.length).map g = l.map f := by
  apply List.ext_getElem
  · simp
  · intro i h1 h2
    have hi : i < l.length := by simpa using h2
    rw [List.getElem_map, List.getElem_range, List.getElem_map, h i hi, List.getD_eq_getElem?_getD, List.getElem?_eq_getElem hi, Option.getD_some]
mutual
theorem rdL_tmC : ∀ t : Tm, rdL (tmC t) = t
  | .mk k i o as => by
    simp only [tmC, rdL, rd1, rd2, rd3, rdI, rdA]
    congr 1
    have := map_range (fun x => x) tm0 as (fun i => rdL (tmL as i)) fun i hi => rdL_tmL as i hi
    rw [this, List.map_id']
theorem rdL_tmL : ∀ (as : List Tm) (i : Nat), i < as.length → rdL (tmL as i) = as.getD i tm0
  | a :: as, 0, _ => by rw [tmL]; exact rdL_tmC a
  | a :: as, n + 1, h => by rw [tmL, rdL_tmL as n (by simpa using h)]; rfl
end
noncomputable def okCS : List AV → Bool := (sealed okC).val
theorem okCS_eq : okCS = okC := by rw [okCS, (sealed okC).property]
noncomputable def rdCS : List AV → Tm := (sealed rdL).val
theorem rdCS_eq : rdCS = rdL := by rw [rdCS, (sealed rdL).property]
noncomputable def okTS : AV → Bool := (sealed okT).val
theorem okTS_eq : okTS = okT := by rw [okTS, (sealed okT).property]
noncomputable def rdTS : AV → List Tm := (sealed rdA).val
theorem rdTS_eq : rdTS = rdA := by rw [rdTS, (sealed rdA).property]
/-- The cells of a term, two levels of them told. -/
noncomputable def tmK1 (t : Tm) : List AV := [.int .i64 t.kind, .int .i64 t.id, .int .i64 t.other, .vecr false 4 t.args.length (tmF t.args)]
theorem leR_K1 (t : Tm) : leR (tmK t) (tmK1 t) :=
  leR_same rfl (leR_same rfl (leR_same rfl (leR_vecr (c := 0) (by simp) (fun i hi => by rw [tmG_get hi]; exact leR.refl (okL_tmK _)) leR_end)))
theorem leR_K (t : Tm) : leR (tmK1 t) (tmK t) :=
  leR_same rfl (leR_same rfl (leR_same rfl (leR_vecr (c := 0) (by simp) (fun i hi => by rw [tmG_get hi]; exact leR.refl (okL_tmK _)) leR_end)))
theorem okCS_K {t : Tm} (h : smT t = true) : okCS (tmK t) = true := by rw [okCS_eq, tmK_eq]; exact okC_tmC t h
theorem rdCS_K (t : Tm) : rdCS (tmK t) = t := by rw [rdCS_eq, tmK_eq]; exact rdL_tmC t
theorem okT_rows {b : Bool} {n : Nat} {f : Nat → List AV} (hn : n ≤ 1000) (h : ∀ i, i < n → okC (f i) = true) : okT (.vecr b 4 n f) = true := by
  simp only [okT, beq_self_eq_true, Bool.true_and, Bool.and_eq_true, List.all_eq_true, List.mem_range]; exact ⟨leB_of hn, h⟩
theorem rdT_rows {b : Bool} {n : Nat} {f : Nat → List AV} (es : List Tm) (hn : n = es.length) (h : ∀ i, i < n → rdL (f i) = es.getD i tm0) : rdA (.vecr b 4 n f) = es := by
  subst hn
  rw [rdA, map_range (fun x => x) tm0 es _ h, List.map_id']
theorem okC_K {t : Tm} (h : smT t = true) : okC (tmK t) = true := by rw [tmK_eq]; exact okC_tmC t h
theorem rdL_K (t : Tm) : rdL (tmK t) = t := by rw [tmK_eq]; exact rdL_tmC t
theorem sm_get {es : List Tm} (h : smL es = true) {i : Nat} (hi : i < es.length) : smT (es.getD i tm0) = true := by
  rw [List.getD_eq_getElem?_getD, List.getElem?_eq_getElem hi]; exact smL_iff.1 h _ (List.getElem_mem hi)
theorem okTS_F {b : Bool} {es : List Tm} (hn : es.length ≤ 1000) (h : smL es = true) : okTS (.vecr b 4 es.length (tmF es)) = true := by
  rw [okTS_eq]; exact okT_rows hn fun i hi => okC_K (sm_get h hi)
theorem rdTS_F {b : Bool} (es : List Tm) : rdTS (.vecr b 4 es.length (tmF es)) = es := by
  rw [rdTS_eq]; exact rdT_rows es rfl fun i _ => rdL_K _
theorem okTS_G {b : Bool} {es : List Tm} (hn : es.length ≤ 1000) (h : smL es = true) : okTS (.vecr b 4 es.length (tmG es)) = true := by
  rw [okTS_eq]; exact okT_rows hn fun i hi => by rw [tmG_get hi]; exact okC_K (sm_get h hi)
theorem rdTS_G {b : Bool} (es : List Tm) : rdTS (.vecr b 4 es.length (tmG es)) = es := by
  rw [rdTS_eq]; exact rdT_rows es rfl fun i hi => by rw [tmG_get hi]; exact rdL_K _
theorem okCS_F {es : List Tm} {i : Nat} (h : smT (es.getD i tm0) = true) : okCS [.int .i64 (es.getD i tm0).kind, .int .i64 (es.getD i tm0).id, .int .i64 (es.getD i tm0).other, .vecr false 4 (es.getD i tm0).args.length (tmG (es.getD i tm0).args)] = true := okCS_K h
theorem rdCS_F (es : List Tm) (i : Nat) : rdCS [.int .i64 (es.getD i tm0).kind, .int .i64 (es.getD i tm0).id, .int .i64 (es.getD i tm0).other, .vecr false 4 (es.getD i tm0).args.length (tmG (es.getD i tm0).args)] = es.getD i tm0 := rdCS_K _
theorem okCS_K1 {t : Tm} (h : smT t = true) : okCS [.int .i64 t.kind, .int .i64 t.id, .int .i64 t.other, .vecr false 4 t.args.length (tmF t.args)] = true := by
  rw [okCS_eq]
  obtain ⟨h1, h2⟩ := smT_iff.1 h
  have := okTS_F (b := false) h1 h2
  rw [okTS_eq] at this
  simp only [okC, okC1, okC2, okC3, okE, okI, this, Bool.and_self]
theorem rdCS_K1 (t : Tm) : rdCS [.int .i64 t.kind, .int .i64 t.id, .int .i64 t.other, .vecr false 4 t.args.length (tmF t.args)] = t := by
  rw [rdCS_eq]
  show Tm.mk t.kind t.id t.other (rdA _) = t
  have := rdTS_F (b := false) t.args
  rw [rdTS_eq] at this
  rw [this]; cases t; rfl
theorem sm_cs {cs : List AV} (h : okCS cs = true) : smT (rdCS cs) = true := by
  rw [okCS_eq] at h; rw [rdCS_eq]; exact sm_okC cs h
theorem sm_ts {x : AV} (h : okTS x = true) : (rdTS x).length ≤ 1000 ∧ smL (rdTS x) = true := by
  rw [okTS_eq] at h; rw [rdTS_eq]; exact sm_okT x h
/-- An argument that is read as a term, as its cells. -/
theorem arg_K1 {cs : List AV} (h : okCS cs = true) : leV (.agg cs) (.agg (tmK1 (rdCS cs))) := by
  rw [okCS_eq] at h
  rw [rdCS_eq]
  exact leV_agg ((okC_le cs h).trans (leR_K1 _))
theorem arg_F {x : AV} (h : okTS x = true) : leV x (.vecr false 4 (rdTS x).length (tmF (rdTS x))) := by
  rw [okTS_eq] at h
  rw [rdTS_eq]
  exact okT_le x h
theorem cs_pure {cs : List AV} (h : okCS cs = true) : pureL cs = true := by
  rw [okCS_eq] at h; exact okL_pure (okC_ok cs h)
theorem ts_pure {x : AV} (h : okTS x = true) : pureA x = true := by
  rw [okTS_eq] at h; exact okT_pure x h

mutual
/-- How many terms there are in one. -/
def sizeT : Tm → Int → Int
  | .mk _ _ _ as, d => bif ltI 40 d then 301 else sizeL as (d + 1) 1
def sizeL : List Tm → Int → Int → Int
  | [], _, n => n
  | a :: as, d, n => bif ltI 300 n then n else sizeL as d (n + sizeT a d)
end
noncomputable def sizeS : Tm → Int → Int := (sealed sizeT).val
theorem sizeS_eq : sizeS = sizeT := by rw [sizeS, (sealed sizeT).property]
def argsN (k : Int) : Nat := if k = 4 then 2 else if k = 5 then 1 else if k = 6 then 2 else if k = 7 then 3 else 0
def okF (k i o : Int) (n : Nat) : Bool := (n == argsN k) && (decide (0 ≤ i) && (decide (0 ≤ o) && (if k = 3 then decide (i ≤ o) else if k = 1 ∨ k = 2 ∨ k = 6 then o == 0 else wr .i64 (i + o) == 0)))
mutual
def formT : Tm → Int
  | .mk k i o as => if k < 1 ∨ 7 < k then 2 else bif okF k i o as.length then formL as else 3
def formL : List Tm → Int
  | [] => 0
  | a :: as => if formT a = 0 then formL as else formT a
end
noncomputable def formS : Tm → Int := (sealed formT).val
theorem formS_eq : formS = formT := by rw [formS, (sealed formT).property]
def atomT (n : Int) : Tm := .mk 1 n 0 []
def pubT (n : Int) : Tm := .mk 2 n 0 []
noncomputable def hasT (B : List Tm) (t : Tm) : Bool := yes (t ∈ B)
noncomputable def pubK (B : List Tm) (n : Int) : Bool := hasT B (atomT n) || hasT B (pubT n)
mutual
noncomputable def makesT (B : List Tm) : Tm → Bool
  | .mk k i o as => hasT B (.mk k i o as) || (if k = 1 then false else if k = 2 then hasT B (atomT i) else if k = 3 then (hasT B (atomT i) && pubK B o) || (hasT B (atomT o) && pubK B i) else makesL B as)
noncomputable def makesL (B : List Tm) : List Tm → Bool
  | [] => true
  | a :: as => makesT B a && makesL B as
end
noncomputable def makesS : List Tm → Tm → Bool := (sealed makesT).val
theorem makesS_eq : makesS = makesT := by rw [makesS, (sealed makesT).property]
noncomputable def openT (B : List Tm) (t : Tm) : List Tm := if t.kind = 4 then t.args else if t.kind = 7 ∧ makesT B (t.args.getD 0 tm0) = true then t.args.drop 2 else []
noncomputable def openS : List Tm → Tm → List Tm := (sealed openT).val
theorem openS_eq : openS = openT := by rw [openS, (sealed openT).property]
end Go.Tm

/- How many terms there are in one: bounds; terms in form. -/
set_option linter.unusedSimpArgs false
set_option linter.unusedVariables false
namespace Go.Tm
open Go Go.V
theorem getD_mem {as : List Tm} {i : Nat} (h : i < as.length) : as.getD i tm0 ∈ as := by
  rw [List.getD_eq_getElem?_getD, List.getElem?_eq_getElem h]; exact List.getElem_mem h
theorem drop_cons {as : List Tm} {i : Nat} (h : i < as.length) : as.drop i = as.getD i tm0 :: as.drop (i + 1) := by
  rw [List.getD_eq_getElem?_getD, List.getElem?_eq_getElem h]; exact List.drop_eq_getElem_cons h
mutual
def tmSz : Tm → Nat
  | .mk _ _ _ es => 1 + tmSzL es
def tmSzL : List Tm → Nat
  | [] => 0
  | a :: es => tmSz a + tmSzL es
end
theorem tmSz_pos (t : Tm) : 0 < tmSz t := by cases t; rw [tmSz]; omega
theorem tmSzL_mem {es : List Tm} {u : Tm} (h : u ∈ es) : tmSz u ≤ tmSzL es := by
  induction es with
  | nil => simp at h
  | cons a es ih =>
    rw [tmSzL]
    rcases List.mem_cons.1 h with rfl | h
    · omega
    · have := ih h; omega
theorem tmSz_arg {t u : Tm} (h : u ∈ t.args) : tmSz u < tmSz t := by
  cases t with
  | mk k i o es => have := tmSzL_mem (show u ∈ es from h); rw [tmSz]; omega
theorem tm_eta (t : Tm) : t = .mk t.kind t.id t.other t.args := by cases t; rfl
mutual
theorem sizeT_bd : ∀ (t : Tm) (d : Int), 0 < d → d < 42 → 0 < sizeT t d ∧ sizeT t d ≤ 301 + 300 * (41 - d)
  | .mk k i o as, d, h1, h2 => by
    rw [sizeT]
    cases h : ltI 40 d with
    | true => exact ⟨by show (0 : Int) < 301; decide, by show (301 : Int) ≤ _; omega⟩
    | false =>
      have h3 : ¬ 40 < d := fun e => by rw [(ltI_iff _ _).2 e] at h; cases h
      have := sizeL_bd as (d + 1) 1 (by omega) (by omega) (by omega) (by omega)
      rw [cond_false]
      omega
theorem sizeL_bd : ∀ (as : List Tm) (d n : Int), 0 < d → d < 42 → 0 < n → n ≤ 601 + 300 * (41 - d) → 0 < sizeL as d n ∧ sizeL as d n ≤ 601 + 300 * (41 - d)
  | [], d, n, _, _, h3, h4 => by rw [sizeL]; exact ⟨h3, h4⟩
  | a :: as, d, n, h1, h2, h3, h4 => by
    rw [sizeL]
    cases h : ltI 300 n with
    | true => exact ⟨h3, h4⟩
    | false =>
      have h5 : ¬ 300 < n := fun e => by rw [(ltI_iff _ _).2 e] at h; cases h
      have hb := sizeT_bd a d h1 h2
      rw [cond_false]
      exact sizeL_bd as d _ h1 h2 (by omega) (by omega)
end
theorem sizeL_big (as : List Tm) (d n : Int) (h : 300 < n) : sizeL as d n = n := by
  cases as with
  | nil => rw [sizeL]
  | cons a as => rw [sizeL, (ltI_iff _ _).2 h]; rfl
theorem yes_of {p : Prop} (h : p) : yes p = true := yes_iff.2 h
theorem yes_no {p : Prop} (h : ¬ p) : yes p = false := by
  cases hb : yes p with
  | false => rfl
  | true => exact absurd (yes_iff.1 hb) h
end Go.Tm
namespace Go.Tm
open Go Go.V
/-- Are there too many in all? -/
def szsL : List Tm → Int → Bool
  | [], _ => false
  | a :: l, n => bif ltI 300 (n + sizeT a 1) then true else szsL l (n + sizeT a 1)
def faultT (l : List Tm) : Int := bif szsL l 0 then 1 else formL l
noncomputable def faultS : List Tm → Int := (sealed faultT).val
theorem faultS_eq : faultS = faultT := by rw [faultS, (sealed faultT).property]
def checkT (t : Tm) : Int := bif ltI 300 (sizeT t 1) then 1 else formT t
noncomputable def checkS : Tm → Int := (sealed checkT).val
theorem checkS_eq : checkS = checkT := by rw [checkS, (sealed checkT).property]
end Go.Tm

/- All that is in what somebody knows. -/
set_option linter.unusedSimpArgs false
set_option linter.unusedVariables false
namespace Go.Tm
open Go Go.V
noncomputable def nextT (B : List Tm) : Option Tm := (B.flatMap (openT B)).find? fun x => !(yes (x ∈ B))
noncomputable def fullF : Nat → List Tm → List Tm
  | 0, B => B
  | k + 1, B => match nextT B with
    | none => B
    | some x => fullF k (B ++ [x])
noncomputable def fullT (B : List Tm) : List Tm := fullF (tmSzL B) B
noncomputable def fullS : List Tm → List Tm := (sealed fullT).val
theorem fullS_eq : fullS = fullT := by rw [fullS, (sealed fullT).property]
def okB (B : List Tm) : Prop := smL B = true ∧ ∀ t ∈ B, formT t = 0
def FullInv (B0 B : List Tm) (k : Nat) : Prop := B.length + k ≤ 1000 ∧ okB B ∧ nextT (fullF k B) = none ∧ fullF k B = fullT B0
def fullOk (B : List Tm) : Prop := B.length + tmSzL B ≤ 1000 ∧ okB B
end Go.Tm
namespace Go.Tm
open Go Go.V
mutual
def subs : Tm → List Tm
  | .mk k i o es => .mk k i o es :: subsL es
def subsL : List Tm → List Tm
  | [] => []
  | a :: es => subs a ++ subsL es
end
mutual
theorem subs_len : ∀ t : Tm, (subs t).length = tmSz t
  | .mk k i o es => by rw [subs, List.length_cons, subsL_len es, tmSz]; omega
theorem subsL_len : ∀ es : List Tm, (subsL es).length = tmSzL es
  | [] => by rw [subsL, tmSzL]; rfl
  | a :: es => by rw [subsL, List.length_append, subs_len a, subsL_len es, tmSzL]
end
theorem subs_self (t : Tm) : t ∈ subs t := by cases t; rw [subs]; exact List.mem_cons_self ..
theorem mem_subsL {es : List Tm} {t : Tm} (h : t ∈ es) : t ∈ subsL es := by
  induction es with
  | nil => simp at h
  | cons a es ih =>
    rw [subsL, List.mem_append]
    rcases List.mem_cons.1 h with rfl | h
    · exact .inl (subs_self _)
    · exact .inr (ih h)
mutual
theorem subs_arg : ∀ (s t a : Tm), t ∈ subs s → a ∈ t.args → a ∈ subs s
  | .mk k i o es, t, a, h, ha => by
    rw [subs] at h ⊢
    rcases List.mem_cons.1 h with rfl | h
    · exact List.mem_cons_of_mem _ (mem_subsL ha)
    · exact List.mem_cons_of_mem _ (subsL_arg es t a h ha)
theorem subsL_arg : ∀ (es : List Tm) (t a : Tm), t ∈ subsL es → a ∈ t.args → a ∈ subsL es
  | [], t, a, h, _ => by rw [subsL] at h; simp at h
  | s :: es, t, a, h, ha => by
    rw [subsL, List.mem_append] at h ⊢
    rcases h with h | h
    · exact .inl (subs_arg s t a h ha)
    · exact .inr (subsL_arg es t a h ha)
end
theorem open_arg {B : List Tm} {t x : Tm} (h : x ∈ openT B t) : x ∈ t.args := by
  unfold openT at h
  split at h
  · exact h
  · split at h
    · exact List.mem_of_mem_drop h
    · simp at h
theorem nextT_iff {B : List Tm} {x : Tm} (h : nextT B = some x) : x ∉ B ∧ ∃ t ∈ B, x ∈ openT B t := by
  unfold nextT at h
  have h1 := List.find?_some h
  have h2 := List.mem_of_find?_eq_some h
  obtain ⟨t, h3, h4⟩ := List.mem_flatMap.1 h2
  exact ⟨fun e => by rw [yes_of e] at h1; simp at h1, t, h3, h4⟩
theorem nextT_none {B : List Tm} : nextT B = none ↔ ∀ t ∈ B, ∀ x ∈ openT B t, x ∈ B := by
  unfold nextT
  rw [List.find?_eq_none]
  constructor
  · intro h t ht x hx
    have := h x (List.mem_flatMap.2 ⟨t, ht, hx⟩)
    exact yes_iff.1 (by simpa using this)
  · intro h x hx
    obtain ⟨t, ht, hx⟩ := List.mem_flatMap.1 hx
    rw [yes_of (h t ht x hx)]; simp
theorem find_at {α : Type} {p : α → Bool} {l r : List α} {x : α} (hl : ∀ y ∈ l, p y = false) (hx : p x = true) : (l ++ x :: r).find? p = some x := by
  rw [List.find?_append]
  have : l.find? p = none := List.find?_eq_none.2 fun y hy => by rw [hl y hy]; simp
  rw [this, List.find?_cons, hx]; rfl
theorem nextT_at {B : List Tm} {i j : Nat} (hi : i < B.length) (hj : j < (openT B (B.getD i tm0)).length) (h1 : ∀ k, k < i → ∀ x, x ∈ openT B (B.getD k tm0) → x ∈ B) (h2 : ∀ k, k < j → (openT B (B.getD i tm0)).getD k tm0 ∈ B)
    (h3 : (openT B (B.getD i tm0)).getD j tm0 ∉ B) : nextT B = some ((openT B (B.getD i tm0)).getD j tm0) := by
  generalize hL : openT B (B.getD i tm0) = L at *
  have eB : B = B.take i ++ B.getD i tm0 :: B.drop (i + 1) := by
    conv => lhs; rw [← List.take_append_drop i B, drop_cons hi]
  have eL : L = L.take j ++ L.getD j tm0 :: L.drop (j + 1) := by
    conv => lhs; rw [← List.take_append_drop j L, drop_cons hj]
  have e : B.flatMap (openT B) = ((B.take i).flatMap (openT B) ++ L.take j) ++ L.getD j tm0 :: (L.drop (j + 1) ++ (B.drop (i + 1)).flatMap (openT B)) := by
    conv => lhs; arg 2; rw [eB]
    rw [List.flatMap_append, List.flatMap_cons, hL]
    conv => lhs; arg 2; arg 1; rw [eL]
    simp only [List.append_assoc, List.cons_append]
  unfold nextT
  rw [e]
  refine find_at (fun y hy => ?_) ?_
  · have hy2 : y ∈ B := by
      rcases List.mem_append.1 hy with hy | hy
      · obtain ⟨t, ht, hy⟩ := List.mem_flatMap.1 hy
        obtain ⟨k, hk, rfl⟩ := List.getElem_of_mem ht
        rw [List.length_take] at hk
        have hk' : k < i := by omega
        refine h1 k hk' y ?_
        rw [List.getD_eq_getElem?_getD, List.getElem?_eq_getElem (by omega), Option.getD_some]
        rwa [List.getElem_take] at hy
      · obtain ⟨k, hk, rfl⟩ := List.getElem_of_mem hy
        rw [List.length_take] at hk
        have := h2 k (by omega)
        rw [List.getD_eq_getElem?_getD, List.getElem?_eq_getElem (by omega), Option.getD_some] at this
        rwa [List.getElem_take]
    rw [yes_of hy2]; rfl
  · rw [yes_no h3]; rfl
theorem filter_lt {α : Type} {p q : α → Bool} (h : ∀ x, q x = true → p x = true) : ∀ {U : List α} {x : α}, x ∈ U → p x = true → q x = false → (U.filter q).length < (U.filter p).length
  | a :: U, x, hx, hp, hq => by
    have le : (U.filter q).length ≤ (U.filter p).length := by
      clear hx hp hq
      induction U with
      | nil => simp
      | cons b U ih =>
        rw [List.filter_cons, List.filter_cons]
        cases h1 : q b with
        | true => rw [h b h1]; simpa using ih
        | false => cases p b <;> simp <;> omega
    rw [List.filter_cons, List.filter_cons]
    rcases List.mem_cons.1 hx with rfl | hx
    · rw [hp, hq]; simp; omega
    · have ih := filter_lt h hx hp hq
      cases h1 : q a with
      | true => rw [h a h1]; simpa using ih
      | false => cases p a <;> simp <;> omega
theorem full_end {U : List Tm} (hU : ∀ t a, t ∈ U → a ∈ t.args → a ∈ U) : ∀ (k : Nat) (B : List Tm), (∀ t ∈ B, t ∈ U) → (U.filter fun u => !(yes (u ∈ B))).length ≤ k → nextT (fullF k B) = none := by
  intro k
  induction k with
  | zero =>
    intro B hB hk
    rw [fullF]
    cases hn : nextT B with
    | none => rfl
    | some x =>
      obtain ⟨h1, t, h2, h3⟩ := nextT_iff hn
      have hx := hU t x (hB t h2) (open_arg h3)
      have : x ∈ U.filter fun u => !(yes (u ∈ B)) := List.mem_filter.2 ⟨hx, by rw [yes_no h1]; rfl⟩
      have := List.length_pos_of_mem this
      omega
  | succ k ih =>
    intro B hB hk
    rw [fullF]
    cases hn : nextT B with
    | none => exact hn
    | some x =>
      obtain ⟨h1, t, h2, h3⟩ := nextT_iff hn
      have hx := hU t x (hB t h2) (open_arg h3)
      refine ih _ (fun u hu => ?_) ?_
      · rcases List.mem_append.1 hu with hu | hu
        · exact hB u hu
        · rw [List.mem_singleton] at hu; rw [hu]; exact hx
      · have := filter_lt (p := fun u => !(yes (u ∈ B))) (q := fun u => !(yes (u ∈ B ++ [x]))) (fun u hu => by
          have hu : u ∉ B ++ [x] := fun e => by rw [yes_of e] at hu; simp at hu
          rw [yes_no fun e => hu (List.mem_append_left _ e)]; rfl) hx (by rw [yes_no h1]; rfl) (by rw [yes_of (List.mem_append_right _ (List.mem_singleton.2 rfl))]; rfl)
        omega
theorem full_start {B : List Tm} (h : fullOk B) : FullInv B B (tmSzL B) := by
  refine ⟨h.1, h.2, ?_, rfl⟩
  refine full_end (U := subsL B) (fun t a => subsL_arg B t a) _ _ (fun t ht => mem_subsL ht) ?_
  rw [← subsL_len]
  exact List.length_filter_le _ _
theorem formL_mem {es : List Tm} (h : formL es = 0) : ∀ a ∈ es, formT a = 0 := by
  induction es with
  | nil => intro a ha; simp at ha
  | cons b es ih =>
    rw [formL] at h
    by_cases hb : formT b = 0
    · rw [if_pos hb] at h
      intro a ha
      rcases List.mem_cons.1 ha with rfl | ha
      · exact hb
      · exact ih h a ha
    · rw [if_neg hb] at h; exact absurd h hb
theorem form_spec {t : Tm} (h : formT t = 0) : (1 ≤ t.kind ∧ t.kind ≤ 7) ∧ t.args.length = argsN t.kind ∧ formL t.args = 0 := by
  cases t with
  | mk k i o es =>
    rw [formT] at h
    split at h
    · omega
    · rename_i hk
      cases hb : okF k i o es.length with
      | false => rw [hb] at h; simp at h
      | true =>
        rw [hb] at h
        simp only [okF, Bool.and_eq_true, beq_iff_eq] at hb
        exact ⟨by simp only [Tm.kind]; omega, hb.1, h⟩
theorem okB_arg {t x : Tm} (hs : smT t = true) (hf : formT t = 0) (hx : x ∈ t.args) : smT x = true ∧ formT x = 0 :=
  ⟨smL_iff.1 (smT_iff.1 hs).2 x hx, formL_mem (form_spec hf).2.2 x hx⟩
theorem okB_add {B : List Tm} {x : Tm} (h : okB B) (hx : smT x = true ∧ formT x = 0) : okB (B ++ [x]) := by
  refine ⟨smL_iff.2 fun t ht => ?_, fun t ht => ?_⟩
  all_goals
    rcases List.mem_append.1 ht with ht | ht
  · exact smL_iff.1 h.1 t ht
  · rw [List.mem_singleton] at ht; rw [ht]; exact hx.1
  · exact h.2 t ht
  · rw [List.mem_singleton] at ht; rw [ht]; exact hx.2
theorem full_step {B0 B : List Tm} {k : Nat} {x : Tm} (h : FullInv B0 B k) (hn : nextT B = some x) : ∃ k', k = k' + 1 ∧ FullInv B0 (B ++ [x]) k' := by
  obtain ⟨h1, h2, h3, h4⟩ := h
  cases k with
  | zero => rw [fullF] at h3; rw [hn] at h3; cases h3
  | succ k =>
    obtain ⟨_, t, ht, hx⟩ := nextT_iff hn
    have hx := okB_arg (smL_iff.1 h2.1 t ht) (h2.2 t ht) (open_arg hx)
    rw [fullF, hn] at h3 h4
    exact ⟨k, rfl, by rw [List.length_append, List.length_singleton]; omega, okB_add h2 hx, h3, h4⟩
theorem full_done {B0 B : List Tm} {k : Nat} (h : FullInv B0 B k) (hn : nextT B = none) : fullT B0 = B := by
  obtain ⟨h1, h2, h3, h4⟩ := h
  rw [← h4]
  cases k with
  | zero => rw [fullF]
  | succ k => rw [fullF, hn]
end Go.Tm
namespace Go.Tm
open Go Go.V
theorem full_inv {B0 : List Tm} : ∀ (k : Nat) (B : List Tm), FullInv B0 B k → okB (fullF k B) ∧ (fullF k B).length ≤ 1000 := by
  intro k
  induction k with
  | zero => intro B h; rw [fullF]; exact ⟨h.2.1, by have := h.1; omega⟩
  | succ k ih =>
    intro B h
    rw [fullF]
    cases hn : nextT B with
    | none =>
      show okB B ∧ B.length ≤ 1000
      exact ⟨h.2.1, by have := h.1; omega⟩
    | some x =>
      obtain ⟨k', hk, h'⟩ := full_step h hn
      obtain rfl : k = k' := by omega
      exact ih _ h'
theorem full_ok {B : List Tm} (h : fullOk B) : okB (fullT B) ∧ (fullT B).length ≤ 1000 := full_inv _ _ (full_start h)
theorem full_closed {B : List Tm} (h : fullOk B) : ∀ t ∈ fullT B, ∀ x ∈ openT (fullT B) t, x ∈ fullT B := nextT_none.1 (full_start h).2.2.1
/-- What somebody knows, and whether it can be told. -/
noncomputable def knowsT (L : List Tm) (t : Tm) : Bool × Int := bif faultT L == 0 then (bif checkT t == 0 then (makesT (fullT L) t, 0) else (false, checkT t)) else (false, faultT L)
noncomputable def knowsS : List Tm → Tm → Bool × Int := (sealed knowsT).val
theorem knowsS_eq : knowsS = knowsT := by rw [knowsS, (sealed knowsT).property]
/-- Sizes that are not too large are what they seem. -/
theorem sizeL_ge : ∀ (es : List Tm) (d n : Int), 0 < d → d < 42 → n ≤ sizeL es d n
  | [], d, n, _, _ => by rw [sizeL]; omega
  | a :: es, d, n, h1, h2 => by
    rw [sizeL]
    cases h : ltI 300 n with
    | true => rw [cond_true]; omega
    | false =>
      rw [cond_false]
      have := (sizeT_bd a d h1 h2).1
      have := sizeL_ge es d (n + sizeT a d) h1 h2
      omega
mutual
theorem sizeT_sz : ∀ (t : Tm) (d : Int), 0 < d → d < 42 → sizeT t d ≤ 300 → sizeT t d = tmSz t
  | .mk k i o es, d, h1, h2, h => by
    rw [sizeT] at h ⊢
    cases hd : ltI 40 d with
    | true => rw [hd] at h; rw [cond_true] at h; omega
    | false =>
      rw [hd, cond_false] at h
      have h3 : ¬ 40 < d := fun e => by rw [(ltI_iff _ _).2 e] at hd; cases hd
      have := sizeL_sz es (d + 1) 1 (by omega) (by omega) (by omega) h
      rw [cond_false, this, tmSz]; omega
theorem sizeL_sz : ∀ (es : List Tm) (d n : Int), 0 < d → d < 42 → 0 ≤ n → sizeL es d n ≤ 300 → sizeL es d n = n + tmSzL es
  | [], d, n, _, _, _, _ => by rw [sizeL, tmSzL]; omega
  | a :: es, d, n, h1, h2, h0, h => by
    rw [sizeL] at h ⊢
    cases hn : ltI 300 n with
    | true =>
      have := (ltI_iff _ _).1 hn
      rw [hn, cond_true] at h; omega
    | false =>
      rw [hn, cond_false] at h
      have hge := sizeL_ge es d (n + sizeT a d) h1 h2
      have hb := (sizeT_bd a d h1 h2).1
      have := sizeT_sz a d h1 h2 (by omega)
      rw [cond_false, sizeL_sz es d _ h1 h2 (by omega) h, this, tmSzL]; omega
end
theorem szsL_sz : ∀ (L : List Tm) (n : Int), 0 ≤ n → n ≤ 300 → szsL L n = false → n + tmSzL L ≤ 300
  | [], n, _, h, _ => by rw [tmSzL]; omega
  | a :: L, n, h0, hn, h => by
    rw [szsL] at h
    cases hb : ltI 300 (n + sizeT a 1) with
    | true => rw [hb] at h; cases h
    | false =>
      rw [hb, cond_false] at h
      have h3 : ¬ 300 < n + sizeT a 1 := fun e => by rw [(ltI_iff _ _).2 e] at hb; cases hb
      have hpos := (sizeT_bd a 1 (by omega) (by omega)).1
      have := sizeT_sz a 1 (by omega) (by omega) (by omega)
      have := szsL_sz L _ (by omega) (by omega) h
      rw [tmSzL]; omega
theorem tmSzL_len : ∀ L : List Tm, L.length ≤ tmSzL L
  | [] => by rw [tmSzL]; simp
  | a :: L => by have := tmSzL_len L; have := tmSz_pos a; rw [tmSzL, List.length_cons]; omega
theorem fault_ok {L : List Tm} (hs : smL L = true) (h : faultT L = 0) : fullOk L := by
  unfold faultT at h
  cases hz : szsL L 0 with
  | true => rw [hz] at h; simp at h
  | false =>
    rw [hz] at h
    have h1 := szsL_sz L 0 (by omega) (by omega) hz
    have h2 := tmSzL_len L
    exact ⟨by omega, hs, formL_mem h⟩
end Go.Tm

/- Frames, as plain things. -/
set_option linter.unusedSimpArgs false
set_option linter.unusedVariables false
namespace Go.Frm
open Go Go.V
structure Fr where
  kind : Int
  id : Int
  body : List UInt8
  deriving DecidableEq
def fr0 : Fr := ⟨0, 0, []⟩
def Fr.cells (f : Fr) : List AV := [.int .i64 f.kind, .int .i64 f.id, .vec8 false f.body]
def frs (l : List Fr) (i : Nat) : List AV := (l.getD i fr0).cells
/-- A frame of a raw thing. -/
def frOf (r : Raw3) : Fr := ⟨1 + r.kind % 5, r.a % 256, bif 1 + r.kind % 5 == 5 then [] else r.text.take 50⟩
def fsOf (l : List Raw3) : List Fr := (l.take 8).map frOf
end Go.Frm
namespace Go.Frm
open Go Go.V
/-- What is wrong with a frame. -/
def fault (k i : Int) (b : List UInt8) : Int := if k < 1 ∨ 5 < k then 2 else if i < 0 ∨ 255 < i then 6 else if 900 < b.length then 1 else if k = 5 ∧ 0 < b.length then 3 else 0
noncomputable def faultS : Int → Int → List UInt8 → Int := (sealed fault).val
theorem faultS_eq : faultS = fault := by rw [faultS, (sealed fault).property]
def encF (k i : Int) (b : List UInt8) : List UInt8 := bif fault k i b == 0 then [UInt8.ofNat k.toNat, UInt8.ofNat i.toNat, UInt8.ofNat (b.length / 256), UInt8.ofNat b.length] ++ b else []
noncomputable def encS : Int → Int → List UInt8 → List UInt8 := (sealed encF).val
theorem encS_eq : encS = encF := by rw [encS, (sealed encF).property]
/-- Frames read off bytes: frames, what is left, and what is wrong. -/
structure Fed where
  fs : List Fr
  rest : List UInt8
  e : Int
def Fed.pre (l : List Fr) (d : Fed) : Fed := bif d.e == 0 then ⟨l ++ d.fs, d.rest, 0⟩ else d
def fd0 (e : Int) : Fed := ⟨[], [], e⟩
def lenOf (l : List UInt8) : Nat := (l.getD 2 0).toNat * 256 + (l.getD 3 0).toNat
/-- What one step comes to: an end, or a frame and the rest. -/
def fdStep (l : List UInt8) : Fed ⊕ (Fr × Nat) :=
  if l.length < 4 then .inl ⟨[], l, 0⟩
  else if fault (l.getD 0 0).toNat (l.getD 1 0).toNat [] ≠ 0 then .inl (fd0 (fault (l.getD 0 0).toNat (l.getD 1 0).toNat []))
  else if 900 < lenOf l then .inl (fd0 1)
  else if (l.getD 0 0).toNat = 5 ∧ 0 < lenOf l then .inl (fd0 3)
  else if l.length < 4 + lenOf l then .inl ⟨[], l, 0⟩
  else .inr (⟨(l.getD 0 0).toNat, (l.getD 1 0).toNat, (l.drop 4).take (lenOf l)⟩, 4 + lenOf l)
def fdN : Nat → List UInt8 → Fed
  | 0, l => ⟨[], l, 0⟩
  | n + 1, l => match fdStep l with
    | .inl d => d
    | .inr (f, k) => (fdN n (l.drop k)).pre [f]
def fdF (l : List UInt8) : Fed := fdN l.length l
noncomputable def fdS : List UInt8 → Fed := (sealed fdF).val
theorem fdS_eq : fdS = fdF := by rw [fdS, (sealed fdF).property]
def feedF (h b : List UInt8) : Fed := bif ltB 903 h.length then fd0 9 else fdF (h ++ b)
noncomputable def feedS : List UInt8 → List UInt8 → Fed := (sealed feedF).val
theorem feedS_eq : feedS = feedF := by rw [feedS, (sealed feedF).property]
end Go.Frm
namespace Go.Frm
open Go Go.V
open Classical in
/-- Raw things off rows. -/
noncomputable def rawsOf (n : Nat) (f : Nat → List AV) : List Raw3 := if h : ∃ l : List Raw3, n = l.length ∧ f = rawsF l then Classical.choose h else []
theorem rawsF_inj {l l' : List Raw3} (h1 : l.length = l'.length) (h2 : rawsF l = rawsF l') : l = l' := by
  apply List.ext_getElem h1
  intro i hi hi'
  have := congrFun h2 i
  unfold rawsF at this
  rw [List.getD_eq_getElem?_getD, List.getD_eq_getElem?_getD, List.getElem?_eq_getElem hi, List.getElem?_eq_getElem hi'] at this
  simp only [Option.getD_some, Raw3.cells, List.cons.injEq, AV.int.injEq, AV.str.injEq, true_and, and_true] at this
  obtain ⟨a, b, c, d⟩ := this
  cases h : l[i]; cases h' : l'[i]
  simp_all
theorem rawsOf_eq (l : List Raw3) : rawsOf l.length (rawsF l) = l := by
  unfold rawsOf
  have h : ∃ l' : List Raw3, l.length = l'.length ∧ rawsF l = rawsF l' := ⟨l, rfl, rfl⟩
  rw [dif_pos h]
  obtain ⟨h1, h2⟩ := Classical.choose_spec h
  exact (rawsF_inj h1 h2).symm
end Go.Frm
namespace Go.Frm
open Go Go.V
theorem fdStep_short {l : List UInt8} (h : l.length < 4) : fdStep l = .inl ⟨[], l, 0⟩ := by unfold fdStep; rw [if_pos h]
theorem fdStep_pos {l : List UInt8} {f : Fr} {k : Nat} (h : fdStep l = .inr (f, k)) : 4 ≤ k ∧ k ≤ l.length := by
  unfold fdStep at h
  repeat (split at h; · cases h)
  simp only [Sum.inr.injEq, Prod.mk.injEq] at h
  omega
theorem fdN_big : ∀ (n m : Nat) (l : List UInt8), l.length ≤ n → l.length ≤ m → fdN n l = fdN m l
  | 0, 0, _, _, _ => rfl
  | 0, m + 1, l, h, _ => by
    have : l = [] := List.eq_nil_of_length_eq_zero (by omega)
    subst this; rfl
  | n + 1, 0, l, _, h => by
    have : l = [] := List.eq_nil_of_length_eq_zero (by omega)
    subst this; rfl
  | n + 1, m + 1, l, h1, h2 => by
    unfold fdN
    split
    · rfl
    · rename_i f k hs
      have := fdStep_pos hs
      rw [fdN_big n m (l.drop k) (by rw [List.length_drop]; omega) (by rw [List.length_drop]; omega)]
theorem fdF_step (l : List UInt8) : fdF l = match fdStep l with
    | .inl d => d
    | .inr (f, k) => (fdF (l.drop k)).pre [f] := by
  show fdN l.length l = _
  rw [fdN_big l.length (l.length + 1) l (Nat.le_refl _) (by omega)]
  show (match fdStep l with | .inl d => d | .inr (f, k) => (fdN l.length (l.drop k)).pre [f]) = _
  split
  · rfl
  · rename_i f k hs
    rw [fdN_big l.length (l.drop k).length (l.drop k) (by rw [List.length_drop]; omega) (Nat.le_refl _)]; rfl
theorem pre_pre (a b : List Fr) (d : Fed) : (d.pre b).pre a = d.pre (a ++ b) := by
  unfold Fed.pre
  cases h : d.e == 0 with
  | true => simp
  | false => simp only [cond_false, h]
theorem pre_nil (d : Fed) : d.pre [] = d := by
  unfold Fed.pre
  cases h : d.e == 0 with
  | true => simp only [cond_true, List.nil_append]; have : d.e = 0 := by simpa using h
            rw [← this]
  | false => rfl
theorem or256 (x y : UInt8) : bits .or .i64 (wr .i64 (((x.toNat : Nat) : Int) * 256)) ((y.toNat : Nat) : Int) = ((x.toNat * 256 + y.toNat : Nat) : Int) := by
  have hx := x.toNat_lt; have hy := y.toNat_lt
  rw [wr_of (by omega) (by omega)]
  have h1 : (BitVec.ofInt 64 (((x.toNat : Nat) : Int) * 256)).toNat = x.toNat * 256 := by rw [BitVec.toNat_ofInt]; omega
  have h2 : (BitVec.ofInt 64 ((y.toNat : Nat) : Int)).toNat = y.toNat := by rw [BitVec.toNat_ofInt]; omega
  show IntKind.i64.wrap ((BitVec.ofInt 64 _ ||| BitVec.ofInt 64 _).toNat : Int) = _
  rw [BitVec.toNat_or, h1, h2, Nat.mul_comm, show (256 : Nat) = 2 ^ 8 from rfl, ← Nat.two_pow_add_eq_or_of_lt (by omega) x.toNat]
  rw [IntKind.wrap_i64]
  omega
end Go.Frm
namespace Go.Frm
open Go Go.V
theorem frs_app1 {a b : List Fr} {x : Nat} (h : x < a.length) : frs (a ++ b) x = frs a x := by
  unfold frs; rw [List.getD_eq_getElem?_getD, List.getD_eq_getElem?_getD, List.getElem?_append_left h]
theorem frs_app2 {a b : List Fr} {x : Nat} : frs (a ++ b) (a.length + x) = frs b x := by
  unfold frs; rw [List.getD_eq_getElem?_getD, List.getD_eq_getElem?_getD, List.getElem?_append_right (by omega), Nat.add_sub_cancel_left]
theorem frs_leR (a : List Fr) (x : Nat) : leR (frs a x) (frs a x) := leR.refl rfl
end Go.Frm
namespace Go.Frm
open Go Go.V
open Classical in
/-- Frames off rows. -/
noncomputable def frsOf (n : Nat) (f : Nat → List AV) : List Fr := if h : ∃ l : List Fr, n = l.length ∧ ∀ i, i < n → f i = frs l i then Classical.choose h else []
theorem frs_inj {l l' : List Fr} (h1 : l.length = l'.length) (h2 : ∀ i, i < l.length → frs l i = frs l' i) : l = l' := by
  apply List.ext_getElem h1
  intro i hi hi'
  have := h2 i hi
  unfold frs at this
  rw [List.getD_eq_getElem?_getD, List.getD_eq_getElem?_getD, List.getElem?_eq_getElem hi, List.getElem?_eq_getElem hi'] at this
  simp only [Option.getD_some, Fr.cells, List.cons.injEq, AV.int.injEq, AV.vec8.injEq, true_and, and_true] at this
  obtain ⟨a, b, c⟩ := this
  cases h : l[i]; cases h' : l'[i]
  simp_all
theorem frsOf_eq {n : Nat} {f : Nat → List AV} (l : List Fr) (hn : n = l.length) (hf : ∀ i, i < n → f i = frs l i) : frsOf n f = l := by
  unfold frsOf
  have h : ∃ l : List Fr, n = l.length ∧ ∀ i, i < n → f i = frs l i := ⟨l, hn, hf⟩
  rw [dif_pos h]
  obtain ⟨h1, h2⟩ := Classical.choose_spec h
  exact frs_inj (h1.symm.trans hn) fun i hi => by rw [← h2 i (by omega), hf i (by omega)]
theorem catF_frs {a b : List Fr} {n : Nat} (hn : n = a.length) {f g : Nat → List AV} (hf : ∀ i, i < n → f i = frs a i) (hg : ∀ i, i < b.length → g i = frs b i) : ∀ i, i < n + b.length → catF n f g i = frs (a ++ b) i := by
  intro i hi
  unfold catF
  subst hn
  rcases Nat.lt_or_ge i a.length with h | h
  · rw [ltB_iff.2 h, cond_true, hf i h, frs_app1 h]
  · rw [ltB_no h, cond_false, hg _ (by omega)]
    have := frs_app2 (a := a) (b := b) (x := i - a.length)
    rw [show a.length + (i - a.length) = i by omega] at this
    exact this.symm
def enc (f : Fr) : List UInt8 := encF f.kind f.id f.body
def encs (l : List Fr) (i : Nat) : List UInt8 := ((l.take i).map enc).flatten
end Go.Frm
namespace Go.Frm
open Go Go.V
noncomputable def isRawsF (n : Nat) (f : Nat → List AV) : Bool := yes (∃ l : List Raw3, n = l.length ∧ f = rawsF l)
noncomputable def isRaws : Nat → (Nat → List AV) → Bool := (sealed isRawsF).val
theorem isRaws_iff {n : Nat} {f : Nat → List AV} : isRaws n f = true ↔ ∃ l : List Raw3, n = l.length ∧ f = rawsF l := by
  rw [isRaws, (sealed isRawsF).property]; exact yes_iff
noncomputable def isFrsF (n : Nat) (f : Nat → List AV) : Bool := yes (n ≤ 1000000000 ∧ ∃ l : List Fr, n = l.length ∧ ∀ i, i < n → f i = frs l i)
noncomputable def isFrs : Nat → (Nat → List AV) → Bool := (sealed isFrsF).val
theorem isFrs_iff {n : Nat} {f : Nat → List AV} : isFrs n f = true ↔ n ≤ 1000000000 ∧ ∃ l : List Fr, n = l.length ∧ ∀ i, i < n → f i = frs l i := by
  rw [isFrs, (sealed isFrsF).property]; exact yes_iff
theorem isFrs_frs {l : List Fr} (h : l.length ≤ 1000000000) : isFrs l.length (frs l) = true := isFrs_iff.2 ⟨h, l, rfl, fun _ _ => rfl⟩
end Go.Frm

/- Terms of raw things. -/
set_option linter.unusedSimpArgs false
set_option linter.unusedVariables false
namespace Go.Tm
open Go Go.V
theorem rw_inj {l l' : List Raw3} (h1 : l.length = l'.length) (h2 : ∀ i, i < l.length → rawsF l i = rawsF l' i) : l = l' := by
  refine List.ext_getElem h1 fun i hi hi' => ?_
  have := h2 i hi
  unfold rawsF at this
  rw [List.getD_eq_getElem?_getD, List.getD_eq_getElem?_getD, List.getElem?_eq_getElem hi, List.getElem?_eq_getElem hi'] at this
  simp only [Option.getD_some, Raw3.cells, List.cons.injEq, AV.int.injEq, AV.str.injEq, true_and, and_true] at this
  obtain ⟨a1, a2, a3, a4⟩ := this
  cases hx : l[i]; cases hy : l'[i]; rw [hx, hy] at a1 a2 a3 a4; simp only at a1 a2 a3 a4; subst a1; subst a2; subst a3; subst a4; rfl
noncomputable def rwF (n : Nat) (f : Nat → List AV) : List Raw3 := @dite _ (∃ l : List Raw3, n = l.length ∧ ∀ i, i < n → f i = rawsF l i) (Classical.propDecidable _) (fun h => Classical.choose h) (fun _ => [])
noncomputable def rwOf : Nat → (Nat → List AV) → List Raw3 := (sealed rwF).val
theorem rwOf_eq {n : Nat} {f : Nat → List AV} (l : List Raw3) (hn : n = l.length) (hf : ∀ i, i < n → f i = rawsF l i) : rwOf n f = l := by
  rw [rwOf, (sealed rwF).property]
  unfold rwF
  have h : ∃ l : List Raw3, n = l.length ∧ ∀ i, i < n → f i = rawsF l i := ⟨l, hn, hf⟩
  rw [dif_pos h]
  obtain ⟨h1, h2⟩ := Classical.choose_spec h
  exact rw_inj (by omega) fun i hi => by rw [← h2 i (by omega), hf i (by omega)]
noncomputable def isRwF (n : Nat) (f : Nat → List AV) : Bool := yes (∃ l : List Raw3, n = l.length ∧ ∀ i, i < n → f i = rawsF l i)
noncomputable def isRw : Nat → (Nat → List AV) → Bool := (sealed isRwF).val
theorem isRw_iff {n : Nat} {f : Nat → List AV} : isRw n f = true ↔ ∃ l : List Raw3, n = l.length ∧ ∀ i, i < n → f i = rawsF l i := by
  rw [isRw, (sealed isRwF).property]; exact yes_iff
/-- So many terms, one behind the other. -/
def partsN (g : List Raw3 → Tm × List Raw3) : Nat → List Raw3 → List Tm × List Raw3
  | 0, l => ([], l)
  | n + 1, l => ((g l).1 :: (partsN g n (g l).2).1, (partsN g n (g l).2).2)
def termN : Nat → List Raw3 → Int → Tm × List Raw3
  | _, [], d => (.mk 1 d 0 [], [])
  | 0, _ :: l, _ => (.mk 1 0 0 [], l)
  | f + 1, r :: l, d =>
    let k := if 3 < d then r.kind % 9 % 3 else r.kind % 9
    let n := r.a % 5
    let g := fun l => termN f l (d + 1)
    if k = 0 then (.mk 2 n 0 [], l)
    else if k = 1 then (.mk 3 (min n (r.b % 5)) (max n (r.b % 5)) [], l)
    else if k = 3 then (.mk 4 0 0 (partsN g 2 l).1, (partsN g 2 l).2)
    else if k = 4 then (.mk 5 0 0 (partsN g 1 l).1, (partsN g 1 l).2)
    else if k = 5 then (.mk 6 (r.b % 3) 0 (partsN g 2 l).1, (partsN g 2 l).2)
    else if k = 6 ∨ k = 7 then (.mk 7 0 0 (partsN g 3 l).1, (partsN g 3 l).2)
    else (.mk 1 n 0 [], l)
def termF (l : List Raw3) (d : Int) : Tm × List Raw3 := termN l.length l d
noncomputable def termS : List Raw3 → Int → Tm × List Raw3 := (sealed termF).val
theorem termS_eq : termS = termF := by rw [termS, (sealed termF).property]
end Go.Tm
namespace Go.Tm
open Go Go.V
def stepT (r : Raw3) (l : List Raw3) (d : Int) (g : List Raw3 → Tm × List Raw3) : Tm × List Raw3 :=
  let k := if 3 < d then r.kind % 9 % 3 else r.kind % 9
  let n := r.a % 5
  if k = 0 then (.mk 2 n 0 [], l)
  else if k = 1 then (.mk 3 (min n (r.b % 5)) (max n (r.b % 5)) [], l)
  else if k = 3 then (.mk 4 0 0 (partsN g 2 l).1, (partsN g 2 l).2)
  else if k = 4 then (.mk 5 0 0 (partsN g 1 l).1, (partsN g 1 l).2)
  else if k = 5 then (.mk 6 (r.b % 3) 0 (partsN g 2 l).1, (partsN g 2 l).2)
  else if k = 6 ∨ k = 7 then (.mk 7 0 0 (partsN g 3 l).1, (partsN g 3 l).2)
  else (.mk 1 n 0 [], l)
theorem termN_step (f : Nat) (r : Raw3) (l : List Raw3) (d : Int) : termN (f + 1) (r :: l) d = stepT r l d (fun m => termN f m (d + 1)) := rfl
theorem termN_nil (f : Nat) (d : Int) : termN f [] d = (.mk 1 d 0 [], []) := by cases f <;> rfl
theorem partsN_shrink {g : List Raw3 → Tm × List Raw3} : ∀ (n : Nat) (l : List Raw3), (∀ m, m.length ≤ l.length → (g m).2.length ≤ m.length) → (partsN g n l).2.length ≤ l.length
  | 0, l, _ => Nat.le_refl _
  | n + 1, l, h => by
    rw [partsN]
    have h1 := h l (Nat.le_refl _)
    have := partsN_shrink n (g l).2 fun m hm => h m (by omega)
    exact Nat.le_trans this h1
theorem partsN_congr {g g' : List Raw3 → Tm × List Raw3} : ∀ (n : Nat) (l : List Raw3), (∀ m, m.length ≤ l.length → g m = g' m) → (∀ m, m.length ≤ l.length → (g' m).2.length ≤ m.length) → partsN g n l = partsN g' n l
  | 0, l, _, _ => rfl
  | n + 1, l, h, hs => by
    rw [partsN, partsN, h l (Nat.le_refl _)]
    have h1 := hs l (Nat.le_refl _)
    rw [partsN_congr n (g' l).2 (fun m hm => h m (by omega)) fun m hm => hs m (by omega)]
theorem partsN_len {g : List Raw3 → Tm × List Raw3} : ∀ (n : Nat) (l : List Raw3), (partsN g n l).1.length = n
  | 0, l => rfl
  | n + 1, l => by rw [partsN, List.length_cons, partsN_len n]
theorem stepT_shrink {r : Raw3} {l : List Raw3} {d : Int} {g : List Raw3 → Tm × List Raw3} (h : ∀ m, m.length ≤ l.length → (g m).2.length ≤ m.length) : (stepT r l d g).2.length ≤ l.length := by
  unfold stepT
  have p := fun n => partsN_shrink n l h
  dsimp only
  repeat' split
  all_goals first | exact Nat.le_refl _ | exact p _
theorem stepT_congr {r : Raw3} {l : List Raw3} {d : Int} {g g' : List Raw3 → Tm × List Raw3} (h : ∀ m, m.length ≤ l.length → g m = g' m) (hs : ∀ m, m.length ≤ l.length → (g' m).2.length ≤ m.length) : stepT r l d g = stepT r l d g' := by
  unfold stepT
  rw [partsN_congr 1 l h hs, partsN_congr 2 l h hs, partsN_congr 3 l h hs]
theorem termN_shrink : ∀ (n : Nat) (m : List Raw3), m.length ≤ n → ∀ f d, (termN f m d).2.length ≤ m.length := by
  intro n
  induction n with
  | zero =>
    intro m hm f d
    obtain rfl : m = [] := List.eq_nil_of_length_eq_zero (by omega)
    rw [termN_nil]; exact Nat.le_refl _
  | succ n ih =>
    intro m hm f d
    cases m with
    | nil => rw [termN_nil]; exact Nat.le_refl _
    | cons r l =>
      cases f with
      | zero => simp [termN]
      | succ f =>
        rw [termN_step]
        have := stepT_shrink (r := r) (d := d) (g := fun m => termN f m (d + 1)) (l := l) fun m hm' => ih m (by simp at hm; omega) f (d + 1)
        rw [List.length_cons]; omega
theorem termN_fuel : ∀ (n : Nat) (m : List Raw3), m.length ≤ n → ∀ f d, m.length ≤ f → termN f m d = termN m.length m d := by
  intro n
  induction n with
  | zero =>
    intro m hm f d _
    obtain rfl : m = [] := List.eq_nil_of_length_eq_zero (by omega)
    rw [termN_nil, termN_nil]
  | succ n ih =>
    intro m hm f d hf
    cases m with
    | nil => rw [termN_nil, termN_nil]
    | cons r l =>
      rw [List.length_cons] at hm hf
      cases f with
      | zero => omega
      | succ f =>
        rw [List.length_cons, termN_step, termN_step]
        refine stepT_congr (fun m hm' => ?_) fun m hm' => termN_shrink _ m (Nat.le_refl _) _ _
        rw [ih m (by omega) f (d + 1) (by omega), ih m (by omega) l.length (d + 1) hm']
theorem termF_nil (d : Int) : termF [] d = (.mk 1 d 0 [], []) := rfl
theorem termF_cons (r : Raw3) (l : List Raw3) (d : Int) : termF (r :: l) d = stepT r l d (fun m => termF m (d + 1)) := by
  unfold termF
  rw [List.length_cons, termN_step]
  exact stepT_congr (fun m hm => termN_fuel _ m (Nat.le_refl _) _ _ hm) fun m hm => termN_shrink _ m (Nat.le_refl _) _ _
theorem termF_shrink (l : List Raw3) (d : Int) : (termF l d).2.length ≤ l.length := termN_shrink _ l (Nat.le_refl _) _ _
theorem termF_less (r : Raw3) (l : List Raw3) (d : Int) : (termF (r :: l) d).2.length ≤ l.length := by
  rw [termF_cons]; exact stepT_shrink fun m _ => termF_shrink m (d + 1)
/-- What holds of all terms that are made. -/
theorem partsN_all {P : Tm → Prop} {g : List Raw3 → Tm × List Raw3} : ∀ (n : Nat) (l : List Raw3), (∀ m, m.length ≤ l.length → P (g m).1 ∧ (g m).2.length ≤ m.length) → ∀ t ∈ (partsN g n l).1, P t
  | 0, l, _, t, ht => by simp [partsN] at ht
  | n + 1, l, h, t, ht => by
    rw [partsN] at ht
    have h1 := h l (Nat.le_refl _)
    rcases List.mem_cons.1 ht with rfl | ht
    · exact h1.1
    · exact partsN_all n (g l).2 (fun m hm => h m (by omega)) t ht
theorem smT_mk {k i o : Int} {es : List Tm} (hl : es.length ≤ 1000) (h : ∀ t ∈ es, smT t = true) : smT (.mk k i o es) = true := smT_iff.2 ⟨hl, smL_iff.2 h⟩
theorem termF_sm : ∀ (n : Nat) (l : List Raw3), l.length ≤ n → ∀ d, smT (termF l d).1 = true := by
  intro n
  induction n with
  | zero =>
    intro l hl d
    obtain rfl : l = [] := List.eq_nil_of_length_eq_zero (by omega)
    rfl
  | succ n ih =>
    intro l hl d
    cases l with
    | nil => rfl
    | cons r l =>
      rw [List.length_cons] at hl
      rw [termF_cons]
      have hp := fun k => partsN_all (P := fun t => smT t = true) (g := fun m => termF m (d + 1)) k l fun m hm => ⟨ih m (by omega) (d + 1), termF_shrink m (d + 1)⟩
      have hn := fun k => partsN_len (g := fun m => termF m (d + 1)) k l
      unfold stepT
      dsimp only
      repeat' split
      all_goals first | rfl | exact smT_mk (by rw [hn]; omega) (hp _)
end Go.Tm
namespace Go.Tm
open Go Go.V
def termsN : Nat → List Raw3 → List Tm
  | 0, _ => []
  | _ + 1, [] => []
  | n + 1, r :: l => (termF (r :: l) 0).1 :: termsN n (termF (r :: l) 0).2
def termsT (l : List Raw3) (n : Nat) : List Tm := termsN n (l.take 24)
noncomputable def termsS : List Raw3 → Nat → List Tm := (sealed termsT).val
theorem termsS_eq : termsS = termsT := by rw [termsS, (sealed termsT).property]
theorem termsN_len : ∀ (n : Nat) (l : List Raw3), (termsN n l).length ≤ n
  | 0, _ => by simp [termsN]
  | n + 1, [] => by simp [termsN]
  | n + 1, r :: l => by
    have := termsN_len n (termF (r :: l) 0).2
    rw [termsN, List.length_cons]; omega
theorem termsN_sm : ∀ (n : Nat) (l : List Raw3), smL (termsN n l) = true
  | 0, _ => rfl
  | n + 1, [] => rfl
  | n + 1, r :: l => by
    rw [termsN, smL, termF_sm _ _ (Nat.le_refl _), termsN_sm n]; rfl
end Go.Tm

/- Who knows what: the plain laws. -/
set_option linter.unusedSimpArgs false
set_option linter.unusedVariables false
namespace Go.Tm
open Go Go.V
mutual
def dpT : Tm → Nat
  | .mk _ _ _ es => 1 + dpL es
def dpL : List Tm → Nat
  | [] => 0
  | a :: es => max (dpT a) (dpL es)
end
theorem dpL_le {es : List Tm} {n : Nat} : dpL es ≤ n ↔ ∀ t ∈ es, dpT t ≤ n := by
  induction es with
  | nil => simp [dpL]
  | cons a es ih => rw [dpL, Nat.max_le, ih]; simp
mutual
theorem sizeT_ex : ∀ (t : Tm) (d : Int), 0 < d → (dpT t : Int) + d ≤ 41 → tmSz t ≤ 300 → sizeT t d = tmSz t
  | .mk k i o es, d, h1, h2, h3 => by
    rw [dpT] at h2
    rw [tmSz] at h3 ⊢
    rw [sizeT]
    cases hd : ltI 40 d with
    | true => have := (ltI_iff _ _).1 hd; omega
    | false =>
      rw [cond_false, sizeL_ex es (d + 1) 1 (by omega) (by omega) (by omega) (by omega)]; omega
theorem sizeL_ex : ∀ (es : List Tm) (d n : Int), 0 < d → 0 ≤ n → (dpL es : Int) + d ≤ 41 → n + tmSzL es ≤ 300 → sizeL es d n = n + tmSzL es
  | [], d, n, _, _, _, _ => by rw [sizeL, tmSzL]; omega
  | a :: es, d, n, h1, h0, h2, h3 => by
    rw [dpL] at h2
    rw [tmSzL] at h3 ⊢
    rw [sizeL]
    have hpos := tmSz_pos a
    cases hn : ltI 300 n with
    | true => have := (ltI_iff _ _).1 hn; omega
    | false =>
      rw [cond_false, sizeT_ex a d h1 (by omega) (by omega), sizeL_ex es d _ h1 (by omega) (by omega) (by omega)]; omega
end
/-- Terms that may be told. -/
def good (t : Tm) : Prop := formT t = 0 ∧ dpT t ≤ 20 ∧ smT t = true
theorem check_good {t : Tm} (h : good t) (hs : tmSz t ≤ 300) : checkT t = 0 := by
  unfold checkT
  have h2 := h.2.1
  rw [sizeT_ex t 1 (by omega) (by omega) hs]
  have : ltI 300 (tmSz t : Int) = false := by
    cases hb : ltI 300 (tmSz t : Int) with
    | false => rfl
    | true => have := (ltI_iff _ _).1 hb; omega
  rw [this, cond_false]; exact h.1
theorem szsL_good : ∀ (L : List Tm) (n : Int), 0 ≤ n → (∀ t ∈ L, good t) → n + tmSzL L ≤ 300 → szsL L n = false
  | [], _, _, _, _ => by rw [szsL]
  | a :: L, n, h0, h, hs => by
    rw [tmSzL] at hs
    have ha := h a (List.mem_cons_self ..)
    have h2 := ha.2.1
    rw [szsL, sizeT_ex a 1 (by omega) (by omega) (by omega)]
    have : ltI 300 (n + (tmSz a : Int)) = false := by
      cases hb : ltI 300 (n + (tmSz a : Int)) with
      | false => rfl
      | true => have := (ltI_iff _ _).1 hb; omega
    rw [this, cond_false]
    exact szsL_good L _ (by omega) (fun t ht => h t (List.mem_cons_of_mem _ ht)) (by omega)
theorem formL_good : ∀ (L : List Tm), (∀ t ∈ L, formT t = 0) → formL L = 0
  | [], _ => by rw [formL]
  | a :: L, h => by
    rw [formL, if_pos (h a (List.mem_cons_self ..))]
    exact formL_good L fun t ht => h t (List.mem_cons_of_mem _ ht)
theorem fault_good {L : List Tm} (h : ∀ t ∈ L, good t) (hs : tmSzL L ≤ 300) : faultT L = 0 := by
  unfold faultT
  rw [szsL_good L 0 (by omega) h (by omega), cond_false]
  exact formL_good L fun t ht => (h t ht).1
theorem knows_good {L : List Tm} {t : Tm} (hL : ∀ t ∈ L, good t) (hLs : tmSzL L ≤ 300) (ht : good t) (hts : tmSz t ≤ 300) : knowsT L t = (makesT (fullT L) t, 0) ∧ fullOk L := by
  unfold knowsT
  rw [fault_good hL hLs, check_good ht hts]
  exact ⟨rfl, fault_ok (smL_iff.2 fun t ht => (hL t ht).2.2) (fault_good hL hLs)⟩
theorem form_mk {k i o : Int} {es : List Tm} (hk : 1 ≤ k ∧ k ≤ 7) (h : okF k i o es.length = true) (hes : ∀ t ∈ es, formT t = 0) : formT (.mk k i o es) = 0 := by
  rw [formT, if_neg (by omega), h, cond_true]
  exact formL_good es hes
theorem wr0 : wr .i64 0 = 0 := wr_of (by omega) (by omega)
theorem ok_pair (es : List Tm) (h : es.length = 2) : okF 4 0 0 es.length = true := by rw [h]; simp [okF, argsN, wr0]
theorem ok_sum (es : List Tm) (h : es.length = 1) : okF 5 0 0 es.length = true := by rw [h]; simp [okF, argsN, wr0]
theorem ok_kdf (i : Int) (hi : 0 ≤ i) (es : List Tm) (h : es.length = 2) : okF 6 i 0 es.length = true := by rw [h]; simp [okF, argsN, hi]
theorem ok_lock (es : List Tm) (h : es.length = 3) : okF 7 0 0 es.length = true := by rw [h]; simp [okF, argsN, wr0]
theorem form_atom {i : Int} (h : 0 ≤ i) : formT (.mk 1 i 0 []) = 0 := form_mk (by omega) (by simp [okF, argsN, h]) (by simp)
theorem form_pub {i : Int} (h : 0 ≤ i) : formT (.mk 2 i 0 []) = 0 := form_mk (by omega) (by simp [okF, argsN, h]) (by simp)
theorem form_dh {i o : Int} (h : 0 ≤ i) (h2 : i ≤ o) : formT (.mk 3 i o []) = 0 := form_mk (by omega) (by simp [okF, argsN, h, h2]; omega) (by simp)
theorem partsN_size {g : List Raw3 → Tm × List Raw3} : ∀ (n : Nat) (l : List Raw3), (∀ m, m.length ≤ l.length → tmSz (g m).1 + 3 * (g m).2.length ≤ 1 + 3 * m.length ∧ (g m).2.length ≤ m.length) → tmSzL (partsN g n l).1 + 3 * (partsN g n l).2.length ≤ n + 3 * l.length
  | 0, l, _ => by simp [partsN, tmSzL]
  | n + 1, l, h => by
    rw [partsN, tmSzL]
    have h1 := h l (Nat.le_refl _)
    have := partsN_size n (g l).2 fun m hm => h m (by omega)
    dsimp only
    omega
theorem termF_size : ∀ (n : Nat) (l : List Raw3), l.length ≤ n → ∀ d, tmSz (termF l d).1 + 3 * (termF l d).2.length ≤ 1 + 3 * l.length := by
  intro n
  induction n with
  | zero =>
    intro l hl d
    obtain rfl : l = [] := List.eq_nil_of_length_eq_zero (by omega)
    rw [termF_nil]; simp [tmSz, tmSzL]
  | succ n ih =>
    intro l hl d
    cases l with
    | nil => rw [termF_nil]; simp [tmSz, tmSzL]
    | cons r l =>
      rw [List.length_cons] at hl ⊢
      rw [termF_cons]
      have hp := fun k => partsN_size (g := fun m => termF m (d + 1)) k l fun m hm => ⟨ih m (by omega) (d + 1), termF_shrink m (d + 1)⟩
      have p1 := hp 1; have p2 := hp 2; have p3 := hp 3
      unfold stepT
      dsimp only
      repeat' split
      all_goals (simp only [tmSz, tmSzL]; omega)
theorem termF_form : ∀ (n : Nat) (l : List Raw3), l.length ≤ n → ∀ d, 0 ≤ d → d ≤ 5 → formT (termF l d).1 = 0 ∧ (dpT (termF l d).1 : Int) ≤ 6 - d := by
  intro n
  induction n with
  | zero =>
    intro l hl d h0 h5
    obtain rfl : l = [] := List.eq_nil_of_length_eq_zero (by omega)
    rw [termF_nil]; exact ⟨form_atom h0, by simp [dpT, dpL]; omega⟩
  | succ n ih =>
    intro l hl d h0 h5
    cases l with
    | nil => rw [termF_nil]; exact ⟨form_atom h0, by simp [dpT, dpL]; omega⟩
    | cons r l =>
      rw [List.length_cons] at hl
      rw [termF_cons]
      have ha := Int.emod_nonneg r.a (show (5 : Int) ≠ 0 by decide)
      have hb := Int.emod_nonneg r.b (show (5 : Int) ≠ 0 by decide)
      have hb3 := Int.emod_nonneg r.b (show (3 : Int) ≠ 0 by decide)
      have hk9 := Int.emod_nonneg r.kind (show (9 : Int) ≠ 0 by decide)
      have hk3 := Int.emod_lt_of_pos (r.kind % 9) (show (0 : Int) < 3 by decide)
      have hn := fun k => partsN_len (g := fun m => termF m (d + 1)) k l
      have leaf : ∀ k i o, (dpT (.mk k i o []) : Int) ≤ 6 - d := fun k i o => by simp [dpT, dpL]; omega
      by_cases h3 : 3 < d
      · unfold stepT
        rw [if_pos h3]
        dsimp only
        generalize r.kind % 9 % 3 = k at *
        rw [if_neg (show ¬ k = 3 by omega), if_neg (show ¬ k = 4 by omega), if_neg (show ¬ k = 5 by omega), if_neg (show ¬ (k = 6 ∨ k = 7) by omega)]
        repeat' split
        · exact ⟨form_pub ha, leaf _ _ _⟩
        · exact ⟨form_dh (by omega) (by omega), leaf _ _ _⟩
        · exact ⟨form_atom ha, leaf _ _ _⟩
      · have hp := fun k => partsN_all (P := fun t => formT t = 0 ∧ (dpT t : Int) ≤ 5 - d) (g := fun m => termF m (d + 1)) k l fun m hm => ⟨by
          have := ih m (by omega) (d + 1) (by omega) (by omega)
          exact ⟨this.1, by omega⟩, termF_shrink m (d + 1)⟩
        have dp : ∀ k i o n, (dpT (.mk k i o (partsN (fun m => termF m (d + 1)) n l).1) : Int) ≤ 6 - d := fun k i o n => by
          rw [dpT]
          have : dpL (partsN (fun m => termF m (d + 1)) n l).1 ≤ (5 - d).toNat := dpL_le.2 fun t ht => by
            have := (hp n t ht).2; omega
          omega
        have fm := fun n => fun t ht => (hp n t ht).1
        unfold stepT
        rw [if_neg h3]
        dsimp only
        repeat' split
        · exact ⟨form_pub ha, leaf _ _ _⟩
        · exact ⟨form_dh (by omega) (by omega), leaf _ _ _⟩
        · exact ⟨form_mk (by omega) (ok_pair _ (hn 2)) (fm 2), dp _ _ _ 2⟩
        · exact ⟨form_mk (by omega) (ok_sum _ (hn 1)) (fm 1), dp _ _ _ 1⟩
        · exact ⟨form_mk (by omega) (ok_kdf _ hb3 _ (hn 2)) (fm 2), dp _ _ _ 2⟩
        · exact ⟨form_mk (by omega) (ok_lock _ (hn 3)) (fm 3), dp _ _ _ 3⟩
        · exact ⟨form_atom ha, leaf _ _ _⟩
theorem termF_good (l : List Raw3) : good (termF l 0).1 := by
  have h := termF_form _ l (Nat.le_refl _) 0 (by omega) (by omega)
  exact ⟨h.1, by omega, termF_sm _ l (Nat.le_refl _) 0⟩
theorem termsN_good : ∀ (n : Nat) (l : List Raw3), (∀ t ∈ termsN n l, good t) ∧ tmSzL (termsN n l) ≤ 4 * l.length
  | 0, l => by simp [termsN, tmSzL]
  | n + 1, [] => by simp [termsN, tmSzL]
  | n + 1, r :: l => by
    obtain ⟨h1, h2⟩ := termsN_good n (termF (r :: l) 0).2
    have hs := termF_size _ (r :: l) (Nat.le_refl _) 0
    have hl := termF_less r l 0
    rw [List.length_cons] at hs ⊢
    refine ⟨fun t ht => ?_, ?_⟩
    · rw [termsN] at ht
      rcases List.mem_cons.1 ht with rfl | ht
      · exact termF_good _
      · exact h1 t ht
    · rw [termsN, tmSzL]; omega
end Go.Tm

/- Who knows what: the laws of knowing. -/
set_option linter.unusedSimpArgs false
set_option linter.unusedVariables false
namespace Go.Tm
open Go Go.V
theorem has_iff {B : List Tm} {t : Tm} : hasT B t = true ↔ t ∈ B := yes_iff
theorem makesT_eq (B : List Tm) (t : Tm) : makesT B t = (hasT B t || (if t.kind = 1 then false else if t.kind = 2 then hasT B (atomT t.id) else if t.kind = 3 then (hasT B (atomT t.id) && pubK B t.other) || (hasT B (atomT t.other) && pubK B t.id) else makesL B t.args)) := by
  conv => lhs; rw [tm_eta t]
  rw [makesT, ← tm_eta t]
theorem makesL_all {B : List Tm} : ∀ {es : List Tm}, makesL B es = true ↔ ∀ t ∈ es, makesT B t = true
  | [] => by simp [makesL]
  | a :: es => by rw [makesL, Bool.and_eq_true, makesL_all]; simp
theorem makes_has {B : List Tm} {t : Tm} (h : t ∈ B) : makesT B t = true := by rw [makesT_eq, has_iff.2 h]; rfl
theorem makes_atom {B : List Tm} {n : Int} : makesT B (atomT n) = true ↔ atomT n ∈ B := by
  rw [makesT_eq, Bool.or_eq_true, has_iff]
  simp [atomT, Tm.kind]
/-- All of one bag can be made by another one. -/
def Sub (C B : List Tm) : Prop := ∀ x ∈ C, makesT B x = true
theorem sub_atom {C B : List Tm} (h : Sub C B) {n : Int} (ha : hasT C (atomT n) = true) : hasT B (atomT n) = true :=
  has_iff.2 (makes_atom.1 (h _ (has_iff.1 ha)))
theorem sub_pub {C B : List Tm} (h : Sub C B) {n : Int} (ha : pubK C n = true) : pubK B n = true := by
  unfold pubK at ha ⊢
  rw [Bool.or_eq_true] at ha ⊢
  rcases ha with ha | ha
  · exact .inl (sub_atom h ha)
  · have := h _ (has_iff.1 ha)
    rw [makesT_eq, Bool.or_eq_true] at this
    rcases this with this | this
    · exact .inr this
    · simp [pubT, Tm.kind, Tm.id] at this
      exact .inl this
mutual
theorem makes_sub {C B : List Tm} (h : Sub C B) : ∀ t : Tm, makesT C t = true → makesT B t = true
  | .mk k i o es, ht => by
    rw [makesT] at ht
    rw [Bool.or_eq_true] at ht
    rcases ht with ht | ht
    · exact h _ (has_iff.1 ht)
    · rw [makesT, Bool.or_eq_true]
      right
      by_cases h1 : k = 1
      · rw [if_pos h1] at ht; cases ht
      rw [if_neg h1] at ht ⊢
      by_cases h2 : k = 2
      · rw [if_pos h2] at ht ⊢; exact sub_atom h ht
      rw [if_neg h2] at ht ⊢
      by_cases h3 : k = 3
      · rw [if_pos h3] at ht ⊢
        rw [Bool.or_eq_true, Bool.and_eq_true, Bool.and_eq_true] at ht ⊢
        exact ht.imp (fun x => ⟨sub_atom h x.1, sub_pub h x.2⟩) fun x => ⟨sub_atom h x.1, sub_pub h x.2⟩
      rw [if_neg h3] at ht ⊢
      exact makesL_sub h es ht
theorem makesL_sub {C B : List Tm} (h : Sub C B) : ∀ es : List Tm, makesL C es = true → makesL B es = true
  | [], _ => by rw [makesL]
  | a :: es, ht => by
    rw [makesL, Bool.and_eq_true] at ht ⊢
    exact ⟨makes_sub h a ht.1, makesL_sub h es ht.2⟩
end
def Closed (B : List Tm) : Prop := ∀ t ∈ B, ∀ x ∈ openT B t, x ∈ B
theorem makes_args {B : List Tm} {t : Tm} (hm : makesT B t = true) (hk : ¬ t.kind = 1 ∧ ¬ t.kind = 2 ∧ ¬ t.kind = 3) : t ∈ B ∨ ∀ x ∈ t.args, makesT B x = true := by
  rw [makesT_eq, Bool.or_eq_true, if_neg hk.1, if_neg hk.2.1, if_neg hk.2.2] at hm
  exact hm.imp has_iff.1 makesL_all.1
theorem open_sub {C B : List Tm} (hB : Closed B) (h : Sub C B) {t x : Tm} (ht : makesT B t = true) (hx : x ∈ openT C t) : makesT B x = true := by
  by_cases h4 : t.kind = 4
  · rcases makes_args ht (by omega) with hb | hb
    · refine makes_has (hB t hb x ?_)
      unfold openT at hx ⊢
      rw [if_pos h4] at hx ⊢; exact hx
    · exact hb x (open_arg hx)
  · by_cases h7 : t.kind = 7 ∧ makesT C (t.args.getD 0 tm0) = true
    · rcases makes_args ht (by omega) with hb | hb
      · refine makes_has (hB t hb x ?_)
        unfold openT at hx ⊢
        rw [if_neg h4, if_pos h7] at hx
        rw [if_neg h4, if_pos ⟨h7.1, makes_sub h _ h7.2⟩]; exact hx
      · exact hb x (open_arg hx)
    · unfold openT at hx
      rw [if_neg h4, if_neg h7] at hx
      simp at hx
theorem full_sub {B : List Tm} (hB : Closed B) : ∀ (k : Nat) (C : List Tm), Sub C B → Sub (fullF k C) B := by
  intro k
  induction k with
  | zero => intro C h; rw [fullF]; exact h
  | succ k ih =>
    intro C h
    rw [fullF]
    cases hn : nextT C with
    | none => exact h
    | some x =>
      refine ih _ fun y hy => ?_
      rcases List.mem_append.1 hy with hy | hy
      · exact h y hy
      · rw [List.mem_singleton] at hy
        rw [hy]
        obtain ⟨_, t, ht, hx⟩ := nextT_iff hn
        exact open_sub hB h (h t ht) hx
theorem full_has : ∀ (k : Nat) (C : List Tm), ∀ x ∈ C, x ∈ fullF k C := by
  intro k
  induction k with
  | zero => intro C x h; rw [fullF]; exact h
  | succ k ih =>
    intro C x h
    rw [fullF]
    cases hn : nextT C with
    | none => exact h
    | some y => exact ih _ x (List.mem_append_left _ h)
/-- What can be made of what is known, if all that is known can be made. -/
theorem knows_sub {C L : List Tm} (hL : fullOk L) (h : Sub C (fullT L)) {t : Tm} (ht : makesT (fullT C) t = true) : makesT (fullT L) t = true :=
  makes_sub (full_sub (full_closed hL) _ C h) t ht
theorem knows_more {C L : List Tm} (hL : fullOk L) (h : ∀ x ∈ C, x ∈ L) {t : Tm} (ht : makesT (fullT C) t = true) : makesT (fullT L) t = true :=
  knows_sub hL (fun x hx => makes_has (full_has _ L x (h x hx))) ht
theorem knows_all {L : List Tm} (hL : fullOk L) {t u : Tm} (hL2 : fullOk (L ++ [t])) (ht : makesT (fullT L) t = true) : makesT (fullT L) u = makesT (fullT (L ++ [t])) u := by
  cases h1 : makesT (fullT L) u with
  | true => exact (knows_more hL2 (fun x hx => List.mem_append_left _ hx) h1).symm
  | false =>
    cases h2 : makesT (fullT (L ++ [t])) u with
    | false => rfl
    | true =>
      rw [knows_sub hL (fun x hx => ?_) h2] at h1
      · cases h1
      · rcases List.mem_append.1 hx with hx | hx
        · exact makes_has (full_has _ L x hx)
        · rw [List.mem_singleton] at hx; rw [hx]; exact ht
theorem knows_pair {L : List Tm} (hL : fullOk L) {t u : Tm} : makesT (fullT L) (.mk 4 0 0 [t, u]) = (makesT (fullT L) t && makesT (fullT L) u) := by
  have hc := full_closed hL
  cases h : makesT (fullT L) t && makesT (fullT L) u with
  | true =>
    rw [Bool.and_eq_true] at h
    rw [makesT_eq, Bool.or_eq_true]
    right
    simp only [Tm.kind, Tm.args]
    show makesL _ _ = true
    exact makesL_all.2 (by simp [h.1, h.2])
  | false =>
    cases hp : makesT (fullT L) (.mk 4 0 0 [t, u]) with
    | false => rfl
    | true =>
      have : ∀ x ∈ [t, u], makesT (fullT L) x = true := by
        rcases makes_args hp (by simp [Tm.kind]) with hb | hb
        · intro x hx
          refine makes_has (hc _ hb x ?_)
          have e : openT (fullT L) (.mk 4 0 0 [t, u]) = [t, u] := by simp [openT, Tm.kind, Tm.args]
          rw [e]; exact hx
        · exact hb
      rw [this t (by simp), this u (by simp)] at h
      cases h
theorem knows_dh {B : List Tm} {m n : Int} (hs : makesT B (atomT m) = true) (hv : makesT B (pubT n) = true) : makesT B (.mk 3 (min m n) (max m n) []) = true := by
  have h1 : hasT B (atomT m) = true := has_iff.2 (makes_atom.1 hs)
  have h2 : pubK B n = true := by
    rw [makesT_eq, Bool.or_eq_true] at hv
    unfold pubK
    rw [Bool.or_eq_true]
    rcases hv with hv | hv
    · exact .inr hv
    · simp [pubT, Tm.kind, Tm.id] at hv
      exact .inl hv
  rw [makesT_eq, Bool.or_eq_true]
  right
  simp only [Tm.kind, Tm.id, Tm.other]
  rcases Int.le_total m n with h | h
  · rw [Int.min_eq_left h, Int.max_eq_right h, h1, h2]; rfl
  · rw [Int.min_eq_right h, Int.max_eq_left h, h1, h2]; simp
/-- One atom tells itself alone. -/
theorem full_atom {i : Int} : fullT [atomT i] = [atomT i] := by
  have hn : nextT [atomT i] = none := nextT_none.2 fun t ht x hx => by
    rw [List.mem_singleton] at ht
    subst ht
    simp [openT, atomT, Tm.kind] at hx
  have e : tmSzL [atomT i] = 1 := by simp [tmSzL, tmSz, atomT]
  unfold fullT
  rw [e, fullF, hn]
theorem good_atom {i : Int} (h : 0 ≤ i) : good (atomT i) ∧ tmSz (atomT i) = 1 := ⟨⟨form_atom h, by simp [atomT, dpT, dpL], rfl⟩, by simp [atomT, tmSz, tmSzL]⟩
theorem tells_yes : knowsT [atomT 1] (atomT 1) = (true, 0) := by
  obtain ⟨h1, h2⟩ := good_atom (i := 1) (by decide)
  rw [(knows_good (L := [atomT 1]) (t := atomT 1) (by simpa using h1) (by simp [tmSzL, h2]) h1 (by omega)).1, full_atom, makes_has (List.mem_singleton.2 rfl)]
theorem tells_no : knowsT [atomT 1] (atomT 2) = (false, 0) := by
  obtain ⟨h1, h2⟩ := good_atom (i := 1) (by decide)
  obtain ⟨h3, h4⟩ := good_atom (i := 2) (by decide)
  rw [(knows_good (L := [atomT 1]) (t := atomT 2) (by simpa using h1) (by simp [tmSzL, h2]) h3 (by omega)).1, full_atom]
  have : makesT [atomT 1] (atomT 2) = false := by
    cases hb : makesT [atomT 1] (atomT 2) with
    | false => rfl
    | true =>
      have := makes_atom.1 hb
      rw [List.mem_singleton] at this
      simp [atomT] at this
  rw [this]
theorem tmSzL_append (a b : List Tm) : tmSzL (a ++ b) = tmSzL a + tmSzL b := by
  induction a with
  | nil => simp [tmSzL]
  | cons x a ih => rw [List.cons_append, tmSzL, tmSzL, ih]; omega
theorem terms_good (l : List Raw3) (n : Nat) : (∀ t ∈ termsT l n, good t) ∧ tmSzL (termsT l n) ≤ 96 ∧ (termsT l n).length ≤ n := by
  unfold termsT
  have h := termsN_good n (l.take 24)
  have : (l.take 24).length ≤ 24 := by rw [List.length_take]; omega
  exact ⟨h.1, by have := h.2; omega, termsN_len n _⟩
theorem term_good (x : List Raw3) : good (termF (x.take 6) 0).1 ∧ tmSz (termF (x.take 6) 0).1 ≤ 19 := by
  have h := termF_size _ (x.take 6) (Nat.le_refl _) 0
  have : (x.take 6).length ≤ 6 := by rw [List.length_take]; omega
  exact ⟨termF_good _, by omega⟩
end Go.Tm

/- What is locked. -/
set_option linter.unusedSimpArgs false
set_option linter.unusedVariables false
namespace Go.Tm
open Go Go.V
mutual
/-- The secret stands nowhere in it. -/
def cl : Tm → Bool
  | .mk k i _ es => !(k == 1 && i == 99) && clL es
def clL : List Tm → Bool
  | [] => true
  | a :: es => cl a && clL es
end
theorem clL_iff {es : List Tm} : clL es = true ↔ ∀ t ∈ es, cl t = true := by
  induction es with
  | nil => simp [clL]
  | cons a es ih => simp [clL, ih]
theorem cl_arg {t x : Tm} (h : cl t = true) (hx : x ∈ t.args) : cl x = true := by
  cases t with
  | mk k i o es =>
    rw [cl, Bool.and_eq_true] at h
    exact clL_iff.1 h.2 x hx
theorem cl_mk {k i o : Int} {es : List Tm} (hk : k ≠ 1 ∨ i ≠ 99) (h : ∀ t ∈ es, cl t = true) : cl (.mk k i o es) = true := by
  rw [cl, clL_iff.2 h]
  rcases hk with hk | hk <;> simp [hk]
theorem termF_cl : ∀ (n : Nat) (l : List Raw3), l.length ≤ n → ∀ d, d ≤ 5 → cl (termF l d).1 = true := by
  intro n
  induction n with
  | zero =>
    intro l hl d h5
    obtain rfl : l = [] := List.eq_nil_of_length_eq_zero (by omega)
    rw [termF_nil]; exact cl_mk (by omega) (by simp)
  | succ n ih =>
    intro l hl d h5
    cases l with
    | nil => rw [termF_nil]; exact cl_mk (by omega) (by simp)
    | cons r l =>
      rw [List.length_cons] at hl
      rw [termF_cons]
      have ha := Int.emod_lt_of_pos r.a (show (0 : Int) < 5 by decide)
      have hk9 := Int.emod_nonneg r.kind (show (9 : Int) ≠ 0 by decide)
      have hk3 := Int.emod_lt_of_pos (r.kind % 9) (show (0 : Int) < 3 by decide)
      by_cases h3 : 3 < d
      · unfold stepT
        rw [if_pos h3]
        dsimp only
        generalize r.kind % 9 % 3 = k at *
        rw [if_neg (show ¬ k = 3 by omega), if_neg (show ¬ k = 4 by omega), if_neg (show ¬ k = 5 by omega), if_neg (show ¬ (k = 6 ∨ k = 7) by omega)]
        repeat' split
        all_goals exact cl_mk (by omega) (by simp)
      · have hp := fun k => partsN_all (P := fun t => cl t = true) (g := fun m => termF m (d + 1)) k l fun m hm => ⟨ih m (by omega) (d + 1) (by omega), termF_shrink m (d + 1)⟩
        unfold stepT
        rw [if_neg h3]
        dsimp only
        repeat' split
        all_goals first | exact cl_mk (by omega) (by simp) | exact cl_mk (.inl (by decide)) (hp _)
theorem termsN_cl : ∀ (n : Nat) (l : List Raw3), ∀ t ∈ termsN n l, cl t = true
  | 0, _, t, h => by simp [termsN] at h
  | n + 1, [], t, h => by simp [termsN] at h
  | n + 1, r :: l, t, h => by
    rw [termsN] at h
    rcases List.mem_cons.1 h with rfl | h
    · exact termF_cl _ _ (Nat.le_refl _) 0 (by decide)
    · exact termsN_cl n _ t h
def boxT (t : Tm) : Tm := .mk 7 0 0 [t, atomT 0, atomT 99]
theorem box_not (t : Tm) : cl (boxT t) = false := by simp [boxT, cl, clL, atomT]
def Inside (t : Tm) (B C : List Tm) : Prop := ∀ x ∈ C, x = boxT t ∨ (cl x = true ∧ x ∈ B)
theorem inside_has {t u : Tm} {B C : List Tm} (h : Inside t B C) (hu : u.kind ≠ 7 ∨ cl u = true) (hc : hasT C u = true) : hasT B u = true := by
  rcases h u (has_iff.1 hc) with e | e
  · rcases hu with hu | hu
    · rw [e] at hu; exact absurd rfl hu
    · rw [e, box_not] at hu; cases hu
  · exact has_iff.2 e.2
theorem inside_pub {t : Tm} {B C : List Tm} (h : Inside t B C) {n : Int} (hc : pubK C n = true) : pubK B n = true := by
  unfold pubK at hc ⊢
  rw [Bool.or_eq_true] at hc ⊢
  exact hc.imp (inside_has h (.inl (by simp [atomT, Tm.kind]))) (inside_has h (.inl (by simp [pubT, Tm.kind])))
mutual
theorem inside_makes {t : Tm} {B C : List Tm} (h : Inside t B C) : ∀ u : Tm, cl u = true → makesT C u = true → makesT B u = true
  | .mk k i o es, hu, hm => by
    rw [makesT, Bool.or_eq_true] at hm ⊢
    rcases hm with hm | hm
    · exact .inl (inside_has h (.inr hu) hm)
    · right
      have at1 : ∀ n, hasT C (atomT n) = true → hasT B (atomT n) = true := fun n => inside_has h (.inl (by simp [atomT, Tm.kind]))
      by_cases h1 : k = 1
      · rw [if_pos h1] at hm; cases hm
      rw [if_neg h1] at hm ⊢
      by_cases h2 : k = 2
      · rw [if_pos h2] at hm ⊢; exact at1 _ hm
      rw [if_neg h2] at hm ⊢
      by_cases h3 : k = 3
      · rw [if_pos h3] at hm ⊢
        rw [Bool.or_eq_true, Bool.and_eq_true, Bool.and_eq_true] at hm ⊢
        exact hm.imp (fun x => ⟨at1 _ x.1, inside_pub h x.2⟩) fun x => ⟨at1 _ x.1, inside_pub h x.2⟩
      rw [if_neg h3] at hm ⊢
      rw [cl, Bool.and_eq_true] at hu
      exact inside_makesL h es hu.2 hm
theorem inside_makesL {t : Tm} {B C : List Tm} (h : Inside t B C) : ∀ es : List Tm, clL es = true → makesL C es = true → makesL B es = true
  | [], _, _ => by rw [makesL]
  | a :: es, hu, hm => by
    rw [clL, Bool.and_eq_true] at hu
    rw [makesL, Bool.and_eq_true] at hm ⊢
    exact ⟨inside_makes h a hu.1 hm.1, inside_makesL h es hu.2 hm.2⟩
end
theorem inside_step {t : Tm} {B C : List Tm} (hB : Closed B) (ht : cl t = true) (hf : makesT B t = false) (h : Inside t B C) {s x : Tm} (hs : s ∈ C) (hx : x ∈ openT C s) : cl x = true ∧ x ∈ B := by
  rcases h s hs with rfl | ⟨h1, h2⟩
  · have : makesT C t = true := by
      unfold openT at hx
      split at hx
      · rename_i h4; simp [boxT, Tm.kind] at h4
      · split at hx
        · rename_i h7; exact h7.2
        · simp at hx
    rw [inside_makes h t ht this] at hf; cases hf
  · have hxa := open_arg hx
    refine ⟨cl_arg h1 hxa, hB s h2 x ?_⟩
    unfold openT at hx ⊢
    by_cases h4 : s.kind = 4
    · rw [if_pos h4] at hx ⊢; exact hx
    · rw [if_neg h4] at hx ⊢
      by_cases h7 : s.kind = 7 ∧ makesT C (s.args.getD 0 tm0) = true
      · rw [if_pos h7] at hx
        have hmem : s.args.getD 0 tm0 ∈ s.args := getD_mem (by
          have := List.length_pos_of_mem hxa; exact this)
        rw [if_pos ⟨h7.1, inside_makes h _ (cl_arg h1 hmem) h7.2⟩]; exact hx
      · rw [if_neg h7] at hx; simp at hx
theorem inside_full {t : Tm} {B : List Tm} (hB : Closed B) (ht : cl t = true) (hf : makesT B t = false) : ∀ (k : Nat) (C : List Tm), Inside t B C → Inside t B (fullF k C) := by
  intro k
  induction k with
  | zero => intro C h; rw [fullF]; exact h
  | succ k ih =>
    intro C h
    rw [fullF]
    cases hn : nextT C with
    | none => exact h
    | some x =>
      refine ih _ fun y hy => ?_
      rcases List.mem_append.1 hy with hy | hy
      · exact h y hy
      · rw [List.mem_singleton] at hy
        rw [hy]
        obtain ⟨_, s, hs, hx⟩ := nextT_iff hn
        exact .inr (inside_step hB ht hf h hs hx)
theorem knows_locked {L : List Tm} {t : Tm} (hL : fullOk L) (hL2 : fullOk (L ++ [boxT t])) (hcl : ∀ u ∈ L, cl u = true) (ht : cl t = true) : makesT (fullT (L ++ [boxT t])) (atomT 99) = makesT (fullT L) t := by
  cases hf : makesT (fullT L) t with
  | true =>
    have h1 := knows_more hL2 (fun x hx => List.mem_append_left [boxT t] hx) hf
    have hbox : boxT t ∈ fullT (L ++ [boxT t]) := full_has _ _ _ (List.mem_append_right _ (List.mem_singleton.2 rfl))
    refine makes_has (full_closed hL2 _ hbox _ ?_)
    unfold openT
    rw [if_neg (by simp [boxT, Tm.kind]), if_pos ⟨rfl, h1⟩]
    simp [boxT, Tm.args]
  | false =>
    cases hb : makesT (fullT (L ++ [boxT t])) (atomT 99) with
    | false => rfl
    | true =>
      have hin : Inside t (fullT L) (L ++ [boxT t]) := fun x hx => by
        rcases List.mem_append.1 hx with hx | hx
        · exact .inr ⟨hcl x hx, full_has _ _ _ hx⟩
        · exact .inl (List.mem_singleton.1 hx)
      rcases inside_full (full_closed hL) ht hf _ _ hin _ (makes_atom.1 hb) with h | h
      · simp [atomT, boxT] at h
      · have := h.1
        simp [atomT, cl] at this
end Go.Tm
