/- The abstract layer (third state), part N: code walked through, and a function's body. -/
import Derived.Test.YtcnnogimaikicaaDoorW1
import Derived.ScopeJumps

set_option linter.unusedSimpArgs false
set_option linter.unusedVariables false
namespace Go.V
open Go
noncomputable section

def condA (v : AV) (x y : Prop) : Prop := match v with
  | .bool b => ite2 b x y
  | _ => False

section
variable {P : Program} (G : Env P)

def aresult (s : St) : ResultVar → Option (Bool × AV)
  | .tmp t => some (true, tget s.t t)
  | .cell a t => match G.ty t with
    | some ti => aload ti s.H (tget s.t a)
    | none => none

def aresults (s : St) : List ResultVar → Option (Bool × List AV)
  | [] => some (true, [])
  | r :: rs => match aresult G s r with
    | some (c, v) => match aresults s rs with
      | some (d, l) => some (c && d, v :: l)
      | none => none
    | none => none

def tupA : List AV → AV
  | [v] => v
  | l => .tup l

/-- What stands in the results. -/
def endO (r : Option (Bool × List AV)) (k : AV → Prop) : Prop := match r with
  | some (c, l) => cnd c (k (tupA l))
  | none => False

def aend (fn : Func) (R : AV → Heap → Prop) (e : Exit) (s : St) : Prop := match e with
  | .normal => endO (aresults G s fn.results.toList) fun v => R v s.H
  | .ret => endO (aresults G s fn.results.toList) fun v => R v s.H
  | _ => False

end

section
variable {P : Program} {G : Env P} {ρ : Rho} {I : Imm} {H : Heap} {w : World}

theorem condA_iff {v : AV} {x y : Prop} (h : condA v x y) : ∃ b, v = .bool b ∧ (b = true → x) ∧ (b = false → y) := by
  unfold condA at h
  split at h
  · exact ⟨_, rfl, ite2_iff.1 h⟩
  · exact h.elim

theorem aresult_sound (c : Conc G.g ρ I H w) {t : List AV} {a : Act} (r : RelT ρ I w t a) {rv : ResultVar} {p : Bool × AV} (h : aresult G ⟨t, H⟩ rv = some p) (hp : p.1 = true) :
    ∃ x, (match rv with | .tmp t => (pure (a.tmps.getD t undef) : Sem Value) | .cell b t => do loadVar t (← asAddr (a.tmps.getD b undef))).run P w = .ok x w ∧ rel ρ I w p.2 x := by
  have hget : ∀ i, a.tmps.getD i undef = a.tmps.toList.getD i undef := by
    intro i; simp [Array.getD_eq_getD_getElem?, List.getD_eq_getElem?_getD]
  cases rv with
  | tmp i =>
    simp only [aresult, tget_eq, Option.some.injEq] at h
    subst h
    exact ⟨_, rfl, by rw [hget]; exact RV_getD r.tr i⟩
  | cell b ty =>
    simp only [aresult, tget_eq] at h
    split at h
    · rename_i ti ht
      have hb := RV_getD r.tr b
      obtain ⟨x, h1, h2⟩ := run_loadAt (P := P) c ht hb h hp
      refine ⟨x, ?_, h2⟩
      show (do loadVar ty (← asAddr (a.tmps.getD b undef))).run P w = .ok x w
      rw [hget]
      have : ∃ ad, a.tmps.toList.getD b undef = .pointer (some ad) := by
        unfold aload at h
        cases hq : t.getD b .any <;> rw [hq] at hb h <;> simp [cellsAt, cellsAtX] at h
        · obtain ⟨b', _, hx⟩ := rel_ptr.1 hb; exact ⟨_, hx⟩
        · obtain ⟨b', _, _, hx⟩ := rel_pix.1 hb; exact ⟨_, hx⟩
        · obtain ⟨_, _, b', o, hx, _⟩ := rel_vp.1 hb; exact ⟨_, hx⟩
        · obtain ⟨_, _, _, b', o, hx, _⟩ := rel_vpx.1 hb; exact ⟨_, hx⟩
      obtain ⟨ad, hx⟩ := this
      rw [hx] at h1 ⊢
      simp only [Instr.loadAt, Instr.sureAddr, Sem.run_bind, Sem.run_pure, Result.andThen_ok] at h1
      simp [asAddr, h1]
    · simp at h

theorem aresults_sound (c : Conc G.g ρ I H w) {t : List AV} {a : Act} (r : RelT ρ I w t a) : ∀ {rs : List ResultVar} {p : Bool × List AV}, aresults G ⟨t, H⟩ rs = some p → p.1 = true →
    ∃ xs, (rs.mapM (fun rv : ResultVar => (match rv with | .tmp t => (pure (a.tmps.getD t undef) : Sem Value) | .cell b t => do loadVar t (← asAddr (a.tmps.getD b undef))))).run P w = .ok xs w ∧ RV ρ I w p.2 xs
  | [], p, h, _ => by
    simp only [aresults, Option.some.injEq] at h
    subst h
    exact ⟨[], by simp, by simp [RV]⟩
  | rv :: rs, p, h, hp => by
    simp only [aresults] at h
    split at h
    · rename_i c1 v h1
      split at h
      · rename_i d l h2
        simp only [Option.some.injEq] at h
        subst h
        simp only [Bool.and_eq_true] at hp
        obtain ⟨x, k1, k2⟩ := aresult_sound c r h1 hp.1
        obtain ⟨xs, k3, k4⟩ := aresults_sound c r h2 hp.2
        refine ⟨x :: xs, ?_, RV_cons.2 ⟨x, xs, rfl, k2, k4⟩⟩
        rw [List.mapM_cons]
        simp only [Sem.run_bind, k1, Result.andThen_ok, k3, Sem.run_pure]
      · simp at h
    · simp at h

def resF (tmps : Array Value) : ResultVar → Sem Value
  | .tmp t => pure (tmps.getD t undef)
  | .cell b t => do loadVar t (← asAddr (tmps.getD b undef))

theorem results_eq (fn : Func) (tmps : Array Value) : results fn tmps = (fn.results.mapM (resF tmps) >>= fun vs => pure (if h : vs.size = 1 then vs[0] else .tuple vs)) := rfl

theorem results_sound (c : Conc G.g ρ I H w) {t : List AV} {a : Act} (r : RelT ρ I w t a) {fn : Func} {p : Bool × List AV} (h : aresults G ⟨t, H⟩ fn.results.toList = some p) (hp : p.1 = true) :
    ∃ x, (results fn a.tmps).run P w = .ok x w ∧ rel ρ I w (tupA p.2) x := by
  obtain ⟨xs, h1, h2⟩ := aresults_sound c r h hp
  have h1' : (fn.results.toList.mapM (resF a.tmps)).run P w = .ok xs w := h1
  have hm : (fn.results.mapM (resF a.tmps)).run P w = .ok xs.toArray w := by
    rw [← Array.toArray_toList (xs := fn.results), List.mapM_toArray]
    simp only [Sem.run_map, h1', Result.andThen_ok]
  rw [results_eq]
  simp only [Sem.run_bind, hm, Result.andThen_ok, Sem.run_pure]
  have hlen := RV_len h2
  by_cases e : xs.length = 1
  · match xs, e, h2 with
    | [x], _, h2 =>
      match hp2 : p.2, h2 with
      | [v], h2 =>
        obtain ⟨y, ys, k1, k2, _⟩ := RV_cons.1 h2
        simp only [List.cons.injEq] at k1
        obtain ⟨rfl, _⟩ := k1
        exact ⟨x, by simp, k2⟩
      | [], h2 => simp [RV] at h2
      | _ :: _ :: _, h2 => have := RV_len h2; simp at this
  · refine ⟨.tuple xs.toArray, by simp [e], ?_⟩
    match hp2 : p.2, h2 with
    | [v], h2 => have := RV_len h2; simp at this; omega
    | [], h2 => exact rel_tup.2 ⟨_, rfl, by simpa using h2⟩
    | _ :: _ :: _, h2 => exact rel_tup.2 ⟨_, rfl, by simpa using h2⟩

end
end
end Go.V

/- The abstract layer (third state), part M: states compared where entries get other numbers (loops that append). -/
set_option linter.unusedSimpArgs false
set_option linter.unusedVariables false
namespace Go.V
open Go
noncomputable section

mutual
/-- Cells of what is put together, one by one. -/
def flA : AV → List AV
  | .agg l => flL l
  | a => [a]
def flL : List AV → List AV
  | [] => []
  | a :: as => flA a ++ flL as
end
def eqF (f f' : List (Nat × Nat)) : Bool := match f, f' with
  | [], [] => true
  | (a, b) :: r, (c, d) :: r' => ((a == c) && (b == d)) && eqF r r'
  | _, _ => false

theorem eqF_eq : ∀ {f f' : List (Nat × Nat)}, eqF f f' = true → f = f'
  | [], [], _ => rfl
  | (a, b) :: r, (c, d) :: r', h => by
    simp only [eqF, Bool.and_eq_true, beq_iff_eq] at h
    obtain ⟨⟨rfl, rfl⟩, h⟩ := h
    rw [eqF_eq h]
  | [], _ :: _, h => by simp [eqF] at h
  | _ :: _, [], h => by simp [eqF] at h

theorem RL_one {ρ : Rho} {I : Imm} {w : World} {a : AV} {xs : List Value} : RL ρ I w [a] xs ↔ R ρ I w a xs := by
  constructor
  · rintro ⟨ys, zs, rfl, h1, h2⟩
    cases h2
    simpa using h1
  · exact fun h => ⟨xs, [], by simp, h, rfl⟩
theorem RL_app {ρ : Rho} {I : Imm} {w : World} : ∀ {l l' : List AV} {xs : List Value}, RL ρ I w (l ++ l') xs ↔ ∃ ys zs, xs = ys ++ zs ∧ RL ρ I w l ys ∧ RL ρ I w l' zs
  | [], l', xs => by
    constructor
    · exact fun h => ⟨[], xs, rfl, rfl, h⟩
    · rintro ⟨ys, zs, rfl, h1, h2⟩
      cases h1
      exact h2
  | a :: as, l', xs => by
    constructor
    · rintro ⟨ys, zs, rfl, h1, h2⟩
      obtain ⟨ys', zs', rfl, h3, h4⟩ := RL_app.1 h2
      exact ⟨ys ++ ys', zs', by simp, ⟨ys, ys', rfl, h1, h3⟩, h4⟩
    · rintro ⟨ys, zs, rfl, ⟨ys1, ys2, rfl, h1, h2⟩, h3⟩
      exact ⟨ys1, ys2 ++ zs, by simp, h1, RL_app.2 ⟨ys2, zs, rfl, h2, h3⟩⟩
section fl
variable {ρ : Rho} {I : Imm} {w : World}
mutual
theorem R_fl : ∀ (a : AV) (xs : List Value), R ρ I w a xs ↔ RL ρ I w (flA a) xs
  | .agg l, xs => RL_fl l xs
  | .any, xs => RL_one.symm
  | .raw _, xs => RL_one.symm
  | .int _ _, xs => RL_one.symm
  | .u8 _, xs => RL_one.symm
  | .u32 _, xs => RL_one.symm
  | .u64 _, xs => RL_one.symm
  | .bool _, xs => RL_one.symm
  | .str _, xs => RL_one.symm
  | .b8 _ _, xs => RL_one.symm
  | .w32 _ _, xs => RL_one.symm
  | .w64 _ _, xs => RL_one.symm
  | .n64 _ _, xs => RL_one.symm
  | .ptr _ _, xs => RL_one.symm
  | .pix _ _ _ _, xs => RL_one.symm
  | .sl _ _ _ _, xs => RL_one.symm
  | .vec8 _ _, xs => RL_one.symm
  | .vec _ _ _, xs => RL_one.symm
  | .vecr _ _ _ _, xs => RL_one.symm
  | .slv _ _ _ _, xs => RL_one.symm
  | .vp _ _, xs => RL_one.symm
  | .vpx _ _ _ _, xs => RL_one.symm
  | .fn _ _ _, xs => RL_one.symm
  | .tup _, xs => RL_one.symm
theorem RL_fl : ∀ (l : List AV) (xs : List Value), RL ρ I w l xs ↔ RL ρ I w (flL l) xs
  | [], _ => Iff.rfl
  | a :: as, xs => by
    show RL ρ I w (a :: as) xs ↔ RL ρ I w (flA a ++ flL as) xs
    rw [RL_app]
    constructor
    · rintro ⟨ys, zs, h0, h1, h2⟩
      exact ⟨ys, zs, h0, (R_fl a ys).1 h1, (RL_fl as zs).1 h2⟩
    · rintro ⟨ys, zs, h0, h1, h2⟩
      exact ⟨ys, zs, h0, (R_fl a ys).2 h1, (RL_fl as zs).2 h2⟩
end
end fl

/-- Cells of a row that say no more than others. -/
def leRF (c d : List AV) : Prop := okL d = true ∧ ∀ (ρ : Rho) (I : Imm) (w : World) (vs : List Value), RL ρ I w c vs → RL ρ I w d vs
def leR : List AV → List AV → Prop := (sealed leRF).val
theorem leR_eq (c d : List AV) : leR c d = leRF c d := by rw [leR, (sealed leRF).property]
theorem leR.mk {c d : List AV} (h : okL d = true) (h2 : ∀ (ρ : Rho) (I : Imm) (w : World) (vs : List Value), RL ρ I w c vs → RL ρ I w d vs) : leR c d := by rw [leR_eq]; exact ⟨h, h2⟩
theorem leR.ok {c d : List AV} (h : leR c d) : okL d = true := by rw [leR_eq] at h; exact h.1
theorem leR.rl {c d : List AV} (h : leR c d) : ∀ (ρ : Rho) (I : Imm) (w : World) (vs : List Value), RL ρ I w c vs → RL ρ I w d vs := by rw [leR_eq] at h; exact h.2
theorem leR.refl {c : List AV} (h : okL c = true) : leR c c := leR.mk h fun _ _ _ _ r => r
theorem leR.of_eq {c d : List AV} (h : okL d = true) (e : c = d) : leR c d := e ▸ leR.refl (e ▸ h)
theorem leR.trans {a b c : List AV} (h : leR a b) (g : leR b c) : leR a c := leR.mk g.ok fun ρ I w vs r => g.rl ρ I w vs (h.rl ρ I w vs r)
/-- Which entry's number a value shows: none for a slice of nothing. -/
def srcOf : AV → Option (Option Nat)
  | .slv id _ _ _ => some (some id)
  | .sl id _ _ _ => some (some id)
  | .ptr id _ => some (some id)
  | .vec8 true l => bif l.isEmpty then some none else none
  | .vec true _ l => bif l.isEmpty then some none else none
  | _ => none
def srcsOf : List AV → Option (List (Option Nat))
  | [] => some []
  | v :: vs => match srcOf v, srcsOf vs with
    | some r, some rs => some (r :: rs)
    | _, _ => none

/-- The old number of a new one: below n the same. -/
def oldId (n : Nat) (srcs : List (Option Nat)) (j : Nat) : Option Nat := bif ltB j n then some j else (srcs.getD (j - n) none)
def isO (i : Nat) : Option Nat → Bool
  | some j => i == j
  | none => false

/-- Is it a slice of nothing? -/
def nilS : AV → Bool
  | .vec8 true l => l.isEmpty
  | .vec true _ l => l.isEmpty
  | _ => false

def leA1 (n : Nat) (srcs : List (Option Nat)) (a b : AV) (k : Prop) : Prop :=
  match b with
  | .any => cnd (szA a == 1) k
  | .ptr j p => match a with
    | .ptr i o => cnd (isO i (oldId n srcs j) && (o == p)) k
    | _ => False
  | .sl j p c m => match a with
    | .sl i o c' m' => cnd (isO i (oldId n srcs j) && ((o == p) && (c' == c))) (m' = m ∧ k)
    | a => cnd (nilS a) (0 = m ∧ k)
  | .slv j c m g => match a with
    | .slv i c' m' f => cnd (isO i (oldId n srcs j) && (c' == c)) (m' = m ∧ (∀ x, x < m → leR (f x) (g x)) ∧ k)
    | a => cnd (nilS a) (0 = m ∧ k)
  | .vecr full c m g => match a with
    | .vecr full' c' m' f => cnd ((full' || !full) && (c' == c)) (m' = m ∧ (∀ x, x < m → leR (f x) (g x)) ∧ k)
    | .slv _ c' m' f => cnd (!full && (c' == c)) (m' = m ∧ (∀ x, x < m → leR (f x) (g x)) ∧ k)
    | a => cnd (nilS a) (0 = m ∧ k)
  | .vec8 full l => match a with
    | .vec8 full' l' => cnd (full' || !full) (l' = l ∧ k)
    | _ => False
  | b => cnd (refsA n b) (a = b ∧ k)
def leC1 (n : Nat) (srcs : List (Option Nat)) : List AV → List AV → Prop → Prop
  | [], [], k => k
  | a :: as, b :: bs, k => leA1 n srcs a b (leC1 n srcs as bs k)
  | _, _, _ => False
/-- A value says no more than another one. -/
def leAM (n : Nat) (srcs : List (Option Nat)) (a b : AV) (k : Prop) : Prop :=
  match b with
  | .any => k
  | .agg l' => match a with
    | .agg l => leC1 n srcs (flL l) (flL l') k
    | a => cnd (refsL n l') (a = .agg l' ∧ k)
  | b => leA1 n srcs a b k
def leTM (n : Nat) (srcs : List (Option Nat)) : List AV → List AV → Prop → Prop
  | [], [], k => k
  | a :: as, b :: bs, k => leAM n srcs a b (leTM n srcs as bs k)
  | _, _, _ => False
def leEM (n : Nat) (srcs : List (Option Nat)) (e e' : Ent) (k : Prop) : Prop :=
  match e' with
  | .dead => k
  | .blk c' f' => match e with
    | .blk c f => cnd (eqF f f') (leC1 n srcs (flL c) (flL c') k)
    | _ => False
  | .grow8 l' f' => match e with
    | .grow8 l f => cnd (eqF f f') (l = l' ∧ k)
    | _ => False
  | .grow n' r' f' => match e with
    | .grow n2 r f => cnd (((n2 == n') && eqF f f') && refsL n r') (r = r' ∧ k)
    | _ => False
  | .tail k' n' => match e with
    | .tail k2 n2 => cnd (k2 == k') (n2 = n' ∧ k)
    | _ => False
  | .res => False
def leHM (n : Nat) (srcs : List (Option Nat)) : Heap → Heap → Prop → Prop
  | [], [], k => k
  | a :: as, b :: bs, k => leEM n srcs a b (leHM n srcs as bs k)
  | _, _, _ => False
/-- An entry for nothing at all. -/
def nilE : Ent → Bool
  | .dead => true
  | .grow8 l f => l.isEmpty && f.isEmpty
  | .grow _ r f => r.isEmpty && f.isEmpty
  | .tail _ n => n == 0
  | _ => false
def leXM (n : Nat) (srcs : List (Option Nat)) (H : Heap) : List (Option Nat) → List Ent → Prop → Prop
  | [], [], k => k
  | s :: ss, e :: es, k => match s with
    | some i => cnd (ltB i H.length) (leEM n srcs (H.getD i .dead) e (leXM n srcs H ss es k))
    | none => cnd (nilE e) (leXM n srcs H ss es k)
  | _, _, _ => False
/-- No two slots have one block; what is moved is no more where it was. -/
def apart (n : Nat) (H' : Heap) : List (Option Nat) → Bool
  | [] => true
  | none :: ss => apart n H' ss
  | some i :: ss => ((leB n i || !(H'.getD i .dead).live) && !(ss.contains (some i))) && apart n H' ss

/-- One state says no more than another one, in which some entries have other numbers, and later entries are forgotten. -/
def leM (n : Nat) (vs : List AV) (s : St) (T : List AV) (H' : Heap) (X : List Ent) : Prop :=
  match srcsOf vs with
  | some srcs => cnd ((srcs.length == X.length) && apart n H' srcs) (leTM n srcs s.t T (leHM n srcs (s.H.take n) H' (leXM n srcs s.H srcs X True)))
  | none => False

section
variable {ρ ρ' : Rho} {I : Imm} {w : World}

/-- The numbers' blocks, where some have other numbers. -/
def movR (n : Nat) (srcs : List (Option Nat)) (ρ : Rho) : Rho := fun j => if j < n then ρ j else match srcs[j - n]? with
  | some (some i) => ρ i
  | some none => some none
  | none => none
theorem movR_old {n : Nat} {srcs : List (Option Nat)} {ρ : Rho} {i j : Nat} (h : isO i (oldId n srcs j) = true) : movR n srcs ρ j = ρ i := by
  unfold oldId at h
  unfold movR
  by_cases hj : j < n
  · rw [ltB_iff.2 hj] at h
    have : i = j := by simpa [isO] using h
    simp [hj, this]
  · have hb : ltB j n = false := by
      cases hb : ltB j n with
      | true => exact absurd (ltB_iff.1 hb) hj
      | false => rfl
    rw [hb] at h
    simp only [cond_false] at h
    cases hs : srcs[j - n]? with
    | none => rw [List.getD_eq_getElem?_getD, hs] at h; simp [isO] at h
    | some r =>
      rw [List.getD_eq_getElem?_getD, hs] at h
      cases r with
      | none => simp [isO] at h
      | some i' => have : i = i' := by simpa [isO] using h
                   simp [hj, this]
theorem movR_low {n : Nat} {srcs : List (Option Nat)} {ρ : Rho} : ∀ i, i < n → movR n srcs ρ i = ρ i := fun i h => by simp [movR, h]

theorem nilS_val {a : AV} {v : Value} (h : nilS a = true) (r : rel ρ I w a v) : ∃ x, v = .slice x 0 0 := by
  unfold nilS at h
  split at h
  · rename_i l
    have hl : l = [] := by simpa using h
    subst hl
    obtain ⟨x, cap, h1, _, h3, _⟩ := rel_vec8.1 r
    have := h3 rfl
    simp at this
    exact ⟨x, by rw [h1, this]; rfl⟩
  · rename_i l
    have hl : l = [] := by simpa using h
    subst hl
    obtain ⟨_, vs, _, x, cap, h1, _, h3, _⟩ := rel_vec.1 r
    have := h3 rfl
    simp at this
    exact ⟨x, by rw [h1, this]; rfl⟩
  · simp at h
theorem nilS_R {a : AV} (h : nilS a = true) {xs : List Value} (r : R ρ I w a xs) : ∃ x, xs = [.slice x 0 0] := by
  unfold nilS at h
  split at h
  · rename_i l
    obtain ⟨v, h0, _⟩ := id r
    subst h0
    obtain ⟨x, hx⟩ := nilS_val (ρ := ρ) (I := I) (w := w) (a := .vec8 true l) h r
    exact ⟨x, by rw [hx]⟩
  · rename_i k l
    obtain ⟨v, h0, _⟩ := id r
    subst h0
    obtain ⟨x, hx⟩ := nilS_val (ρ := ρ) (I := I) (w := w) (a := .vec true k l) h r
    exact ⟨x, by rw [hx]⟩
  · simp at h
theorem vecr_le {ρ' : Rho} {full full' : Bool} {c m : Nat} {f g : Nat → List AV} {v : Value} (h2 : ∀ x, x < m → leR (f x) (g x)) (hf : full = true → full' = true) (r : rel ρ I w (.vecr full' c m f) v) : rel ρ' I w (.vecr full c m g) v := by
  obtain ⟨k3, vs, k4, k5, a, cap, k6, k7, k8, k9⟩ := rel_vecr.1 r
  exact rel_vecr.2 ⟨fun i hi => (h2 i hi).ok, vs, k4, fun i hi =>
    RL_refs (n := 0) (fun _ h => by omega) _ _ (refsL_pure _ (okL_pure (h2 i hi).ok) 0) ((h2 i hi).rl _ _ _ _ (k5 i hi)), a, cap, k6, k7, fun h => k8 (hf h), k9⟩

theorem nil_vecr {full : Bool} {c : Nat} {g : Nat → List AV} {x : Option Addr} : rel ρ I w (.vecr full c 0 g) (.slice x 0 0) :=
  rel_vecr.2 ⟨fun i h => by omega, [], by simp, fun i h => by omega, x, 0, rfl, Nat.le_refl _, fun _ => rfl, .inl rfl⟩

theorem leA1_sound {n : Nat} {srcs : List (Option Nat)} (hρ : ∀ i j, isO i (oldId n srcs j) = true → ρ' j = ρ i) (hlow : ∀ i, i < n → ρ' i = ρ i) {a b : AV} {k : Prop} (h : leA1 n srcs a b k) :
    (∀ xs, R ρ I w a xs → R ρ' I w b xs) ∧ k := by
  unfold leA1 at h
  split at h
  · obtain ⟨h1, h2⟩ := cnd_iff.1 h
    refine ⟨fun xs r => ?_, h2⟩
    have := R_len _ _ r
    rw [beq_iff_eq] at h1
    rw [h1] at this
    match xs, this with
    | [y], _ => exact ⟨y, rfl⟩
  · split at h
    · obtain ⟨h1, h2⟩ := cnd_iff.1 h
      simp only [Bool.and_eq_true, beq_iff_eq] at h1
      obtain ⟨h1, rfl⟩ := h1
      refine ⟨?_, h2⟩
      rintro xs ⟨v, rfl, b, q1, q2⟩
      exact ⟨v, rfl, b, by rw [hρ _ _ h1]; exact q1, q2⟩
    · exact h.elim
  · split at h
    · obtain ⟨h1, rfl, h2⟩ := cnd_iff.1 h
      simp only [Bool.and_eq_true, beq_iff_eq] at h1
      obtain ⟨h1, rfl, rfl⟩ := h1
      refine ⟨?_, h2⟩
      rintro xs ⟨v, rfl, q⟩
      refine ⟨v, rfl, ?_⟩
      rcases q with ⟨b, cap, q1, q2⟩ | q
      · exact .inl ⟨b, cap, by rw [hρ _ _ h1]; exact q1, q2⟩
      · exact .inr q
    · obtain ⟨h1, rfl, h2⟩ := cnd_iff.1 h
      refine ⟨fun xs r => ?_, h2⟩
      obtain ⟨x, rfl⟩ := nilS_R h1 r
      exact ⟨_, rfl, .inr ⟨rfl, x, rfl⟩⟩
  · split at h
    · obtain ⟨h1, rfl, h2, h3⟩ := cnd_iff.1 h
      simp only [Bool.and_eq_true, beq_iff_eq] at h1
      obtain ⟨h1, rfl⟩ := h1
      refine ⟨?_, h3⟩
      rintro xs ⟨v, rfl, r⟩
      obtain ⟨k1, k2⟩ := rel_slv.1 (show rel ρ I w (.slv _ _ _ _) v from ⟨v, rfl, r⟩)
      have := rel_slv.2 ⟨vecr_le (ρ' := ρ') h2 (fun h => h) k1, (by
        rcases k2 with ⟨b, cap, q1, q2⟩ | q
        · exact .inl ⟨b, cap, by rw [hρ _ _ h1]; exact q1, q2⟩
        · exact .inr q : slR ρ' w _ 0 _ _ v)⟩
      exact this
    · obtain ⟨h1, rfl, h2⟩ := cnd_iff.1 h
      refine ⟨fun xs r => ?_, h2⟩
      obtain ⟨x, rfl⟩ := nilS_R h1 r
      exact rel_slv.2 ⟨nil_vecr, .inr ⟨rfl, x, rfl⟩⟩
  · split at h
    · obtain ⟨h1, rfl, h2, h3⟩ := cnd_iff.1 h
      simp only [Bool.and_eq_true, beq_iff_eq, Bool.or_eq_true, Bool.not_eq_true'] at h1
      obtain ⟨h1, rfl⟩ := h1
      refine ⟨?_, h3⟩
      rintro xs ⟨v, rfl, r⟩
      have := vecr_le (ρ' := ρ') h2 (fun hf => h1.resolve_right fun h => Bool.noConfusion (hf.symm.trans h)) (show rel ρ I w (.vecr _ _ _ _) v from ⟨v, rfl, r⟩)
      exact this
    · obtain ⟨h1, rfl, h2, h3⟩ := cnd_iff.1 h
      simp only [Bool.and_eq_true, beq_iff_eq, Bool.not_eq_true'] at h1
      obtain ⟨rfl, rfl⟩ := h1
      refine ⟨?_, h3⟩
      rintro xs ⟨v, rfl, r⟩
      have := vecr_le (ρ' := ρ') h2 (fun h => h) (rel_slv.1 (show rel ρ I w (.slv _ _ _ _) v from ⟨v, rfl, r⟩)).1
      exact this
    · obtain ⟨h1, rfl, h2⟩ := cnd_iff.1 h
      refine ⟨fun xs r => ?_, h2⟩
      obtain ⟨x, rfl⟩ := nilS_R h1 r
      exact nil_vecr
  · split at h
    · obtain ⟨h1, rfl, h2⟩ := cnd_iff.1 h
      refine ⟨?_, h2⟩
      rintro xs ⟨v, rfl, a, cap, k6, k7, k8, k9⟩
      refine ⟨v, rfl, a, cap, k6, k7, fun hf => k8 ?_, k9⟩
      rw [hf] at h1
      simpa using h1
    · exact h.elim
  · obtain ⟨h1, rfl, h2⟩ := cnd_iff.1 h
    exact ⟨fun xs r => R_refs hlow _ xs h1 r, h2⟩

/-- Rows told by number, that say no more. -/
theorem leR_vecr {c : Nat} {full full' : Bool} {k m : Nat} {f g : Nat → List AV} {as bs : List AV} (hf : full = true → full' = true) (h : ∀ x, x < m → leR (f x) (g x)) (hr : leR as bs) : leR (.vecr full' k m f :: as) (.vecr full k m g :: bs) := by
  refine leR.mk ?_ fun ρ I w vs r => ?_
  · have h1 := okL_pure hr.ok; have h2 := okL_one hr.ok
    simp only [okL, pureL, pureA, oneL, oneA, h1, h2, Bool.and_self]
  · obtain ⟨ys, zs, rfl, ⟨v, rfl, q⟩, r2⟩ := RL_cons.1 r
    exact RL_cons.2 ⟨[v], zs, rfl, vecr_le h hf (show rel ρ I w (.vecr _ _ _ _) v from ⟨v, rfl, q⟩), hr.rl _ _ _ _ r2⟩
theorem leR_same {a : AV} {as bs : List AV} (ha : okL [a] = true) (hr : leR as bs) : leR (a :: as) (a :: bs) := by
  refine leR.mk ?_ fun ρ I w vs r => ?_
  · have h1 := okL_pure hr.ok; have h2 := okL_one hr.ok
    have h3 := okL_pure ha; have h4 := okL_one ha
    simp only [pureL, oneL, Bool.and_true] at h3 h4
    simp only [okL, pureL, oneL, h1, h2, h3, h4, Bool.and_self]
  · obtain ⟨ys, zs, rfl, q, r2⟩ := RL_cons.1 r
    exact RL_cons.2 ⟨ys, zs, rfl, q, hr.rl _ _ _ _ r2⟩
theorem leR_vec8 {full full' : Bool} {l : List UInt8} {as bs : List AV} (hf : full = true → full' = true) (hr : leR as bs) : leR (.vec8 full' l :: as) (.vec8 full l :: bs) := by
  refine leR.mk ?_ fun ρ I w vs r => ?_
  · have h1 := okL_pure hr.ok; have h2 := okL_one hr.ok
    simp only [okL, pureL, pureA, oneL, oneA, h1, h2, Bool.and_self]
  · obtain ⟨ys, zs, rfl, ⟨v, rfl, a, cap, k6, k7, k8, k9⟩, r2⟩ := RL_cons.1 r
    exact RL_cons.2 ⟨[v], zs, rfl, ⟨v, rfl, a, cap, k6, k7, fun h => k8 (hf h), k9⟩, hr.rl _ _ _ _ r2⟩
/-- A row of nothing. -/
theorem leR_nil {a : AV} (ha : nilS a = true) {k : Nat} {g : Nat → List AV} {full : Bool} {as bs : List AV} (hr : leR as bs) : leR (a :: as) (.vecr full k 0 g :: bs) := by
  refine leR.mk ?_ fun ρ I w vs r => ?_
  · have h1 := okL_pure hr.ok; have h2 := okL_one hr.ok
    simp only [okL, pureL, pureA, oneL, oneA, h1, h2, Bool.and_self]
  · obtain ⟨ys, zs, rfl, q, r2⟩ := RL_cons.1 r
    obtain ⟨x, rfl⟩ := nilS_R ha q
    exact RL_cons.2 ⟨_, zs, rfl, ⟨_, rfl, (rel_vecr.1 (nil_vecr (ρ := ρ) (I := I) (w := w) (full := full) (c := k) (g := g) (x := x)))⟩, hr.rl _ _ _ _ r2⟩
theorem leR_end : leR [] [] := leR.refl rfl

theorem valOf_ag {a : AV} (ha : a ≠ .any) {v : Value} {Ra : List Value → Prop} : valOf a v Ra ↔ if isAg a then ∃ cs : Array Value, v = .agg cs ∧ Ra cs.toList else Ra [v] := by
  cases a <;> first | exact absurd rfl ha | exact Iff.rfl
theorem rel_of_le {a b : AV} (hag : isAg a = isAg b) (ha : a = .any → b = .any) (h : ∀ xs, R ρ I w a xs → R ρ' I w b xs) {v : Value} (r : rel ρ I w a v) : rel ρ' I w b v := by
  by_cases hb : b = .any
  · subst hb; exact rel_any
  · have ha' : a ≠ .any := fun e => hb (ha e)
    have r1 := (valOf_ag ha').1 r
    refine (valOf_ag hb).2 ?_
    rw [← hag]
    split at r1
    · rename_i hg
      rw [if_pos hg]
      obtain ⟨cs, h1, h2⟩ := r1
      exact ⟨cs, h1, h _ h2⟩
    · rename_i hg
      rw [if_neg hg]
      exact h _ r1
theorem nilS_ag {a : AV} (h : nilS a = true) : isAg a = false ∧ a ≠ .any := by
  unfold nilS at h
  split at h
  · exact ⟨rfl, by simp⟩
  · exact ⟨rfl, by simp⟩
  · cases h
theorem leA1_ag {n : Nat} {srcs : List (Option Nat)} {a b : AV} {k : Prop} (hb : b ≠ .any) (h : leA1 n srcs a b k) : isAg a = isAg b ∧ (a = .any → b = .any) := by
  unfold leA1 at h
  split at h
  · exact absurd rfl hb
  · split at h
    · exact ⟨rfl, by simp⟩
    · exact h.elim
  · split at h
    · exact ⟨rfl, by simp⟩
    · obtain ⟨q1, q2⟩ := nilS_ag (cnd_iff.1 h).1
      exact ⟨q1, fun e => absurd e q2⟩
  · split at h
    · exact ⟨rfl, by simp⟩
    · obtain ⟨q1, q2⟩ := nilS_ag (cnd_iff.1 h).1
      exact ⟨q1, fun e => absurd e q2⟩
  · split at h
    · exact ⟨rfl, by simp⟩
    · exact ⟨rfl, by simp⟩
    · obtain ⟨q1, q2⟩ := nilS_ag (cnd_iff.1 h).1
      exact ⟨q1, fun e => absurd e q2⟩
  · split at h
    · exact ⟨rfl, by simp⟩
    · exact h.elim
  · obtain ⟨_, rfl, _⟩ := cnd_iff.1 h
    exact ⟨rfl, fun e => e⟩

theorem leC1_sound {n : Nat} {srcs : List (Option Nat)} (hρ : ∀ i j, isO i (oldId n srcs j) = true → ρ' j = ρ i) (hlow : ∀ i, i < n → ρ' i = ρ i) : ∀ {c d : List AV} {k : Prop}, leC1 n srcs c d k → (∀ xs, RL ρ I w c xs → RL ρ' I w d xs) ∧ k
  | [], [], k, h => ⟨fun _ h => h, h⟩
  | a :: as, b :: bs, k, h => by
    obtain ⟨h1, h2⟩ := leA1_sound (I := I) (w := w) hρ hlow (k := leC1 n srcs as bs k) h
    obtain ⟨h3, h4⟩ := leC1_sound hρ hlow h2
    refine ⟨fun xs r => ?_, h4⟩
    obtain ⟨ys, zs, rfl, k1, k2⟩ := RL_cons.1 r
    exact RL_cons.2 ⟨ys, zs, rfl, h1 _ k1, h3 _ k2⟩
  | [], _ :: _, k, h => h.elim
  | _ :: _, [], k, h => h.elim

theorem leAM_sound {n : Nat} {srcs : List (Option Nat)} (hρ : ∀ i j, isO i (oldId n srcs j) = true → ρ' j = ρ i) (hlow : ∀ i, i < n → ρ' i = ρ i) {a b : AV} {k : Prop} (h : leAM n srcs a b k) :
    (∀ v, rel ρ I w a v → rel ρ' I w b v) ∧ k := by
  unfold leAM at h
  split at h
  · exact ⟨fun _ _ => rel_any, h⟩
  · split at h
    · obtain ⟨h1, h2⟩ := leC1_sound (I := I) (w := w) hρ hlow h
      refine ⟨fun v r => ?_, h2⟩
      obtain ⟨cs, rfl, r2⟩ := rel_agg.1 r
      exact rel_agg.2 ⟨cs, rfl, (RL_fl _ _).2 (h1 _ ((RL_fl _ _).1 r2))⟩
    · obtain ⟨h1, rfl, h2⟩ := cnd_iff.1 h
      exact ⟨fun v r => rel_refs hlow (by simpa [refsA] using h1) r, h2⟩
  · rename_i hany hagg
    obtain ⟨h1, h2⟩ := leA1_sound (I := I) (w := w) hρ hlow h
    obtain ⟨q1, q2⟩ := leA1_ag hany h
    exact ⟨fun v r => rel_of_le q1 q2 h1 r, h2⟩

theorem leTM_sound {n : Nat} {srcs : List (Option Nat)} (hρ : ∀ i j, isO i (oldId n srcs j) = true → ρ' j = ρ i) (hlow : ∀ i, i < n → ρ' i = ρ i) : ∀ {t T : List AV} {k : Prop}, leTM n srcs t T k → (∀ vs, RV ρ I w t vs → RV ρ' I w T vs) ∧ k
  | [], [], k, h => ⟨fun _ h => h, h⟩
  | a :: as, b :: bs, k, h => by
    obtain ⟨h1, h2⟩ := leAM_sound (I := I) (w := w) hρ hlow (k := leTM n srcs as bs k) h
    obtain ⟨h3, h4⟩ := leTM_sound hρ hlow h2
    refine ⟨fun vs r => ?_, h4⟩
    obtain ⟨x, xs, rfl, k1, k2⟩ := RV_cons.1 r
    exact RV_cons.2 ⟨x, xs, rfl, h1 _ k1, h3 _ k2⟩
  | [], _ :: _, k, h => h.elim
  | _ :: _, [], k, h => h.elim
end

/-- An entry says no more than another one, in which numbers are other ones. -/
def weakM (n : Nat) (srcs : List (Option Nat)) (e e' : Ent) : Prop :=
  e' = .dead ∨ (∃ c c' f, e = .blk c f ∧ e' = .blk c' f ∧ ∀ (ρ ρ' : Rho) I w, (∀ i j, isO i (oldId n srcs j) = true → ρ' j = ρ i) → (∀ i, i < n → ρ' i = ρ i) → ∀ xs, RL ρ I w c xs → RL ρ' I w c' xs) ∨ (e = e' ∧ e'.grows = true ∧ refsE n e' = true)

theorem leEM_sound {n : Nat} {srcs : List (Option Nat)} {e e' : Ent} {k : Prop} (h : leEM n srcs e e' k) : weakM n srcs e e' ∧ k := by
  unfold leEM at h
  split at h
  · exact ⟨.inl rfl, h⟩
  · split at h
    · obtain ⟨h1, h2⟩ := cnd_iff.1 h
      cases eqF_eq h1
      have hk : k := (leC1_sound (ρ := fun _ => none) (ρ' := fun _ => none) (I := fun _ _ => True) (w := default) (fun _ _ _ => rfl) (fun _ _ => rfl) h2).2
      exact ⟨.inr (.inl ⟨_, _, _, rfl, rfl, fun ρ ρ' I w q1 q2 xs r => (RL_fl _ _).2 ((leC1_sound (I := I) (w := w) q1 q2 h2).1 xs ((RL_fl _ _).1 r))⟩), hk⟩
    · exact h.elim
  · split at h
    · obtain ⟨h1, rfl, h2⟩ := cnd_iff.1 h
      cases eqF_eq h1
      exact ⟨.inr (.inr ⟨rfl, rfl, rfl⟩), h2⟩
    · exact h.elim
  · split at h
    · obtain ⟨h1, rfl, h2⟩ := cnd_iff.1 h
      simp only [Bool.and_eq_true, beq_iff_eq] at h1
      obtain ⟨⟨rfl, h1⟩, h3⟩ := h1
      cases eqF_eq h1
      exact ⟨.inr (.inr ⟨rfl, rfl, h3⟩), h2⟩
    · exact h.elim
  · split at h
    · obtain ⟨h1, rfl, h2⟩ := cnd_iff.1 h
      simp only [beq_iff_eq] at h1
      subst h1
      exact ⟨.inr (.inr ⟨rfl, rfl, rfl⟩), h2⟩
    · exact h.elim
  · exact h.elim

theorem leHM_sound {n : Nat} {srcs : List (Option Nat)} : ∀ {H H' : Heap} {k : Prop}, leHM n srcs H H' k → (H.length = H'.length ∧ ∀ (i : Nat) (e e' : Ent), H[i]? = some e → H'[i]? = some e' → weakM n srcs e e') ∧ k
  | [], [], k, h => ⟨⟨rfl, fun _ _ _ h => by simp at h⟩, h⟩
  | a :: as, b :: bs, k, h => by
    obtain ⟨h1, h2⟩ := leEM_sound h
    obtain ⟨⟨h3, h5⟩, h4⟩ := leHM_sound h2
    refine ⟨⟨by simp [h3], fun i e e' g g' => ?_⟩, h4⟩
    cases i with
    | zero => simp at g g'; subst g; subst g'; exact h1
    | succ i => exact h5 i e e' (by simpa using g) (by simpa using g')
  | [], _ :: _, k, h => h.elim
  | _ :: _, [], k, h => h.elim

theorem leXM_sound {n : Nat} {srcs : List (Option Nat)} {H : Heap} : ∀ {ss : List (Option Nat)} {X : List Ent} {k : Prop}, leXM n srcs H ss X k →
    (∀ (j : Nat) (e' : Ent), X[j]? = some e' → (∃ i e, ss[j]? = some (some i) ∧ H[i]? = some e ∧ weakM n srcs e e') ∨ (ss[j]? = some none ∧ nilE e' = true)) ∧ k
  | [], [], k, h => ⟨fun _ _ h => by simp at h, h⟩
  | s :: ss, e :: es, k, h => by
    unfold leXM at h
    split at h
    · rename_i i
      obtain ⟨h1, h2⟩ := cnd_iff.1 h
      obtain ⟨h3, h4⟩ := leEM_sound h2
      obtain ⟨h5, h6⟩ := leXM_sound h4
      refine ⟨fun j e' hj => ?_, h6⟩
      cases j with
      | zero =>
        simp at hj; subst hj
        have hlt := ltB_iff.1 h1
        refine .inl ⟨i, H[i], rfl, by simp [hlt], ?_⟩
        rw [List.getD_eq_getElem?_getD, List.getElem?_eq_getElem hlt] at h3
        exact h3
      | succ j => exact h5 j e' (by simpa using hj)
    · obtain ⟨h1, h2⟩ := cnd_iff.1 h
      obtain ⟨h5, h6⟩ := leXM_sound h2
      refine ⟨fun j e' hj => ?_, h6⟩
      cases j with
      | zero => simp at hj; subst hj; exact .inr ⟨rfl, h1⟩
      | succ j => exact h5 j e' (by simpa using hj)
  | [], _ :: _, k, h => h.elim
  | _ :: _, [], k, h => by cases ‹Option Nat› <;> exact h.elim

theorem apart_spec {n : Nat} {H' : Heap} : ∀ {ss : List (Option Nat)}, apart n H' ss = true → (∀ (j i : Nat), ss[j]? = some (some i) → n ≤ i ∨ (H'.getD i .dead).live = false) ∧ (∀ (j j' i : Nat), ss[j]? = some (some i) → ss[j']? = some (some i) → j = j')
  | [], _ => ⟨fun _ _ h => by simp at h, fun _ _ _ h => by simp at h⟩
  | none :: ss, h => by
    obtain ⟨h1, h2⟩ := apart_spec (ss := ss) h
    refine ⟨fun j i q => ?_, fun j j' i q q' => ?_⟩
    · cases j with
      | zero => simp at q
      | succ j => exact h1 j i (by simpa using q)
    · cases j with
      | zero => simp at q
      | succ j => cases j' with
        | zero => simp at q'
        | succ j' => rw [h2 j j' i (by simpa using q) (by simpa using q')]
  | some i0 :: ss, h => by
    simp only [apart, Bool.and_eq_true, Bool.or_eq_true, Bool.not_eq_true'] at h
    obtain ⟨⟨ha, hb⟩, hc⟩ := h
    obtain ⟨h1, h2⟩ := apart_spec (ss := ss) hc
    have hno : ∀ j, ss[j]? ≠ some (some i0) := fun j q => by
      have := List.mem_of_getElem? q
      rw [List.contains_eq_mem] at hb
      simp at hb
      exact hb this
    refine ⟨fun j i q => ?_, fun j j' i q q' => ?_⟩
    · cases j with
      | zero =>
        simp at q; subst q
        rcases ha with ha | ha
        · exact .inl (leB_iff.1 ha)
        · exact .inr ha
      | succ j => exact h1 j i (by simpa using q)
    · cases j with
      | zero =>
        simp at q; subst q
        cases j' with
        | zero => rfl
        | succ j' => exact absurd (by simpa using q') (hno j')
      | succ j => cases j' with
        | zero => simp at q'; subst q'; exact absurd (by simpa using q) (hno j)
        | succ j' => rw [h2 j j' i (by simpa using q) (by simpa using q')]

section
variable {P : Program} {G : Env P} {ρ : Rho} {I : Imm} {w : World}

set_option maxHeartbeats 1000000 in
theorem leM_sound {n : Nat} {vs : List AV} {s : St} {T : List AV} {H' : Heap} {X : List Ent} (h : leM n vs s T H' X) (c : Conc G.g ρ I s.H w) {a : Act} (r : RelT ρ I w s.t a) {ρ0 : Rho} {I0 : Imm} {H0 : Heap} {w0 : World}
    (gd : Good ρ0 I0 H0 w0 ρ I s.H w) (hd : ∀ id, ρ0 id ≠ none → id < n) (hle : H0.length ≤ n) (hl' : H'.length = n) (hn : n ≤ s.H.length) : ∃ ρ', Good ρ0 I0 H0 w0 ρ' I (H' ++ X) w ∧ Conc G.g ρ' I (H' ++ X) w ∧ RelT ρ' I w T a := by
  unfold leM at h
  split at h
  case h_2 => exact h.elim
  rename_i srcs _
  obtain ⟨h1, h2⟩ := cnd_iff.1 h
  simp only [Bool.and_eq_true, beq_iff_eq] at h1
  obtain ⟨hlen, hap⟩ := h1
  obtain ⟨hap1, hap2⟩ := apart_spec hap
  have hmov : ∀ i j, isO i (oldId n srcs j) = true → movR n srcs ρ j = ρ i := fun i j h => movR_old h
  have hlow : ∀ i, i < n → movR n srcs ρ i = ρ i := movR_low
  obtain ⟨hT, h3⟩ := leTM_sound (I := I) (w := w) hmov hlow h2
  obtain ⟨⟨_, hH⟩, h4⟩ := leHM_sound h3
  obtain ⟨hX, _⟩ := leXM_sound h4
  -- each live entry comes off an old one, or is of nothing
  have from_ : ∀ (j : Nat) (e' : Ent), (H' ++ X)[j]? = some e' → (∃ i e, s.H[i]? = some e ∧ weakM n srcs e e' ∧ movR n srcs ρ j = ρ i ∧ ((j < n ∧ i = j) ∨ (n ≤ j ∧ srcs[j - n]? = some (some i)))) ∨ (n ≤ j ∧ movR n srcs ρ j = some none ∧ nilE e' = true) := by
    intro j e' hj
    rcases Nat.lt_or_ge j n with hjn | hjn
    · rw [List.getElem?_append_left (by omega)] at hj
      have : j < s.H.length := by omega
      exact .inl ⟨j, s.H[j], by simp [this], hH j _ e' (by simp [hjn, this]) hj, hlow j hjn, .inl ⟨hjn, rfl⟩⟩
    · rw [List.getElem?_append_right (by omega), hl'] at hj
      rcases hX _ _ hj with ⟨i, e, q1, q2, q3⟩ | ⟨q1, q2⟩
      · exact .inl ⟨i, e, q2, q3, by simp [movR, Nat.not_lt.2 hjn, q1], .inr ⟨hjn, q1⟩⟩
      · exact .inr ⟨hjn, by simp [movR, Nat.not_lt.2 hjn, q1], q2⟩
  have gl : ∀ (e : Ent), e.grows = true → e.live = true := by intro e h; cases e <;> simp_all [Ent.grows, Ent.live]
  have wlive : ∀ {e e' : Ent}, weakM n srcs e e' → e'.live = true → e.live = true ∧ e.frz = e'.frz ∧ (e'.grows = true → e = e') := by
    intro e e' hw hl
    rcases hw with rfl | ⟨c, c', f, rfl, rfl, _⟩ | ⟨rfl, _⟩
    · simp [Ent.live] at hl
    · exact ⟨rfl, rfl, fun h => by simp [Ent.grows] at h⟩
    · exact ⟨hl, rfl, fun _ => rfl⟩
  have own1 : ∀ (j : Nat) (e' : Ent) (b : Nat), (H' ++ X)[j]? = some e' → e'.live = true → movR n srcs ρ j = some (some b) → ∃ i e, s.H[i]? = some e ∧ e.live = true ∧ e.frz = e'.frz ∧ ρ i = some (some b) := by
    intro j e' b hj hl hb
    rcases from_ j e' hj with ⟨i, e, q1, q2, q3, _⟩ | ⟨_, q2, _⟩
    · obtain ⟨k1, k2, _⟩ := wlive q2 hl
      exact ⟨i, e, q1, k1, k2, by rw [← q3]; exact hb⟩
    · rw [q2] at hb; simp at hb
  have mutb : ∀ b o, Mut (movR n srcs ρ) (H' ++ X) b o → Mut ρ s.H b o := by
    rintro b o ⟨j, e', q1, q2, q3, q4⟩
    obtain ⟨i, e, k1, k2, k3, k4⟩ := own1 j e' b q1 q2 q3
    exact ⟨i, e, k1, k2, k4, k3 ▸ q4⟩
  have ownb : ∀ b, Own (movR n srcs ρ) (H' ++ X) b → Own ρ s.H b := by
    rintro b ⟨j, e', q1, q2, q3⟩
    obtain ⟨i, e, k1, k2, _, k4⟩ := own1 j e' b q1 q2 q3
    exact ⟨i, e, k1, k2, k4⟩
  refine ⟨movR n srcs ρ, ⟨fun id x h => ?_, fun id x h ⟨e, q1, q2⟩ => ?_, by simp; omega, gd.imm, gd.imm', gd.os, gd.tape, gd.out, gd.size, gd.cell, gd.block, gd.bs, fun b o hb h => gd.wrt b o hb (mutb b o h), fun b hb h => gd.own b hb (ownb b h)⟩,
    ⟨?_, ?_, ?_, ?_, ?_, ?_, fun b o h => ⟨(c.imm b o h).1, fun hm => (c.imm b o h).2 (mutb b o hm)⟩, c.glob⟩, hT _ r.tr, r.defers⟩
  · rw [hlow id (hd id (by simp [h]))]; exact gd.ext id x h
  · have hid := hd id (by simp [h])
    rcases from_ id e q1 with ⟨i, e0, k1, k2, k3, k4⟩ | ⟨k1, _⟩
    · rcases k4 with ⟨_, rfl⟩ | ⟨k4, _⟩
      · obtain ⟨_, _, k5⟩ := wlive k2 (gl e q2)
        cases k5 q2
        exact gd.kp i x h ⟨_, k1, q2⟩
      · omega
    · omega
  · intro id h
    by_cases e : id < n
    · simp; omega
    · unfold movR at h
      simp only [e, if_false] at h
      have : id - n < srcs.length := by
        rcases Nat.lt_or_ge (id - n) srcs.length with h' | h'
        · exact h'
        · rw [List.getElem?_eq_none h'] at h; simp at h
      simp; omega
  · intro id h
    exfalso
    rcases from_ id _ h with ⟨i, e, _, q2, _⟩ | ⟨_, _, q⟩
    · rcases q2 with q2 | ⟨_, _, _, _, q2, _⟩ | ⟨_, q2, _⟩
      · simp at q2
      · simp at q2
      · simp [Ent.grows] at q2
    · simp [nilE] at q
  · intro id b h
    by_cases e : id < n
    · rw [hlow id e] at h; exact c.blt id b h
    · unfold movR at h
      simp only [e, if_false] at h
      split at h
      · exact c.blt _ b h
      · simp at h
      · simp at h
  · intro i j b e e' hi l1 hj l2 hbi hbj
    rcases from_ i e hi with ⟨i0, e0, q1, q2, q3, q4⟩ | ⟨_, q2, _⟩
    case inr => rw [q2] at hbi; simp at hbi
    rcases from_ j e' hj with ⟨j0, f0, p1, p2, p3, p4⟩ | ⟨_, p2, _⟩
    case inr => rw [p2] at hbj; simp at hbj
    have heq := c.inj i0 j0 b e0 f0 q1 (wlive q2 l1).1 p1 (wlive p2 l2).1 (q3 ▸ hbi) (p3 ▸ hbj)
    subst heq
    have lowlive : ∀ k ek, (H' ++ X)[k]? = some ek → ek.live = true → k < n → (H'.getD k .dead).live = true := by
      intro k ek hk hl hkn
      rw [List.getElem?_append_left (by omega)] at hk
      rw [List.getD_eq_getElem?_getD, hk]
      exact hl
    rcases q4 with ⟨q4, rfl⟩ | ⟨q4, q5⟩
    · rcases p4 with ⟨p4, rfl⟩ | ⟨p4, p5⟩
      · rfl
      · rcases hap1 _ _ p5 with h' | h'
        · omega
        · rw [lowlive i0 e hi l1 q4] at h'; simp at h'
    · rcases p4 with ⟨p4, rfl⟩ | ⟨p4, p5⟩
      · rcases hap1 _ _ q5 with h' | h'
        · omega
        · rw [lowlive i0 e' hj l2 p4] at h'; simp at h'
      · have := hap2 _ _ _ q5 p5
        omega
  · intro id cs f h
    rcases from_ id _ h with ⟨i, e, q1, q2, q3, _⟩ | ⟨_, _, q⟩
    · rcases q2 with q2 | ⟨c0, c', f0, rfl, q2, q5⟩ | ⟨_, q2, _⟩
      · simp at q2
      · simp only [Ent.blk.injEq] at q2
        obtain ⟨rfl, rfl⟩ := q2
        obtain ⟨b, el, fr, us, p1, p2, p3, p4⟩ := c.blk i c0 f q1
        exact ⟨b, el, fr, us, by rw [q3]; exact p1, p2, q5 _ _ _ _ hmov hlow us p3, p4⟩
      · simp [Ent.grows] at q2
    · simp [nilE] at q
  · intro id e h he
    rcases from_ id _ h with ⟨i, e0, q1, q2, q3, _⟩ | ⟨_, q2, q⟩
    · rcases q2 with rfl | ⟨_, _, _, _, rfl, _⟩ | ⟨rfl, q2, q5⟩
      · simp [Ent.grows] at he
      · simp [Ent.grows] at he
      · obtain ⟨p0, p⟩ := c.grow i e0 q1 he
        refine ⟨p0, ?_⟩
        rcases p with ⟨p1, p2⟩ | ⟨b, el, fr, us, rest, p1, p2, p3, p4⟩
        · exact .inl ⟨by rw [q3]; exact p1, p2⟩
        · refine .inr ⟨b, el, fr, us, rest, by rw [q3]; exact p1, p2, RL_refs hlow e0.cells us ?_ p3, p4⟩
          cases e0 <;> first | exact q5 | rfl
    · cases e with
      | grow8 l f =>
        simp only [nilE, Bool.and_eq_true, List.isEmpty_iff] at q
        obtain ⟨rfl, rfl⟩ := q
        exact ⟨trivial, .inl ⟨q2, rfl⟩⟩
      | grow k rows f =>
        simp only [nilE, Bool.and_eq_true, List.isEmpty_iff] at q
        obtain ⟨rfl, rfl⟩ := q
        exact ⟨fun a h => by simp at h, .inl ⟨q2, rfl⟩⟩
      | tail k m => exact ⟨trivial, .inl ⟨q2, rfl⟩⟩
      | _ => simp [Ent.grows] at he
end
end
end Go.V

/- The abstract layer (third state), part F: loops by plan, calls walked through, the walker over code; a contract off a walk. -/
set_option linter.unusedSimpArgs false
set_option linter.unusedVariables false
namespace Go.V
open Go
noncomputable section

/-- How a loop is walked: so many rounds; or by what holds at each round's head. -/
inductive LPlan where
  | none
  | unroll (n : Nat)
  | inv (α : Type) (ok : α → Prop) (m : α → Nat) (T : α → List AV) (H : α → Heap)
  | invg (α : Type) (g : Nat) (ok : AV → α → Prop) (m : α → Nat) (T : α → List AV) (H : α → Heap)
  | rel (keep gs : List Nat) (α : Type) (ok : List AV → α → Prop) (m : α → Nat) (T : α → List (Nat × AV)) (H : α → List (Nat × Ent))
  | mv (keep gs : List Nat) (α : Type) (ok : List AV → α → Prop) (m : α → Nat) (ds : St → List AV) (T : Nat → α → List (Nat × AV)) (H : Nat → α → List (Nat × Ent)) (X : α → List Ent)

/-- These places alone, of a list. -/
def keepT (keep : List Nat) : Nat → List AV → List AV
  | _, [] => []
  | i, a :: as => (bif keep.contains i then a else .any) :: keepT keep (i + 1) as
def setAt : List AV → Nat → AV → List AV
  | [], _, _ => []
  | _ :: as, 0, x => x :: as
  | a :: as, n + 1, x => a :: setAt as n x
def updT : List AV → List (Nat × AV) → List AV
  | t, [] => t
  | t, (i, x) :: u => updT (setAt t i x) u
def setE : Heap → Nat → Ent → Heap
  | [], _, _ => []
  | _ :: as, 0, x => x :: as
  | a :: as, n + 1, x => a :: setE as n x
def deadR : Heap → Heap
  | [] => []
  | e :: H => (match e with | .res => .dead | e => e) :: deadR H
def updE : Heap → List (Nat × Ent) → Heap
  | H, [] => deadR H
  | H, (i, x) :: u => updE (setE H i x) u

/-- The first region's number. -/
def frid : Code → Nat
  | .region id _ _ => id
  | .seq a _ => frid a
  | .cond _ a _ => frid a
  | .block _ c => frid c
  | .loop c => frid c
  | _ => 0

def leA (a b : AV) (k : Prop) : Prop :=
  match b with
  | .any => k
  | .ptr j p => match a with
    | .ptr i o => cnd ((i == j) && (o == p)) k
    | _ => False
  | .slv j p m g => match a with
    | .slv i o n f => cnd ((i == j) && (o == p)) (n = m ∧ (∀ x, x < m → f x = g x) ∧ k)
    | _ => False
  | b => a = b ∧ k
def leT : List AV → List AV → Prop → Prop
  | [], [], k => k
  | a :: as, b :: bs, k => leA a b (leT as bs k)
  | _, _, _ => False
def leC : List AV → List AV → Prop → Prop
  | [], [], k => k
  | a :: as, b :: bs, k => match b with
    | .any => cnd (szA a == 1) (leC as bs k)
    | .ptr j p => match a with
      | .ptr i o => cnd ((i == j) && (o == p)) (leC as bs k)
      | _ => False
    | b => a = b ∧ leC as bs k
  | _, _, _ => False
def leE (e e' : Ent) (k : Prop) : Prop :=
  match e' with
  | .dead => k
  | .blk c' f' => match e with
    | .blk c f => cnd (eqF f f') (leC (flL c) (flL c') k)
    | _ => False
  | .grow8 l' f' => match e with
    | .grow8 l f => cnd (eqF f f') (l = l' ∧ k)
    | _ => False
  | .grow n' r' f' => match e with
    | .grow n r f => cnd ((n == n') && eqF f f') (r = r' ∧ k)
    | _ => False
  | .tail k' n' => match e with
    | .tail k2 n => cnd (k2 == k') (n = n' ∧ k)
    | _ => False
  | .res => False
def leH : Heap → Heap → Prop → Prop
  | [], [], k => k
  | a :: as, b :: bs, k => leE a b (leH as bs k)
  | _, _, _ => False
/-- One state says no more than another one, of which the later entries are forgotten. -/
def leS (n : Nat) (s : St) (T : List AV) (H : Heap) : Prop := leT s.t T (leH (s.H.take n) H True)

def refsOk (n : Nat) (T : List AV) (H : Heap) : Bool := refsL n T && H.all fun e => match e with
  | .blk c _ => refsL n c
  | .grow _ rows _ => refsL n rows
  | _ => true

def fS (s : St) (k : St → Prop) : Prop := fL s.t fun t => fH s.H fun H => k ⟨t, H⟩
theorem fS_eq (s : St) (k : St → Prop) : fS s k = k s := by simp only [fS, fL_eq, fH_eq]
def loopU (F : (Exit → St → Prop) → St → Prop) : Nat → (Exit → St → Prop) → St → Prop
  | 0, _, _ => False
  | n + 1, Q, s => F (thenA (loopU F n Q) Q) s

def loopV (pl : LPlan) (F : (Exit → St → Prop) → St → Prop) (Q : Exit → St → Prop) (s : St) : Prop :=
  match pl with
  | .none => False
  | .unroll n => loopU F n Q s
  | .inv α ok m T H => (∃ a : α, ok a ∧ leS s.H.length s (T a) (H a)) ∧
      ∀ a : α, ok a → cnd (((H a).length == s.H.length) && refsOk s.H.length (T a) (H a)) (fS ⟨T a, H a⟩ (F (thenA (fun s' => ∃ b : α, (m b < m a ∧ ok b) ∧ leS s.H.length s' (T b) (H b)) Q)))
  | .invg α g ok m T H => (∃ a : α, ok (s.t.getD g .any) a ∧ leS s.H.length s (T a) (H a)) ∧
      ∀ a : α, ok (s.t.getD g .any) a → cnd (((H a).length == s.H.length) && refsOk s.H.length (T a) (H a)) (fS ⟨T a, H a⟩ (F (thenA (fun s' => ∃ b : α, (m b < m a ∧ ok (s.t.getD g .any) b) ∧ leS s.H.length s' (T b) (H b)) Q)))
  | .rel keep gs α ok m T H => (∃ a : α, ok (gs.map fun i => s.t.getD i .any) a ∧ leS s.H.length s (updT (keepT keep 0 s.t) (T a)) (updE s.H (H a))) ∧
      ∀ a : α, ok (gs.map fun i => s.t.getD i .any) a → cnd (((updE s.H (H a)).length == s.H.length) && refsOk s.H.length (updT (keepT keep 0 s.t) (T a)) (updE s.H (H a))) (fS ⟨updT (keepT keep 0 s.t) (T a), updE s.H (H a)⟩ (F (thenA (fun s' => ∃ b : α, (m b < m a ∧ ok (gs.map fun i => s.t.getD i .any) b) ∧ leS s.H.length s' (updT (keepT keep 0 s.t) (T b)) (updE s.H (H b))) Q)))
  | .mv keep gs α ok m ds T H X => (∃ a : α, ok (gs.map fun i => s.t.getD i .any) a ∧ leM s.H.length (ds s) s (updT (keepT keep 0 s.t) (T s.H.length a)) (updE s.H (H s.H.length a)) (X a)) ∧
      ∀ a : α, ok (gs.map fun i => s.t.getD i .any) a → cnd ((updE s.H (H s.H.length a)).length == s.H.length) (fS ⟨updT (keepT keep 0 s.t) (T s.H.length a), updE s.H (H s.H.length a) ++ X a⟩ (F (thenA (fun s' => ∃ b : α, (m b < m a ∧ ok (gs.map fun i => s.t.getD i .any) b) ∧ cnd (leB s.H.length s'.H.length) (leM s.H.length (ds s') s' (updT (keepT keep 0 s.t) (T s.H.length b)) (updE s.H (H s.H.length b)) (X b))) Q)))

/-- A scope that starts with its label, as a loop: a goto to the label is the next round. -/
def swapA (l : Nat) (Z : Exit → St → Prop) : Exit → St → Prop
  | .goto l', s => bif l' == l then Z .normal s else False
  | .normal, s => Z (.goto l) s
  | e, s => Z e s
def scopeV (pl : LPlan) (F : (Exit → St → Prop) → St → Prop) (Q : Exit → St → Prop) (s : St) : Prop :=
  match pl with
  | .mv _ _ _ _ _ _ _ _ _ => loopV pl F Q s
  | _ => False

/-- What the caller need not know of what a callee made is forgotten. -/
def qEs (n : Nat) (H : Heap) : Bool := @List.rec Ent (fun _ => Bool) true (fun e _ ih => (match e with
  | .blk c _ => qL n c
  | .grow _ rows _ => qL n rows
  | _ => true) && ih) H
theorem qEs_eq (n : Nat) : ∀ H : Heap, qEs n H = refsOk n [] H
  | [] => rfl
  | e :: r => by
    have h := qEs_eq n r
    unfold refsOk at h ⊢
    have e1 : refsL n [] = true := rfl
    rw [e1, Bool.true_and] at h ⊢
    rw [List.all_cons, ← h]
    cases e <;> simp only [qEs, qL_eq]
def gcH (n : Nat) (v : AV) (H : Heap) : Heap := bif qA n v && qEs n (H.take n) then H.take n else H

/-- A question, and what is known of it behind it. -/
def condT (t : List AV) (c : Operand) (v : AV) (x y : List AV → Prop) : Prop := match v with
  | .bool b => match c with
    | .tmp d => ite2 b (setB t d true x) (setB t d false y)
    | _ => ite2 b (x t) (y t)
  | _ => stuckIn 1 v
section
variable {P : Program} (G : Env P) (R : ROps G) (C : FuncId → List AV → Option (Bool × Out))

def aw3 (cl : FuncId → List AV → St → Option Tmp → (St → Prop) → Prop) (L : Nat → LPlan) : Code → (Exit → St → Prop) → St → Prop
  | .skip, Q, s => Q .normal s
  | .label _, Q, s => Q .normal s
  | .exit id, Q, s => Q (.exit id) s
  | .goto l, Q, s => Q (.goto l) s
  | .ret, Q, s => Q .ret s
  | .seq x y, Q, s => aw3 cl L x (thenA (aw3 cl L y Q) Q) s
  | .cond c x y, Q, s => condT s.t c (evA G s.t c) (fun t => aw3 cl L x Q ⟨t, s.H⟩) (fun t => aw3 cl L y Q ⟨t, s.H⟩)
  | .block id c, Q, s => aw3 cl L c (blockA id Q) s
  | .region _ ops false, Q, s => sops G R C cl ops ops.toList s (Q .normal)
  | .region _ ops true, Q, s => dopsL G R C ops ops.toList s.H.length ⟨s.t, s.H ++ List.replicate (countS G ops.toList) .res⟩ [] (drawn ops fun e s' => fH (trim (s'.H.length - s.H.length) s'.H) fun H => Q e ⟨s'.t, H⟩)
      (fun o f args s' tr => cnd (indepB ops tr && lastAll ops) (cnd (G.go f) (fH (trim (s'.H.length - s.H.length) s'.H) fun H => cl f args ⟨s'.t, H⟩ o.dst (Q .normal))))
  | .loop c, Q, s => loopV (L (frid c)) (fun Q s => aw3 cl L c Q s) Q s
  | .scope (.seq (.label l) x), Q, s => scopeV (L (frid x)) (fun Z s => aw3 cl L x (swapA l Z) s) (swapA l Q) s
  | _, _, _ => False

def cinl (L : FuncId → Nat → LPlan) : Nat → FuncId → List AV → St → Option Tmp → (St → Prop) → Prop
  | 0, f, _, _, _, _ => stuckIn (1000 + f) .any
  | n + 1, f, args, s, d, K => match P.funcs[f]? with
    | some fn => match fn.body with
      | some c => fL (args ++ List.replicate (fn.ntmps - args.length) (.tup [])) fun t => aw3 G R C (cinl L n) (L f) c (aend G fn fun v H' => fPut s.t d v fun t => fH (gcH s.H.length v H') fun H => K ⟨t, H⟩) ⟨t, s.H⟩
      | none => False
    | none => False

mutual
def refsOfA : AV → List Nat
  | .sl id _ _ _ => [id]
  | .slv id _ _ _ => [id]
  | .ptr id _ => [id]
  | .tup l => refsOf l
  | .agg l => refsOf l
  | _ => []
def refsOf : List AV → List Nat
  | [] => []
  | a :: as => refsOfA a ++ refsOf as
end
def dedup : List Nat → List Nat → List Nat
  | [], acc => acc
  | a :: as, acc => bif acc.contains a then dedup as acc else dedup as (acc ++ [a])
def posIn : List Nat → Nat → Nat
  | [], _ => 0
  | a :: as, i => bif a == i then 0 else posIn as i + 1

end

mutual
/-- A value with its entries' numbers by their places in a list. -/
def colA (ids : List Nat) : AV → AV
  | .sl id off k len => .sl (posIn ids id) off k len
  | .slv id k n f => .slv (posIn ids id) k n f
  | .ptr id off => .ptr (posIn ids id) off
  | .agg l => .agg (colL ids l)
  | .tup l => .tup (colL ids l)
  | a => a
def colL (ids : List Nat) : List AV → List AV
  | [] => []
  | a :: as => colA ids a :: colL ids as
end
mutual
def colOk (ids : List Nat) : AV → Bool
  | .sl id _ _ _ => ids.contains id
  | .slv id _ _ _ => ids.contains id
  | .ptr id _ => ids.contains id
  | .agg l => colOkL ids l
  | .tup l => colOkL ids l
  | a => refsA 0 a
def colOkL (ids : List Nat) : List AV → Bool
  | [] => true
  | a :: as => colOk ids a && colOkL ids as
end
def colE (H : Heap) : List Nat → Bool
  | [] => true
  | i :: r => (match H[i]? with
    | some e => e.live && refsE 0 e
    | none => false) && colE H r

/-- What is left of memory where a function ends that owned nothing at its beginning. -/
def collectK (K : AV → Heap → Prop) (v : AV) (H : Heap) : Prop :=
  let ids := dedup (refsOf [v]) []
  cnd (colOk ids v && colE H ids) (K (colA ids v) (ids.map fun i => H.getD i .dead))

section
variable {P : Program} (G : Env P) (R : ROps G) (C : FuncId → List AV → Option (Bool × Out))
/-- A function's body, walked through, from no memory at all. -/
def walk (L : FuncId → Nat → LPlan) (n : Nat) (f : FuncId) (args : List AV) (K : AV → Heap → Prop) : Prop :=
  match P.funcs[f]? with
  | some fn => match fn.body with
    | some c => fL (args ++ List.replicate (fn.ntmps - args.length) (.tup [])) fun t => aw3 G R C (cinl G R C L n) (L f) c (aend G fn (collectK K)) ⟨t, []⟩
    | none => False
  | none => False
end
end
end Go.V

/- The abstract layer (third state), part G: the walker holds. -/
set_option linter.unusedSimpArgs false
set_option linter.unusedVariables false
namespace Go.V
open Go
noncomputable section

theorem leA_sound {a b : AV} {k : Prop} (h : leA a b k) : (∀ ρ I w v, rel ρ I w a v → rel ρ I w b v) ∧ k := by
  unfold leA at h
  split at h
  · exact ⟨fun _ _ _ _ _ => rel_any, h⟩
  · split at h
    · obtain ⟨h1, h2⟩ := cnd_iff.1 h
      simp only [Bool.and_eq_true, beq_iff_eq] at h1
      obtain ⟨rfl, rfl⟩ := h1
      exact ⟨fun _ _ _ _ h => h, h2⟩
    · exact h.elim
  · split at h
    · obtain ⟨h1, rfl, h2, h3⟩ := cnd_iff.1 h
      simp only [Bool.and_eq_true, beq_iff_eq] at h1
      obtain ⟨rfl, rfl⟩ := h1
      refine ⟨fun ρ I w v h => ?_, h3⟩
      obtain ⟨k1, k2⟩ := rel_slv.1 h
      obtain ⟨k3, vs, k4, k5, k6⟩ := rel_vecr.1 k1
      exact rel_slv.2 ⟨rel_vecr.2 ⟨fun i hi => by rw [← h2 i hi]; exact k3 i hi, vs, k4, fun i hi => by rw [← h2 i hi]; exact k5 i hi, k6⟩, k2⟩
    · exact h.elim
  · obtain ⟨rfl, h2⟩ := h
    exact ⟨fun _ _ _ _ h => h, h2⟩

theorem leT_sound : ∀ {t T : List AV} {k : Prop}, leT t T k → (∀ ρ I w vs, RV ρ I w t vs → RV ρ I w T vs) ∧ k
  | [], [], k, h => ⟨fun _ _ _ _ h => h, h⟩
  | a :: as, b :: bs, k, h => by
    obtain ⟨h1, h2⟩ := leA_sound (k := leT as bs k) h
    obtain ⟨h3, h4⟩ := leT_sound h2
    refine ⟨fun ρ I w vs r => ?_, h4⟩
    obtain ⟨x, xs, rfl, k1, k2⟩ := RV_cons.1 r
    exact RV_cons.2 ⟨x, xs, rfl, h1 _ _ _ _ k1, h3 _ _ _ _ k2⟩
  | [], _ :: _, k, h => h.elim
  | _ :: _, [], k, h => h.elim

theorem leC_sound : ∀ {c d : List AV} {k : Prop}, leC c d k → (∀ ρ I w vs, RL ρ I w c vs → RL ρ I w d vs) ∧ k
  | [], [], k, h => ⟨fun _ _ _ _ h => h, h⟩
  | a :: as, b :: bs, k, h => by
    have key : ∀ (hab : ∀ ρ I w ys, R ρ I w a ys → R ρ I w b ys), leC as bs k → (∀ ρ I w vs, RL ρ I w (a :: as) vs → RL ρ I w (b :: bs) vs) ∧ k := by
      intro hab h2
      obtain ⟨h3, h4⟩ := leC_sound h2
      refine ⟨fun ρ I w vs r => ?_, h4⟩
      obtain ⟨ys, zs, rfl, k1, k2⟩ := RL_cons.1 r
      exact RL_cons.2 ⟨ys, zs, rfl, hab _ _ _ _ k1, h3 _ _ _ _ k2⟩
    unfold leC at h
    split at h
    · obtain ⟨h1, h2⟩ := cnd_iff.1 h
      refine key (fun ρ I w ys r => ?_) h2
      have := R_len _ _ r
      rw [beq_iff_eq] at h1
      rw [h1] at this
      match ys, this with
      | [y], _ => exact ⟨y, rfl⟩
    · split at h
      · obtain ⟨h1, h2⟩ := cnd_iff.1 h
        simp only [Bool.and_eq_true, beq_iff_eq] at h1
        obtain ⟨rfl, rfl⟩ := h1
        exact key (fun _ _ _ _ h => h) h2
      · exact h.elim
    · obtain ⟨rfl, h2⟩ := h
      exact key (fun _ _ _ _ h => h) h2
  | [], _ :: _, k, h => h.elim
  | _ :: _, [], k, h => h.elim

/-- An entry says no more than another one. -/
def weakE (e e' : Ent) : Prop :=
  e' = .dead ∨ (∃ c c' f, e = .blk c f ∧ e' = .blk c' f ∧ ∀ ρ I w vs, RL ρ I w c vs → RL ρ I w c' vs) ∨ (e = e' ∧ e ≠ .res)

theorem leE_sound {e e' : Ent} {k : Prop} (h : leE e e' k) : weakE e e' ∧ k := by
  unfold leE at h
  split at h
  · exact ⟨.inl rfl, h⟩
  · split at h
    · obtain ⟨h1, h2⟩ := cnd_iff.1 h
      obtain ⟨h3, h4⟩ := leC_sound h2
      cases eqF_eq h1
      exact ⟨.inr (.inl ⟨_, _, _, rfl, rfl, fun ρ I w vs r => (RL_fl _ vs).2 (h3 ρ I w vs ((RL_fl _ vs).1 r))⟩), h4⟩
    · exact h.elim
  · split at h
    · obtain ⟨h1, rfl, h2⟩ := cnd_iff.1 h
      cases eqF_eq h1
      exact ⟨.inr (.inr ⟨rfl, by simp⟩), h2⟩
    · exact h.elim
  · split at h
    · obtain ⟨h1, rfl, h2⟩ := cnd_iff.1 h
      simp only [Bool.and_eq_true, beq_iff_eq] at h1
      obtain ⟨rfl, h1⟩ := h1
      cases eqF_eq h1
      exact ⟨.inr (.inr ⟨rfl, by simp⟩), h2⟩
    · exact h.elim
  · split at h
    · obtain ⟨h1, rfl, h2⟩ := cnd_iff.1 h
      simp only [beq_iff_eq] at h1
      subst h1
      exact ⟨.inr (.inr ⟨rfl, by simp⟩), h2⟩
    · exact h.elim
  · exact h.elim

theorem leH_sound : ∀ {H H' : Heap} {k : Prop}, leH H H' k → (H.length = H'.length ∧ ∀ (i : Nat) (e e' : Ent), H[i]? = some e → H'[i]? = some e' → weakE e e') ∧ k
  | [], [], k, h => ⟨⟨rfl, fun _ _ _ h => by simp at h⟩, h⟩
  | a :: as, b :: bs, k, h => by
    obtain ⟨h1, h2⟩ := leE_sound (k := leH as bs k) h
    obtain ⟨⟨h3, h5⟩, h4⟩ := leH_sound h2
    refine ⟨⟨by simp [h3], fun i e e' g g' => ?_⟩, h4⟩
    cases i with
    | zero => simp at g g'; subst g; subst g'; exact h1
    | succ i => exact h5 i e e' (by simpa using g) (by simpa using g')
  | [], _ :: _, k, h => h.elim
  | _ :: _, [], k, h => h.elim

section
variable {g : Nat → Option (List AV)} {ρ : Rho} {I : Imm} {H : Heap} {w : World}

theorem weak_conc (c : Conc g ρ I H w) {H' : Heap} (hl : H.length = H'.length) (hw : ∀ (i : Nat) (e e' : Ent), H[i]? = some e → H'[i]? = some e' → weakE e e') :
    Conc g ρ I H' w ∧ ∀ {ρ0 : Rho} {I0 : Imm} {H0 : Heap} {w0 : World}, Good ρ0 I0 H0 w0 ρ I H w → Good ρ0 I0 H0 w0 ρ I H' w := by
  have back : ∀ (i : Nat) (e' : Ent), H'[i]? = some e' → ∃ e, H[i]? = some e ∧ weakE e e' := by
    intro i e' h
    have hi := (List.getElem?_eq_some_iff.1 h).1
    exact ⟨H[i], by simp [hl, hi], hw i _ e' (by simp [hl, hi]) h⟩
  have live : ∀ (i : Nat) (e' : Ent), H'[i]? = some e' → e'.live = true → ∃ e, H[i]? = some e ∧ e.live = true ∧ e.frz = e'.frz ∧ (e'.grows = true → e = e') := by
    intro i e' h hl
    obtain ⟨e, h1, h2⟩ := back i e' h
    rcases h2 with rfl | ⟨cs, c', f, rfl, rfl, _⟩ | ⟨rfl, _⟩
    · simp [Ent.live] at hl
    · exact ⟨_, h1, rfl, rfl, fun h => by simp [Ent.grows] at h⟩
    · exact ⟨e, h1, hl, rfl, fun _ => rfl⟩
  have gl : ∀ (e : Ent), e.grows = true → e.live = true := by intro e h; cases e <;> simp_all [Ent.grows, Ent.live]
  have mutb : ∀ b o, Mut ρ H' b o → Mut ρ H b o := by
    rintro b o ⟨i, e, h1, h2, h3, h4⟩
    obtain ⟨e0, k1, k2, k3, _⟩ := live i e h1 h2
    exact ⟨i, e0, k1, k2, h3, k3 ▸ h4⟩
  refine ⟨⟨fun id h => hl ▸ c.dom id h, ?_, c.blt, ?_, ?_, ?_, fun b o h => ⟨(c.imm b o h).1, fun hm => (c.imm b o h).2 (mutb b o hm)⟩, c.glob⟩, ?_⟩
  · intro id h
    obtain ⟨e, h1, h2⟩ := back id _ h
    rcases h2 with h2 | ⟨_, _, _, _, h2, _⟩ | ⟨rfl, h2⟩
    · simp at h2
    · simp at h2
    · exact absurd rfl h2
  · intro i j b e e' hi l1 hj l2 hbi hbj
    obtain ⟨e1, k1, k2, _⟩ := live i e hi l1
    obtain ⟨e2, k3, k4, _⟩ := live j e' hj l2
    exact c.inj i j b e1 e2 k1 k2 k3 k4 hbi hbj
  · intro id cs f h
    obtain ⟨e, h1, h2⟩ := back id _ h
    rcases h2 with h2 | ⟨cs0, c', f0, rfl, h2, h3⟩ | ⟨rfl, _⟩
    · simp at h2
    · simp only [Ent.blk.injEq] at h2
      obtain ⟨rfl, rfl⟩ := h2
      obtain ⟨b, el, fr, us, q1, q2, q3, q4⟩ := c.blk id cs0 f h1
      exact ⟨b, el, fr, us, q1, q2, h3 _ _ _ _ q3, q4⟩
    · exact c.blk id cs f h1
  · intro id e h he
    obtain ⟨e0, k1, _, _, k4⟩ := live id e h (gl e he)
    cases k4 he
    exact c.grow id _ k1 he
  · intro ρ0 I0 H0 w0 gd
    refine ⟨gd.ext, fun id x h ⟨e, h1, h2⟩ => ?_, by rw [← hl]; exact gd.len, gd.imm, gd.imm', gd.os, gd.tape, gd.out, gd.size, gd.cell, gd.block, gd.bs, fun b o hb h => gd.wrt b o hb (mutb b o h), fun b hb ⟨i, e, h1, h2, h3⟩ => ?_⟩
    · obtain ⟨e0, k1, _, _, k4⟩ := live id e h1 (gl e h2)
      cases k4 h2
      exact gd.kp id x h ⟨_, k1, h2⟩
    · obtain ⟨e0, k1, k2, _⟩ := live i e h1 h2
      exact gd.own b hb ⟨i, e0, k1, k2, h3⟩

def cutR (n : Nat) (ρ : Rho) : Rho := fun id => if id < n then ρ id else none

theorem refsOk_spec {n : Nat} {T : List AV} {H : Heap} (h : refsOk n T H = true) : refsL n T = true ∧ ∀ e ∈ H, e ≠ .res → refsE n e = true := by
  simp only [refsOk, Bool.and_eq_true, List.all_eq_true] at h
  refine ⟨h.1, fun e he hne => ?_⟩
  have := h.2 e he
  cases e <;> simp_all [refsE]

/-- Later entries forgotten. -/
theorem cut_conc (c : Conc g ρ I H w) (n : Nat) (hr : ∀ e ∈ H.take n, e ≠ .res → refsE n e = true) :
    Conc g (cutR n ρ) I (H.take n) w ∧ ∀ {ρ0 : Rho} {I0 : Imm} {H0 : Heap} {w0 : World}, Good ρ0 I0 H0 w0 ρ I H w → (∀ id, ρ0 id ≠ none → id < n) → H0.length ≤ n → Good ρ0 I0 H0 w0 (cutR n ρ) I (H.take n) w := by
  have up : ∀ (i : Nat) (e : Ent), (H.take n)[i]? = some e → H[i]? = some e ∧ i < n := by
    intro i e h
    rw [List.getElem?_take] at h
    split at h
    · exact ⟨h, by assumption⟩
    · simp at h
  have ro : ∀ i, i < n → cutR n ρ i = ρ i := fun i h => by simp [cutR, h]
  have mutb : ∀ b o, Mut (cutR n ρ) (H.take n) b o → Mut ρ H b o := by
    rintro b o ⟨i, e, h1, h2, h3, h4⟩
    obtain ⟨k1, k2⟩ := up i e h1
    exact ⟨i, e, k1, h2, ro i k2 ▸ h3, h4⟩
  refine ⟨⟨?_, ?_, ?_, ?_, ?_, ?_, fun b o h => ⟨(c.imm b o h).1, fun hm => (c.imm b o h).2 (mutb b o hm)⟩, c.glob⟩, ?_⟩
  · intro id h
    by_cases e : id < n
    · rw [ro id e] at h; have := c.dom id h; simp; omega
    · simp [cutR, e] at h
  · intro id h
    obtain ⟨k1, k2⟩ := up id _ h
    rw [ro id k2]; exact c.res id k1
  · intro id b h
    by_cases e : id < n
    · rw [ro id e] at h; exact c.blt id b h
    · simp [cutR, e] at h
  · intro i j b e e' hi l1 hj l2 hbi hbj
    obtain ⟨k1, k2⟩ := up i e hi
    obtain ⟨k3, k4⟩ := up j e' hj
    exact c.inj i j b e e' k1 l1 k3 l2 (ro i k2 ▸ hbi) (ro j k4 ▸ hbj)
  · intro id cs f h
    obtain ⟨k1, k2⟩ := up id _ h
    obtain ⟨b, el, fr, us, q1, q2, q3, q4⟩ := c.blk id cs f k1
    exact ⟨b, el, fr, us, by rw [ro id k2]; exact q1, q2, RL_refs ro cs us (hr _ (List.mem_of_getElem? h) (by simp)) q3, q4⟩
  · intro id e h he
    obtain ⟨k1, k2⟩ := up id _ h
    obtain ⟨q, h'⟩ := c.grow id e k1 he
    refine ⟨q, ?_⟩
    rcases h' with ⟨q1, q2⟩ | ⟨b, el, fr, us, rest, q1, q2, q3, q4⟩
    · exact .inl ⟨by rw [ro id k2]; exact q1, q2⟩
    · refine .inr ⟨b, el, fr, us, rest, by rw [ro id k2]; exact q1, q2, RL_refs ro e.cells us ?_ q3, q4⟩
      have := hr _ (List.mem_of_getElem? h) (by rintro rfl; simp [Ent.grows] at he)
      cases e <;> simp_all [refsE, Ent.cells, Ent.grows, refsL, refsA]
  · intro ρ0 I0 H0 w0 gd hd hle
    refine ⟨fun id x h => ?_, fun id x h ⟨e, h1, h2⟩ => gd.kp id x h ⟨e, (up id e h1).1, h2⟩, ?_, gd.imm, gd.imm', gd.os, gd.tape, gd.out, gd.size, gd.cell, gd.block, gd.bs, fun b o hb h => gd.wrt b o hb (mutb b o h),
      fun b hb ⟨i, e, h1, h2, h3⟩ => ?_⟩
    · rw [ro id (hd id (by simp [h]))]; exact gd.ext id x h
    · have := gd.len; simp; omega
    · obtain ⟨k1, k2⟩ := up i e h1
      exact gd.own b hb ⟨i, e, k1, h2, ro i k2 ▸ h3⟩

/-- Memory where a function ends: some entries alone, with numbers of their own. -/
theorem pick_conc (c : Conc g ρ I H w) (ids : List Nat) (hd : ids.Nodup) (hr : ∀ i ∈ ids, ∀ e, H[i]? = some e → e.live = true ∧ refsE 0 e = true) (hin : ∀ i ∈ ids, i < H.length) :
    ∃ ρ' : Rho, (∀ (k i : Nat), ids[k]? = some i → ρ' k = ρ i) ∧ Conc g ρ' I (ids.map fun i => H.getD i .dead) w ∧ ∀ {I0 : Imm} {w0 : World}, Good (fun _ => none) I0 [] w0 ρ I H w → Good (fun _ => none) I0 [] w0 ρ' I (ids.map fun i => H.getD i .dead) w := by
  let ρ' : Rho := fun k => match ids[k]? with
    | some i => ρ i
    | none => none
  have hρ : ∀ (k i : Nat), ids[k]? = some i → ρ' k = ρ i := fun k i h => by show (match ids[k]? with | some i => ρ i | none => none) = _; rw [h]
  have hρn : ∀ k, ids[k]? = none → ρ' k = none := fun k h => by show (match ids[k]? with | some i => ρ i | none => none) = _; rw [h]
  have up : ∀ (k : Nat) (e : Ent), (ids.map fun i => H.getD i .dead)[k]? = some e → ∃ i, ids[k]? = some i ∧ H[i]? = some e := by
    intro k e h
    rw [List.getElem?_map] at h
    cases hk : ids[k]? with
    | none => simp [hk] at h
    | some i =>
      have := hin i (List.mem_of_getElem? hk)
      simp [hk, this] at h
      exact ⟨i, rfl, by simp [this, h]⟩
  have mutb : ∀ b o, Mut ρ' (ids.map fun i => H.getD i .dead) b o → Mut ρ H b o := by
    rintro b o ⟨k, e, h1, h2, h3, h4⟩
    obtain ⟨i, k1, k2⟩ := up k e h1
    exact ⟨i, e, k2, h2, hρ k i k1 ▸ h3, h4⟩
  refine ⟨ρ', hρ, ⟨?_, ?_, ?_, ?_, ?_, ?_, fun b o h => ⟨(c.imm b o h).1, fun hm => (c.imm b o h).2 (mutb b o hm)⟩, c.glob⟩, ?_⟩
  · intro k h
    cases hk : ids[k]? with
    | none => exact absurd (hρn k hk) h
    | some i => simpa using (List.getElem?_eq_some_iff.1 hk).1
  · intro k h
    obtain ⟨i, k1, k2⟩ := up k _ h
    have := (hr i (List.mem_of_getElem? k1) _ k2).1
    simp [Ent.live] at this
  · intro k b h
    cases hk : ids[k]? with
    | none => rw [hρn k hk] at h; simp at h
    | some i => rw [hρ k i hk] at h; exact c.blt i b h
  · intro k l b e e' hi l1 hj l2 hbi hbj
    obtain ⟨i, k1, k2⟩ := up k e hi
    obtain ⟨j, k3, k4⟩ := up l e' hj
    have := c.inj i j b e e' k2 l1 k4 l2 (hρ k i k1 ▸ hbi) (hρ l j k3 ▸ hbj)
    subst this
    exact (List.getElem?_inj (List.getElem?_eq_some_iff.1 k1).1 hd).1 (k1.trans k3.symm)
  · intro k cs f h
    obtain ⟨i, k1, k2⟩ := up k _ h
    obtain ⟨b, el, fr, us, q1, q2, q3, q4⟩ := c.blk i cs f k2
    exact ⟨b, el, fr, us, by rw [hρ k i k1]; exact q1, q2, RL_refs (n := 0) (fun _ h => by omega) cs us (hr i (List.mem_of_getElem? k1) _ k2).2 q3, q4⟩
  · intro k e h he
    obtain ⟨i, k1, k2⟩ := up k _ h
    obtain ⟨q, h'⟩ := c.grow i e k2 he
    refine ⟨q, ?_⟩
    rcases h' with ⟨q1, q2⟩ | ⟨b, el, fr, us, rest, q1, q2, q3, q4⟩
    · exact .inl ⟨by rw [hρ k i k1]; exact q1, q2⟩
    · refine .inr ⟨b, el, fr, us, rest, by rw [hρ k i k1]; exact q1, q2, RL_refs (n := 0) (fun _ h => by omega) e.cells us ?_ q3, q4⟩
      have := (hr i (List.mem_of_getElem? k1) _ k2).2
      cases e <;> simp_all [refsE, Ent.cells, Ent.grows, refsL, refsA]
  · intro I0 w0 gd
    refine ⟨fun _ _ h => by simp at h, fun _ _ h => by simp at h, by simp, gd.imm, gd.imm', gd.os, gd.tape, gd.out, gd.size, gd.cell, gd.block, gd.bs, fun b o hb h => gd.wrt b o hb (mutb b o h), fun b hb ⟨k, e, h1, h2, h3⟩ => ?_⟩
    obtain ⟨i, k1, k2⟩ := up k e h1
    exact gd.own b hb ⟨i, e, k2, h2, hρ k i k1 ▸ h3⟩
end

section
variable {P : Program} {G : Env P} {ρ : Rho} {I : Imm} {H : Heap} {w : World}

theorem leS_sound {n : Nat} {s : St} {T : List AV} {H' : Heap} (h : leS n s T H') (c : Conc G.g ρ I s.H w) {a : Act} (r : RelT ρ I w s.t a) (hr : refsOk n T H' = true) {ρ0 : Rho} {I0 : Imm} {H0 : Heap} {w0 : World}
    (gd : Good ρ0 I0 H0 w0 ρ I s.H w) (hd : ∀ id, ρ0 id ≠ none → id < n) (hle : H0.length ≤ n) (hl' : H'.length = n) : ∃ ρ', Good ρ0 I0 H0 w0 ρ' I H' w ∧ Conc G.g ρ' I H' w ∧ RelT ρ' I w T a := by
  obtain ⟨h1, h2⟩ := leT_sound h
  obtain ⟨⟨h3, h4⟩, _⟩ := leH_sound h2
  obtain ⟨hrT, hrH⟩ := refsOk_spec hr
  -- the whole of memory, weaker
  have hlen : n ≤ s.H.length := by rw [List.length_take] at h3; omega
  have hw : ∀ (i : Nat) (e e' : Ent), s.H[i]? = some e → (H' ++ (s.H.drop n).map fun _ => Ent.dead)[i]? = some e' → weakE e e' := by
    intro i e e' k1 k2
    rcases Nat.lt_or_ge i n with hi | hi
    · rw [List.getElem?_append_left (by omega)] at k2
      refine h4 i e e' ?_ k2
      rw [List.getElem?_take, if_pos hi]; exact k1
    · rw [List.getElem?_append_right (by omega), List.getElem?_map] at k2
      left
      cases hq : (List.drop n s.H)[i - H'.length]? <;> simp [hq] at k2
      exact k2.symm
  obtain ⟨c1, g1⟩ := weak_conc c (by simp; omega) hw
  have ht : (H' ++ (s.H.drop n).map fun _ => Ent.dead).take n = H' := by rw [List.take_append, List.take_of_length_le (by omega), hl']; simp
  obtain ⟨c2, g2⟩ := cut_conc c1 n (fun e he hne => hrH e (by rw [ht] at he; exact he) hne)
  rw [ht] at c2 g2
  exact ⟨cutR n ρ, g2 (g1 gd) hd hle, c2, RV_refs (fun i hi => by simp [cutR, hi]) _ _ hrT (h1 _ _ _ _ r.tr), r.defers⟩

theorem thenA_tri {c : Code} {Q Q' : Exit → St → Prop} {k k' : St → Prop} {s : St} (h : Tri G c (thenA k Q) s) (hk : ∀ s, k s → k' s) (hq : ∀ e s, Q e s → Q' e s) : Tri G c (thenA k' Q') s :=
  h.mono fun e s' h' => by cases e <;> first | exact hk _ h' | exact hq _ _ h'

theorem loopU_sound {c : Code} {F : (Exit → St → Prop) → St → Prop} (hF : ∀ Q s, F Q s → Tri G c Q s) {Q : Exit → St → Prop} (n : Nat) {s : St} (h : loopU F n Q s) : Tri G (.loop c) Q s :=
  Tri.loop (fun m s => loopU F m Q s) n h fun m s hm => by
    cases m with
    | zero => exact hm.elim
    | succ m =>
      refine (hF _ _ hm).mono fun e s' h => ?_
      cases e with
      | normal => exact ⟨m, Nat.lt_succ_self m, h⟩
      | _ => exact h

theorem loopInv_sound {c : Code} {F : (Exit → St → Prop) → St → Prop} (hF : ∀ Q s, F Q s → Tri G c Q s) {Q : Exit → St → Prop} {α : Type} {ok : α → Prop} {m : α → Nat} {T : α → List AV} {H : α → Heap} {s : St} (h : loopV (.inv α ok m T H) F Q s) : Tri G (.loop c) Q s := by
  obtain ⟨⟨a0, ho, hle⟩, hround⟩ := h
  intro ρ I a w hc hr
  have hdom : ∀ id, ρ id ≠ none → id < s.H.length := hc.dom
  simp only [fS_eq] at hround
  obtain ⟨hk0, hF0⟩ := cnd_iff.1 (hround a0 ho)
  simp only [Bool.and_eq_true, beq_iff_eq] at hk0
  refine wp_loopN (fun n a' w' => ∃ (b : α) (ρ' : Rho) (I' : Imm), ok b ∧ m b = n ∧ Good ρ I s.H w ρ' I' (H b) w' ∧ Conc G.g ρ' I' (H b) w' ∧ RelT ρ' I' w' (T b) a') (m a0) ?_ ?_
  · obtain ⟨ρ', g1, g2, g3⟩ := leS_sound hle hc hr hk0.2 (Good.refl _ _ _ _) hdom (Nat.le_refl _) hk0.1
    exact ⟨a0, ρ', I, ho, rfl, g1, g2, g3⟩
  · rintro n a1 w1 ⟨b, ρ1, I1, hob, rfl, hg, hC, hR⟩
    obtain ⟨hk1, hF1⟩ := cnd_iff.1 (hround b hob)
    refine wp_mono (hF _ _ hF1 ρ1 I1 a1 w1 hC hR) ?_
    rintro e a' w' ⟨ρ', I', s', k1, k2, k3, k4⟩
    cases e with
    | normal =>
      obtain ⟨b', ⟨hm, hob'⟩, hle'⟩ := k4
      obtain ⟨hk2, _⟩ := cnd_iff.1 (hround b' hob')
      simp only [Bool.and_eq_true, beq_iff_eq] at hk2
      obtain ⟨ρ2, g1, g2, g3⟩ := leS_sound hle' k2 k3 hk2.2 (hg.trans k1) hdom (Nat.le_refl _) hk2.1
      exact ⟨m b', hm, b', ρ2, I', hob', rfl, g1, g2, g3⟩
    | _ => exact ⟨ρ', I', s', hg.trans k1, k2, k3, k4⟩

theorem loopMv_sound {c : Code} {F : (Exit → St → Prop) → St → Prop} (hF : ∀ Q s, F Q s → Tri G c Q s) {Q : Exit → St → Prop} {keep gs : List Nat} {α : Type} {ok : List AV → α → Prop} {m : α → Nat} {ds : St → List AV}
    {T : Nat → α → List (Nat × AV)} {H : Nat → α → List (Nat × Ent)} {X : α → List Ent} {s : St} (h : loopV (.mv keep gs α ok m ds T H X) F Q s) : Tri G (.loop c) Q s := by
  obtain ⟨⟨a0, ho, hle⟩, hround⟩ := h
  intro ρ I a w hc hr
  have hdom : ∀ id, ρ id ≠ none → id < s.H.length := hc.dom
  simp only [fS_eq] at hround
  obtain ⟨hk0, hF0⟩ := cnd_iff.1 (hround a0 ho)
  simp only [beq_iff_eq] at hk0
  refine wp_loopN (fun n a' w' => ∃ (b : α) (ρ' : Rho) (I' : Imm), ok (gs.map fun i => s.t.getD i .any) b ∧ m b = n ∧ Good ρ I s.H w ρ' I' (updE s.H (H s.H.length b) ++ X b) w' ∧ Conc G.g ρ' I' (updE s.H (H s.H.length b) ++ X b) w' ∧ RelT ρ' I' w' (updT (keepT keep 0 s.t) (T s.H.length b)) a') (m a0) ?_ ?_
  · obtain ⟨ρ', g1, g2, g3⟩ := leM_sound hle hc hr (Good.refl _ _ _ _) hdom (Nat.le_refl _) hk0 (Nat.le_refl _)
    exact ⟨a0, ρ', I, ho, rfl, g1, g2, g3⟩
  · rintro n a1 w1 ⟨b, ρ1, I1, hob, rfl, hg, hC, hR⟩
    obtain ⟨hk1, hF1⟩ := cnd_iff.1 (hround b hob)
    refine wp_mono (hF _ _ hF1 ρ1 I1 a1 w1 hC hR) ?_
    rintro e a' w' ⟨ρ', I', s', k1, k2, k3, k4⟩
    cases e with
    | normal =>
      obtain ⟨b', ⟨hm, hob'⟩, hle'⟩ := k4
      obtain ⟨hlen, hle'⟩ := cnd_iff.1 hle'
      obtain ⟨hk2, _⟩ := cnd_iff.1 (hround b' hob')
      simp only [beq_iff_eq] at hk2
      obtain ⟨ρ2, g1, g2, g3⟩ := leM_sound hle' k2 k3 (hg.trans k1) hdom (Nat.le_refl _) hk2 (leB_iff.1 hlen)
      exact ⟨m b', hm, b', ρ2, I', hob', rfl, g1, g2, g3⟩
    | _ => exact ⟨ρ', I', s', hg.trans k1, k2, k3, k4⟩

/-- A scope in which the run jumps back to its label: what holds at each jump, and a number that gets less. -/
theorem wp_scopeN {l : Nat} {x : Code} {Q : Exit → Act → World → Prop} (J : Nat → Act → World → Prop) (n : Nat) {a : Act} {w : World} (h0 : J n a w)
    (round : ∀ n a w, J n a w → x.wp P (Exit.jump l (fun a' w' => ∃ m, m < n ∧ J m a' w') Q) a w) : (Code.scope (.seq (.label l) x)).wp P Q a w := by
  classical
  have least : ∀ n a w, J n a w → ∃ m, J m a w ∧ ∀ k, J k a w → m ≤ k := by
    intro n a w
    induction n using Nat.strongRecOn with
    | _ n ih =>
      intro h
      by_cases hk : ∃ k, k < n ∧ J k a w
      · obtain ⟨k, h1, h2⟩ := hk
        exact ih k h1 h2
      · exact ⟨n, h, fun k h2 => Nat.le_of_not_lt fun h3 => hk ⟨k, h3, h2⟩⟩
  let μ : Act → World → Nat := fun a w => if h : ∃ m, J m a w ∧ ∀ k, J k a w → m ≤ k then h.choose else 0
  have μs : ∀ a w, (∃ n, J n a w) → J (μ a w) a w := by
    rintro a w ⟨n, h⟩
    show J (if h : ∃ m, J m a w ∧ ∀ k, J k a w → m ≤ k then h.choose else 0) a w
    rw [dif_pos (least n a w h)]; exact (least n a w h).choose_spec.1
  have μl : ∀ n a w, J n a w → μ a w ≤ n := by
    intro n a w h
    show (if h : ∃ m, J m a w ∧ ∀ k, J k a w → m ≤ k then h.choose else 0) ≤ n
    rw [dif_pos (least n a w h)]; exact (least n a w h).choose_spec.2 n h
  refine wp_scope_jumps l (fun a w => ∃ n, J n a w) μ (rest := .seq .skip x) (by simp [findLabel]) ?_ ?_
  · refine wp_seq (wp_label ?_)
    refine wp_mono (round n a w h0) ?_
    rintro e a' w' k
    cases e with
    | goto l' => exact ⟨k.1, k.2.choose, k.2.choose_spec.2⟩
    | _ => exact k
  · intro a w hJ
    refine wp_seq (wp_skip ?_)
    refine wp_mono (round _ a w (μs a w hJ)) ?_
    rintro e a' w' k
    cases e with
    | goto l' =>
      obtain ⟨k1, m, k2, k3⟩ := k
      exact ⟨k1, ⟨m, k3⟩, Nat.lt_of_le_of_lt (μl m a' w' k3) k2⟩
    | _ => exact k

theorem scopeMv_sound {l : Nat} {c : Code} {F : (Exit → St → Prop) → St → Prop} (hF : ∀ Z s, F Z s → Tri G c (swapA l Z) s) {Q : Exit → St → Prop} {keep gs : List Nat} {α : Type} {ok : List AV → α → Prop} {m : α → Nat} {ds : St → List AV}
    {T : Nat → α → List (Nat × AV)} {H : Nat → α → List (Nat × Ent)} {X : α → List Ent} {s : St} (h : loopV (.mv keep gs α ok m ds T H X) F (swapA l Q) s) : Tri G (.scope (.seq (.label l) c)) Q s := by
  obtain ⟨⟨a0, ho, hle⟩, hround⟩ := h
  intro ρ I a w hc hr
  have hdom : ∀ id, ρ id ≠ none → id < s.H.length := hc.dom
  simp only [fS_eq] at hround
  obtain ⟨hk0, hF0⟩ := cnd_iff.1 (hround a0 ho)
  simp only [beq_iff_eq] at hk0
  refine wp_scopeN (fun n a' w' => ∃ (b : α) (ρ' : Rho) (I' : Imm), ok (gs.map fun i => s.t.getD i .any) b ∧ m b = n ∧ Good ρ I s.H w ρ' I' (updE s.H (H s.H.length b) ++ X b) w' ∧ Conc G.g ρ' I' (updE s.H (H s.H.length b) ++ X b) w' ∧ RelT ρ' I' w' (updT (keepT keep 0 s.t) (T s.H.length b)) a') (m a0) ?_ ?_
  · obtain ⟨ρ', g1, g2, g3⟩ := leM_sound hle hc hr (Good.refl _ _ _ _) hdom (Nat.le_refl _) hk0 (Nat.le_refl _)
    exact ⟨a0, ρ', I, ho, rfl, g1, g2, g3⟩
  · rintro n a1 w1 ⟨b, ρ1, I1, hob, rfl, hg, hC, hR⟩
    obtain ⟨hk1, hF1⟩ := cnd_iff.1 (hround b hob)
    refine wp_mono (hF _ _ hF1 ρ1 I1 a1 w1 hC hR) ?_
    rintro e a' w' ⟨ρ', I', s', k1, k2, k3, k4⟩
    cases e with
    | goto l' =>
      have k4 : (bif l' == l then (∃ b' : α, (m b' < m b ∧ ok (gs.map fun i => s.t.getD i .any) b') ∧ cnd (leB s.H.length s'.H.length) (leM s.H.length (ds s') s' (updT (keepT keep 0 s.t) (T s.H.length b')) (updE s.H (H s.H.length b')) (X b'))) else False) := k4
      cases hl : l' == l with
      | false => rw [hl] at k4; exact k4.elim
      | true =>
      rw [hl] at k4
      obtain ⟨b', ⟨hm, hob'⟩, hle'⟩ := k4
      obtain ⟨hlen, hle'⟩ := cnd_iff.1 hle'
      obtain ⟨hk2, _⟩ := cnd_iff.1 (hround b' hob')
      simp only [beq_iff_eq] at hk2
      obtain ⟨ρ2, g1, g2, g3⟩ := leM_sound hle' k2 k3 (hg.trans k1) hdom (Nat.le_refl _) hk2 (leB_iff.1 hlen)
      exact ⟨by simpa using hl, m b', hm, b', ρ2, I', hob', rfl, g1, g2, g3⟩
    | normal =>
      have k4 : (bif l == l then Q .normal s' else False) := k4
      rw [beq_self_eq_true] at k4
      exact ⟨ρ', I', s', hg.trans k1, k2, k3, k4⟩
    | _ => exact ⟨ρ', I', s', hg.trans k1, k2, k3, k4⟩

theorem scopeV_sound {l : Nat} {c : Code} {F : (Exit → St → Prop) → St → Prop} (hF : ∀ Z s, F Z s → Tri G c (swapA l Z) s) {Q : Exit → St → Prop} (pl : LPlan) {s : St} (h : scopeV pl F (swapA l Q) s) : Tri G (.scope (.seq (.label l) c)) Q s := by
  cases pl with
  | mv keep gs α ok m ds T H X => exact scopeMv_sound hF h
  | _ => exact h.elim

theorem loopV_sound {c : Code} {F : (Exit → St → Prop) → St → Prop} (hF : ∀ Q s, F Q s → Tri G c Q s) {Q : Exit → St → Prop} (pl : LPlan) {s : St} (h : loopV pl F Q s) : Tri G (.loop c) Q s := by
  cases pl with
  | none => exact h.elim
  | unroll n => exact loopU_sound hF n h
  | inv α ok m T H => exact loopInv_sound hF h
  | invg α g ok m T H => exact loopInv_sound (ok := ok (s.t.getD g .any)) hF h
  | rel keep gs α ok m T H => exact loopInv_sound (ok := ok (gs.map fun i => s.t.getD i .any)) (T := fun a => updT (keepT keep 0 s.t) (T a)) (H := fun a => updE s.H (H a)) hF h
  | mv keep gs α ok m ds T H X => exact loopMv_sound hF h

/-- Kept numbers given back behind a piece of code. -/
theorem Tri.trimmed {c : Code} {Q : Exit → St → Prop} {s : St} (h : Tri G c (fun e s' => Q e ⟨s'.t, trim (s'.H.length - s.H.length) s'.H⟩) s) : Tri G c Q s := by
  intro ρ I a w hc hr
  refine wp_mono (h ρ I a w hc hr) ?_
  rintro e a' w' ⟨ρ', I', s', h1, h2, h3, h4⟩
  obtain ⟨g1, g2⟩ := trim_sound (s'.H.length - s.H.length) (H0 := s.H) (by have := h1.len; omega) h1 h2
  exact ⟨ρ', I', ⟨s'.t, trim (s'.H.length - s.H.length) s'.H⟩, g1, g2, h3, h4⟩

variable {R : ROps G} {T : Ctr G}

theorem condT_iff {t : List AV} {c : Operand} {x y : List AV → Prop} (h : condT t c (evA G t c) x y) : ∃ b, evA G t c = .bool b ∧ (b = true → x t) ∧ (b = false → y t) := by
  unfold condT at h
  split at h
  · rename_i b hb
    refine ⟨b, hb, ?_⟩
    split at h
    · rename_i d
      obtain ⟨h1, h2⟩ := ite2_iff.1 h
      have hb : t.getD d .any = .bool b := (tget_eq _ _).symm.trans hb
      exact ⟨fun e => by
        have := h1 e
        rwa [setB_eq (by rw [hb, e])] at this, fun e => by
        have := h2 e
        rwa [setB_eq (by rw [hb, e])] at this⟩
    · exact ite2_iff.1 h
  · exact (stuckIn_no h).elim

theorem aw3_sound {cl : FuncId → List AV → St → Option Tmp → (St → Prop) → Prop} (hcl : ∀ f args s d K, cl f args s d K → callS G f args s d K) (L : Nat → LPlan) : ∀ (c : Code) {Q : Exit → St → Prop} {s : St}, aw3 G R T.C cl L c Q s → Tri G c Q s
  | .skip, _, _, h => Tri.skip h
  | .label _, _, _, h => Tri.label h
  | .exit _, _, _, h => Tri.exit h
  | .goto _, _, _, h => Tri.goto h
  | .ret, _, _, h => Tri.ret h
  | .seq x y, Q, s, h => Tri.seq ((aw3_sound hcl L x h).mono fun e s' h' => by
      cases e with
      | normal => exact aw3_sound hcl L y h'
      | _ => exact h')
  | .cond c x y, Q, s, h => by
      obtain ⟨b, h1, h2, h3⟩ := condT_iff h
      exact Tri.cond h1 (fun e => aw3_sound hcl L x (h2 e)) (fun e => aw3_sound hcl L y (h3 e))
  | .block id c, Q, s, h => Tri.block (aw3_sound hcl L c h)
  | .region _ ops false, Q, s, h => Tri.sregion hcl h
  | .region _ ops true, Q, s, h => Tri.drawL (R := R) (T := T) hcl h
  | .loop c, Q, s, h => loopV_sound (fun Q s h => aw3_sound hcl L c h) _ h
  | .rangeFunc _ _ _ _, _, _, h => h.elim
  | .scope (.seq (.label l) x), Q, s, h => scopeV_sound (fun Z s h => aw3_sound hcl L x h) _ h
  | .scope .skip, _, _, h => h.elim
  | .scope (.region _ _ _), _, _, h => h.elim
  | .scope (.cond _ _ _), _, _, h => h.elim
  | .scope (.block _ _), _, _, h => h.elim
  | .scope (.loop _), _, _, h => h.elim
  | .scope (.rangeFunc _ _ _ _), _, _, h => h.elim
  | .scope (.exit _), _, _, h => h.elim
  | .scope (.scope _), _, _, h => h.elim
  | .scope (.label _), _, _, h => h.elim
  | .scope (.goto _), _, _, h => h.elim
  | .scope .ret, _, _, h => h.elim
  | .scope (.refuse _), _, _, h => h.elim
  | .scope (.seq .skip _), _, _, h => h.elim
  | .scope (.seq (.region _ _ _) _), _, _, h => h.elim
  | .scope (.seq (.seq _ _) _), _, _, h => h.elim
  | .scope (.seq (.cond _ _ _) _), _, _, h => h.elim
  | .scope (.seq (.block _ _) _), _, _, h => h.elim
  | .scope (.seq (.loop _) _), _, _, h => h.elim
  | .scope (.seq (.rangeFunc _ _ _ _) _), _, _, h => h.elim
  | .scope (.seq (.exit _) _), _, _, h => h.elim
  | .scope (.seq (.scope _) _), _, _, h => h.elim
  | .scope (.seq (.goto _) _), _, _, h => h.elim
  | .scope (.seq .ret _), _, _, h => h.elim
  | .scope (.seq (.refuse _) _), _, _, h => h.elim
  | .refuse _, _, _, h => h.elim

theorem gc_sound {n : Nat} {v : AV} {x : Value} {H' : Heap} (c : Conc G.g ρ I H' w) (r : rel ρ I w v x) {ρ0 : Rho} {I0 : Imm} {H0 : Heap} {w0 : World} (gd : Good ρ0 I0 H0 w0 ρ I H' w) (hd : ∀ id, ρ0 id ≠ none → id < n) (hn : H0.length = n) :
    ∃ ρ', Good ρ0 I0 H0 w0 ρ' I (gcH n v H') w ∧ Conc G.g ρ' I (gcH n v H') w ∧ rel ρ' I w v x := by
  unfold gcH
  rw [qA_eq, qEs_eq]
  cases hb : refsA n v && refsOk n [] (H'.take n) with
  | false => exact ⟨ρ, gd, c, r⟩
  | true =>
    simp only [Bool.and_eq_true] at hb
    obtain ⟨c2, g2⟩ := cut_conc c n (refsOk_spec hb.2).2
    exact ⟨cutR n ρ, g2 gd hd (by omega), c2, rel_refs (fun i hi => by simp [cutR, hi]) hb.1 r⟩

/-- A body, as any piece of code. -/
theorem body_sound {f : FuncId} {fn : Func} {c : Code} (hf : P.funcs[f]? = some fn) (hb : fn.body = some c) {args : List AV} {H : Heap} {Rel : AV → Heap → Prop}
    (h : Tri G c (aend G fn Rel) ⟨args ++ List.replicate (fn.ntmps - args.length) (.tup []), H⟩) : ACall G f args H Rel := by
  intro ρ I w vs hc hr
  have hlen := RV_len hr
  refine calls_of_wp hf hb ?_
  refine wp_mono (h ρ I _ w hc ⟨?_, rfl⟩) ?_
  · simp only [Array.toList_append, Array.toList_replicate, List.size_toArray, ← hlen]
    exact RV_append hr (RV_replicate rel_undef _)
  · rintro e a' w' ⟨ρ', I', ⟨t', H'⟩, h1, h2, h3, h4⟩
    have key : ∀ (k : endO (aresults G ⟨t', H'⟩ fn.results.toList) fun v => Rel v H'),
        a'.defers = [] ∧ ∃ v, (results fn a'.tmps).run P w' = .ok v w' ∧ ∃ y, Ending.returned v = .returned y ∧ ∃ (ρ'' : Rho) (I'' : Imm) (v : AV) (H'' : Heap), Good ρ I H w ρ'' I'' H'' w' ∧ Conc G.g ρ'' I'' H'' w' ∧ rel ρ'' I'' w' v y ∧ Rel v H'' := by
      intro k
      unfold endO at k
      split at k
      · rename_i c l hl
        obtain ⟨k1, k2⟩ := cnd_iff.1 k
        obtain ⟨x, q1, q2⟩ := results_sound (p := (c, l)) h2 h3 hl k1
        exact ⟨h3.defers, x, q1, x, rfl, ρ', I', _, H', h1, h2, q2, k2⟩
      · exact k.elim
    cases e <;> first | exact key h4 | exact h4.elim

theorem cinl_sound (L : FuncId → Nat → LPlan) : ∀ (n : Nat) (f : FuncId) (args : List AV) (s : St) (d : Option Tmp) (K : St → Prop), cinl G R T.C L n f args s d K → callS G f args s d K
  | 0, _, _, _, _, _, h => (stuckIn_no h).elim
  | n + 1, f, args, s, d, K, h => by
    unfold cinl at h
    split at h
    · rename_i fn hf
      split at h
      · rename_i c hb
        have ha : ACall G f args s.H fun v H' => K ⟨putA s.t d v, gcH s.H.length v H'⟩ := body_sound hf hb (aw3_sound (cinl_sound L n) (L f) c (by
          simp only [fL_eq, fH_eq, fPut_eq] at h
          exact h))
        intro ρ I w a vs c r ra
        refine (ha ρ I w vs c ra).mono ?_
        rintro e w' ⟨x, rfl, ρ', I', v, H', g, c', hx, hk⟩
        obtain ⟨ρ2, g2, c2, r2⟩ := gc_sound (n := s.H.length) c' hx g (fun id h => c.dom id h) rfl
        have m2 : Mono ρ I w ρ2 I' w' := c.mono g2 g2.ext
        exact ⟨x, rfl, ρ2, I', ⟨_, gcH s.H.length v H'⟩, g2, c2, (r.mono m2).put d r2, hk⟩
      · exact h.elim
    · exact h.elim
end
end
end Go.V

/- The abstract layer (third state), part H: a contract off a walk; contracts put together. -/
set_option linter.unusedSimpArgs false
set_option linter.unusedVariables false
namespace Go.V
open Go
noncomputable section

theorem posIn_get : ∀ {ids : List Nat} {i : Nat}, ids.contains i = true → ids[posIn ids i]? = some i
  | [], _, h => by simp at h
  | a :: as, i, h => by
    unfold posIn
    cases hb : a == i with
    | true => simpa using hb
    | false =>
      have : as.contains i = true := by
        simp only [List.contains_cons, Bool.or_eq_true] at h
        rcases h with h | h
        · rw [beq_iff_eq] at h; subst h; simp at hb
        · exact h
      simpa using posIn_get this

theorem dedup_nodup : ∀ (l acc : List Nat), acc.Nodup → (dedup l acc).Nodup
  | [], acc, h => h
  | a :: as, acc, h => by
    unfold dedup
    cases hb : acc.contains a with
    | true => exact dedup_nodup as acc h
    | false =>
      refine dedup_nodup as _ ?_
      rw [List.nodup_append]
      refine ⟨h, by simp, fun x hx y hy => ?_⟩
      simp only [List.mem_singleton] at hy
      subst hy
      rintro rfl
      simp [List.contains_eq_mem, hx] at hb

section
variable {ρ ρ' : Rho} {I : Imm} {w : World}
mutual
theorem R_col {ids : List Nat} (hρ : ∀ k i, ids[k]? = some i → ρ' k = ρ i) : ∀ (a : AV) (xs : List Value), colOk ids a = true → R ρ I w a xs → R ρ' I w (colA ids a) xs
  | .sl id off k len, xs, ho, ⟨v, h0, h⟩ => by
    refine ⟨v, h0, ?_⟩
    rcases h with ⟨b, cap, h1, h2⟩ | h
    · exact .inl ⟨b, cap, by rw [hρ _ _ (posIn_get ho)]; exact h1, h2⟩
    · exact .inr h
  | .ptr id off, xs, ho, ⟨v, h0, b, h1, h2⟩ => ⟨v, h0, b, by rw [hρ _ _ (posIn_get ho)]; exact h1, h2⟩
  | .agg l, xs, ho, h => RL_col hρ l xs (by simpa [colOk] using ho) h
  | .tup l, xs, ho, ⟨v, h0, cs, h1, h2⟩ => ⟨v, h0, cs, h1, RV_col hρ l _ (by simpa [colOk] using ho) h2⟩
  | .any, xs, ho, h => R_refs (n := 0) (fun _ h => by omega) _ xs ho h
  | .raw _, xs, ho, h => R_refs (n := 0) (fun _ h => by omega) _ xs ho h
  | .int _ _, xs, ho, h => R_refs (n := 0) (fun _ h => by omega) _ xs ho h
  | .u8 _, xs, ho, h => R_refs (n := 0) (fun _ h => by omega) _ xs ho h
  | .u32 _, xs, ho, h => R_refs (n := 0) (fun _ h => by omega) _ xs ho h
  | .u64 _, xs, ho, h => R_refs (n := 0) (fun _ h => by omega) _ xs ho h
  | .bool _, xs, ho, h => R_refs (n := 0) (fun _ h => by omega) _ xs ho h
  | .str _, xs, ho, h => R_refs (n := 0) (fun _ h => by omega) _ xs ho h
  | .b8 _ _, xs, ho, h => R_refs (n := 0) (fun _ h => by omega) _ xs ho h
  | .w32 _ _, xs, ho, h => R_refs (n := 0) (fun _ h => by omega) _ xs ho h
  | .w64 _ _, xs, ho, h => R_refs (n := 0) (fun _ h => by omega) _ xs ho h
  | .n64 _ _, xs, ho, h => R_refs (n := 0) (fun _ h => by omega) _ xs ho h
  | .pix _ _ _ _, xs, ho, h => R_refs (n := 0) (fun _ h => by omega) _ xs ho h
  | .vec8 _ _, xs, ho, h => R_refs (n := 0) (fun _ h => by omega) _ xs ho h
  | .vec _ _ _, xs, ho, h => R_refs (n := 0) (fun _ h => by omega) _ xs ho h
  | .vecr _ _ _ _, xs, ho, h => R_refs (n := 0) (fun _ h => by omega) _ xs ho h
  | .slv id k n f, xs, ho, h => by
    obtain ⟨v, h0, k0, ⟨vs, k1, k2, k3⟩, k4⟩ := h
    refine ⟨v, h0, k0, ⟨vs, k1, fun i hi => RL_refs (n := 0) (fun _ h => by omega) _ _ (refsL_pure _ (okL_pure (k0 i hi)) 0) (k2 i hi), k3⟩, ?_⟩
    rcases k4 with ⟨b, cap, h1, h2⟩ | h
    · exact .inl ⟨b, cap, by rw [hρ _ _ (posIn_get ho)]; exact h1, h2⟩
    · exact .inr h
  | .vp _ _, xs, ho, h => R_refs (n := 0) (fun _ h => by omega) _ xs ho h
  | .vpx _ _ _ _, xs, ho, h => R_refs (n := 0) (fun _ h => by omega) _ xs ho h
  | .fn _ _ _, xs, ho, h => R_refs (n := 0) (fun _ h => by omega) _ xs ho h
theorem RL_col {ids : List Nat} (hρ : ∀ k i, ids[k]? = some i → ρ' k = ρ i) : ∀ (l : List AV) (xs : List Value), colOkL ids l = true → RL ρ I w l xs → RL ρ' I w (colL ids l) xs
  | [], _, _, h => h
  | a :: as, _, ho, ⟨ys, zs, h0, h1, h2⟩ => by
    simp only [colOkL, Bool.and_eq_true] at ho
    exact ⟨ys, zs, h0, R_col hρ a ys ho.1 h1, RL_col hρ as zs ho.2 h2⟩
theorem RV_col {ids : List Nat} (hρ : ∀ k i, ids[k]? = some i → ρ' k = ρ i) : ∀ (l : List AV) (vs : List Value), colOkL ids l = true → RV ρ I w l vs → RV ρ' I w (colL ids l) vs
  | [], _, _, h => h
  | a :: as, _, ho, ⟨x, xs, h0, h1, h2⟩ => by
    simp only [colOkL, Bool.and_eq_true] at ho
    refine ⟨x, xs, h0, ?_, RV_col hρ as xs ho.2 h2⟩
    have : ∀ ys, R ρ I w a ys → R ρ' I w (colA ids a) ys := fun ys => R_col hρ a ys ho.1
    cases a <;> simp only [colA, valOf] at h1 ⊢ <;> first | trivial | exact this _ h1 | (obtain ⟨cs, k1, k2⟩ := h1; exact ⟨cs, k1, this _ k2⟩)
end
end

section
variable {P : Program} {G : Env P} {R : ROps G} {T : Ctr G}

/-- A body from no memory. -/
theorem ACall.of_walk {L : FuncId → Nat → LPlan} {n : Nat} {f : FuncId} {args : List AV} {K : AV → Heap → Prop} (h : walk G R T.C L n f args K) : ACall G f args [] K := by
  unfold walk at h
  split at h
  · rename_i fn hf
    split at h
    · rename_i c hb
      have ha : ACall G f args [] (collectK K) := body_sound hf hb (aw3_sound (cinl_sound L n) (L f) c (by
        simp only [fL_eq] at h
        exact h))
      intro ρ I w vs hc hr
      -- nothing is owned: no number means anything
      have hnone : ∀ id, ρ id = none := fun id => Classical.byContradiction fun hn => by have := hc.dom id hn; simp at this
      have hρ0 : ρ = fun _ => none := funext hnone
      subst hρ0
      refine (ha _ I w vs hc hr).mono ?_
      rintro e w' ⟨x, rfl, ρ', I', v, H', g, c', hx, hk⟩
      unfold collectK at hk
      obtain ⟨hok, hK⟩ := cnd_iff.1 hk
      simp only [Bool.and_eq_true] at hok
      have hE : ∀ (ids : List Nat), colE H' ids = true → ∀ i ∈ ids, ∃ e, H'[i]? = some e ∧ e.live = true ∧ refsE 0 e = true := by
        intro ids
        induction ids with
        | nil => intro _ i hi; simp at hi
        | cons a as ih =>
          intro h i hi
          simp only [colE, Bool.and_eq_true] at h
          rcases List.mem_cons.1 hi with rfl | hi
          · have h1 := h.1
            split at h1
            · rename_i e he
              simp only [Bool.and_eq_true] at h1
              exact ⟨e, he, h1.1, h1.2⟩
            · simp at h1
          · exact ih h.2 i hi
      have hE' := hE _ hok.2
      obtain ⟨ρ2, q1, q2, q3⟩ := pick_conc c' (dedup (refsOf [v]) []) (dedup_nodup _ _ (by simp)) (fun i hi e he => by
        obtain ⟨e', h1, h2, h3⟩ := hE' i hi
        rw [h1] at he; simp at he; subst he; exact ⟨h2, h3⟩) (fun i hi => by
        obtain ⟨e', h1, _⟩ := hE' i hi
        exact (List.getElem?_eq_some_iff.1 h1).1)
      refine ⟨x, rfl, ρ2, I', _, _, q3 g, q2, ?_, hK⟩
      have hl : RV ρ2 I' w' (colL (dedup (refsOf [v]) []) [v]) [x] := RV_col q1 [v] [x] (by simp [colOkL, hok.1]) (RV_cons.2 ⟨x, [], rfl, hx, rfl⟩)
      obtain ⟨y, ys, k1, k2, _⟩ := RV_cons.1 hl
      simp only [List.cons.injEq] at k1
      obtain ⟨rfl, _⟩ := k1
      exact k2
    · exact h.elim
  · exact h.elim

/-- A contract off a walk. -/
theorem HCall.of_walk (L : FuncId → Nat → LPlan) (n : Nat) {f : FuncId} {args : List AV} {out : Out} (hp : pureL args = true) (ho : out.okB = true) (h : walk G R T.C L n f args out.has) : HCall G f args out :=
  ⟨hp, ho, ACall.of_walk h⟩

/-- No contract. -/
def Ctr.nil (G : Env P) : Ctr G := ⟨fun _ _ => none, fun _ _ _ _ h => by simp at h⟩

/-- One more contract. -/
def Ctr.add (T : Ctr G) (k : Nat) (c : List AV → Option (Bool × Out)) (ok : ∀ args pre out, c args = some (pre, out) → pre = true → HCall G k args out) : Ctr G where
  C := fun f args => bif f == k then c args else T.C f args
  ok := fun f args pre out h hp => by
    cases hb : f == k with
    | true =>
      rw [hb] at h
      have : f = k := by simpa using hb
      subst this
      exact .inl (ok args pre out h hp)
    | false => rw [hb] at h; exact T.ok f args pre out h hp

/-- No operation on slices. -/
def ROps.nil (G : Env P) : ROps G := { f := fun _ _ _ _ => none, congr := fun _ _ _ _ _ _ _ _ => rfl, sound := fun _ _ _ _ _ _ _ _ _ _ _ _ _ h => by simp at h }
end
end
end Go.V

/- The abstract layer (third state), part I: contracts in use. -/
set_option linter.unusedSimpArgs false
set_option linter.unusedVariables false
namespace Go.V
open Go

/-- Rows are as long as they say. -/
def lenOk : AV → Prop
  | .b8 n l => l.length = n
  | .w32 n l => l.length = n
  | .w64 n l => l.length = n
  | .n64 n l => l.length = n
  | _ => True

section
variable {P : Program} {G : Env P}
theorem rel_lenOk {ρ : Rho} {I : Imm} {w : World} {a : AV} {v : Value} (h : rel ρ I w a v) : lenOk a := by
  cases a <;> first | trivial | (obtain ⟨_, _, _, h⟩ := h; exact h)
theorem RV_lenOk {ρ : Rho} {I : Imm} {w : World} : ∀ {l : List AV} {vs : List Value}, RV ρ I w l vs → ∀ a ∈ l, lenOk a
  | [], _, _, a, ha => by simp at ha
  | b :: bs, _, ⟨x, xs, h0, h1, h2⟩, a, ha => by
    rcases List.mem_cons.1 ha with rfl | ha
    · exact rel_lenOk h1
    · exact RV_lenOk h2 a ha

/-- Nothing is to be shown where rows are not as long as they say. -/
theorem HCall.of_len {f : FuncId} {args : List AV} {out : Out} (hp : pureL args = true) (ho : out.okB = true) (h : (∀ a ∈ args, lenOk a) → HCall G f args out) : HCall G f args out := by
  refine ⟨hp, ho, fun ρ I w vs c r => ?_⟩
  exact (h (RV_lenOk r)).call ρ I w vs c r
theorem has_ret {v v' : AV} {H H' : Heap} : (Out.ret v H).has v' H' ↔ v' = v ∧ H' = H := Iff.rfl
theorem has_alt {b : Bool} {x y : Out} {v' : AV} {H' : Heap} : (Out.alt b x y).has v' H' ↔ (b = true → x.has v' H') ∧ (b = false → y.has v' H') := by
  cases b <;> simp [Out.has]
theorem has_refl {v : AV} {H : Heap} : (Out.ret v H).has v H := ⟨rfl, rfl⟩
/-- Pick by cases, as a rule of logic. -/
theorem ite2_eq {b : Bool} {x y : Prop} : ite2 b x y = ((b = true → x) ∧ (b = false → y)) := propext ite2_iff
theorem cnd_eq {b : Bool} {x : Prop} : cnd b x = (b = true ∧ x) := propext cnd_iff
end
end Go.V
