/- The abstract layer (third state), part N: code walked through, and a function's body. -/
import Derived.Test.YtfjmpdoidkblcaaDoorWE
set_option linter.unusedSimpArgs false
set_option linter.unusedVariables false
namespace Go.V
open Go
noncomputable section

def condA (v : AV) (x y : Prop) : Prop := match v with
  | .bool b => ite2 b x y
  | _ => False

section
variable {P : Program} (G : Env P)

def aresult (s : St) : ResultVar → Option (Bool × AV)
  | .tmp t => some (true, s.t.getD t .any)
  | .cell a t => match G.ty t with
    | some ti => aload ti s.H (s.t.getD a .any)
    | none => none

def aresults (s : St) : List ResultVar → Option (Bool × List AV)
  | [] => some (true, [])
  | r :: rs => match aresult G s r with
    | some (c, v) => match aresults s rs with
      | some (d, l) => some (c && d, v :: l)
      | none => none
    | none => none

def tupA : List AV → AV
  | [v] => v
  | l => .tup l

/-- What stands in the results. -/
def endO (r : Option (Bool × List AV)) (k : AV → Prop) : Prop := match r with
  | some (c, l) => cnd c (k (tupA l))
  | none => False

def aend (fn : Func) (R : AV → Heap → Prop) (e : Exit) (s : St) : Prop := match e with
  | .normal => endO (aresults G s fn.results.toList) fun v => R v s.H
  | .ret => endO (aresults G s fn.results.toList) fun v => R v s.H
  | _ => False

end

section
variable {P : Program} {G : Env P} {ρ : Rho} {I : Imm} {H : Heap} {w : World}

theorem condA_iff {v : AV} {x y : Prop} (h : condA v x y) : ∃ b, v = .bool b ∧ (b = true → x) ∧ (b = false → y) := by
  unfold condA at h
  split at h
  · exact ⟨_, rfl, ite2_iff.1 h⟩
  · exact h.elim

theorem aresult_sound (c : Conc G.g ρ I H w) {t : List AV} {a : Act} (r : RelT ρ I w t a) {rv : ResultVar} {p : Bool × AV} (h : aresult G ⟨t, H⟩ rv = some p) (hp : p.1 = true) :
    ∃ x, (match rv with | .tmp t => (pure (a.tmps.getD t undef) : Sem Value) | .cell b t => do loadVar t (← asAddr (a.tmps.getD b undef))).run P w = .ok x w ∧ rel ρ I w p.2 x := by
  have hget : ∀ i, a.tmps.getD i undef = a.tmps.toList.getD i undef := by
    intro i; simp [Array.getD_eq_getD_getElem?, List.getD_eq_getElem?_getD]
  cases rv with
  | tmp i =>
    simp only [aresult, Option.some.injEq] at h
    subst h
    exact ⟨_, rfl, by rw [hget]; exact RV_getD r.tr i⟩
  | cell b ty =>
    simp only [aresult] at h
    split at h
    · rename_i ti ht
      have hb := RV_getD r.tr b
      obtain ⟨x, h1, h2⟩ := run_loadAt (P := P) c ht hb h hp
      refine ⟨x, ?_, h2⟩
      show (do loadVar ty (← asAddr (a.tmps.getD b undef))).run P w = .ok x w
      rw [hget]
      have : ∃ ad, a.tmps.toList.getD b undef = .pointer (some ad) := by
        unfold aload at h
        cases hq : t.getD b .any <;> rw [hq] at hb h <;> simp [cellsAt, cellsAtX] at h
        · obtain ⟨b', _, hx⟩ := rel_ptr.1 hb; exact ⟨_, hx⟩
        · obtain ⟨b', _, _, hx⟩ := rel_pix.1 hb; exact ⟨_, hx⟩
        · obtain ⟨_, _, b', o, hx, _⟩ := rel_vp.1 hb; exact ⟨_, hx⟩
        · obtain ⟨_, _, _, b', o, hx, _⟩ := rel_vpx.1 hb; exact ⟨_, hx⟩
      obtain ⟨ad, hx⟩ := this
      rw [hx] at h1 ⊢
      simp only [Instr.loadAt, Instr.sureAddr, Sem.run_bind, Sem.run_pure, Result.andThen_ok] at h1
      simp [asAddr, h1]
    · simp at h

theorem aresults_sound (c : Conc G.g ρ I H w) {t : List AV} {a : Act} (r : RelT ρ I w t a) : ∀ {rs : List ResultVar} {p : Bool × List AV}, aresults G ⟨t, H⟩ rs = some p → p.1 = true →
    ∃ xs, (rs.mapM (fun rv : ResultVar => (match rv with | .tmp t => (pure (a.tmps.getD t undef) : Sem Value) | .cell b t => do loadVar t (← asAddr (a.tmps.getD b undef))))).run P w = .ok xs w ∧ RV ρ I w p.2 xs
  | [], p, h, _ => by
    simp only [aresults, Option.some.injEq] at h
    subst h
    exact ⟨[], by simp, by simp [RV]⟩
  | rv :: rs, p, h, hp => by
    simp only [aresults] at h
    split at h
    · rename_i c1 v h1
      split at h
      · rename_i d l h2
        simp only [Option.some.injEq] at h
        subst h
        simp only [Bool.and_eq_true] at hp
        obtain ⟨x, k1, k2⟩ := aresult_sound c r h1 hp.1
        obtain ⟨xs, k3, k4⟩ := aresults_sound c r h2 hp.2
        refine ⟨x :: xs, ?_, RV_cons.2 ⟨x, xs, rfl, k2, k4⟩⟩
        rw [List.mapM_cons]
        simp only [Sem.run_bind, k1, Result.andThen_ok, k3, Sem.run_pure]
      · simp at h
    · simp at h

def resF (tmps : Array Value) : ResultVar → Sem Value
  | .tmp t => pure (tmps.getD t undef)
  | .cell b t => do loadVar t (← asAddr (tmps.getD b undef))

theorem results_eq (fn : Func) (tmps : Array Value) : results fn tmps = (fn.results.mapM (resF tmps) >>= fun vs => pure (if h : vs.size = 1 then vs[0] else .tuple vs)) := rfl

theorem results_sound (c : Conc G.g ρ I H w) {t : List AV} {a : Act} (r : RelT ρ I w t a) {fn : Func} {p : Bool × List AV} (h : aresults G ⟨t, H⟩ fn.results.toList = some p) (hp : p.1 = true) :
    ∃ x, (results fn a.tmps).run P w = .ok x w ∧ rel ρ I w (tupA p.2) x := by
  obtain ⟨xs, h1, h2⟩ := aresults_sound c r h hp
  have h1' : (fn.results.toList.mapM (resF a.tmps)).run P w = .ok xs w := h1
  have hm : (fn.results.mapM (resF a.tmps)).run P w = .ok xs.toArray w := by
    rw [← Array.toArray_toList (xs := fn.results), List.mapM_toArray]
    simp only [Sem.run_map, h1', Result.andThen_ok]
  rw [results_eq]
  simp only [Sem.run_bind, hm, Result.andThen_ok, Sem.run_pure]
  have hlen := RV_len h2
  by_cases e : xs.length = 1
  · match xs, e, h2 with
    | [x], _, h2 =>
      match hp2 : p.2, h2 with
      | [v], h2 =>
        obtain ⟨y, ys, k1, k2, _⟩ := RV_cons.1 h2
        simp only [List.cons.injEq] at k1
        obtain ⟨rfl, _⟩ := k1
        exact ⟨x, by simp, k2⟩
      | [], h2 => simp [RV] at h2
      | _ :: _ :: _, h2 => have := RV_len h2; simp at this
  · refine ⟨.tuple xs.toArray, by simp [e], ?_⟩
    match hp2 : p.2, h2 with
    | [v], h2 => have := RV_len h2; simp at this; omega
    | [], h2 => exact rel_tup.2 ⟨_, rfl, by simpa using h2⟩
    | _ :: _ :: _, h2 => exact rel_tup.2 ⟨_, rfl, by simpa using h2⟩

end
end
end Go.V
