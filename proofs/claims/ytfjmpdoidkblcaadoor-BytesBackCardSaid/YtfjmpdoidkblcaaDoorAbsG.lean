/- The abstract layer, part G: regions, code, calls. -/
import Derived.Test.YtfjmpdoidkblcaaDoorAbsF
set_option linter.unusedSimpArgs false
set_option linter.unusedVariables false
namespace Go.Ab
open Go

section
variable {P : Program} {G : Glob} {ρ : Rho} {I : Imm} {H : Heap} {w : World}

theorem yielded_of {ops : Array Oper} {j d : Nat} {t : List AV} {a : Act} (r : RelT ρ I w t a) (hd : (ops[j]?).bind (·.dst) = some d) {b : Bool} (h : t.getD d .any = .bool b) :
    yielded ops a.tmps j = some b := by
  have := relL_getD r.tr d
  rw [h] at this
  have hx : a.tmps.toList.getD d undef = .bool b := this
  unfold yielded
  rw [hd]
  simp only [Option.bind_some]
  rw [List.getD_eq_getElem?_getD] at hx
  cases hq : a.tmps[d]? with
  | none => simp [hq, undef] at hx
  | some v => simp [hq] at hx; simp [hx]

theorem yielded_tup {ops : Array Oper} {j d : Nat} {t : List AV} {a : Act} (r : RelT ρ I w t a) (hd : (ops[j]?).bind (·.dst) = some d) {l : List AV} (h : t.getD d .any = .tup l) :
    yielded ops a.tmps j = none := by
  have := relL_getD r.tr d
  rw [h] at this
  obtain ⟨cs, hx, _⟩ := this
  unfold yielded
  rw [hd]
  simp only [Option.bind_some]
  rw [List.getD_eq_getElem?_getD] at hx
  cases hq : a.tmps[d]? with
  | none => rfl
  | some v => simp [hq] at hx; simp [hx]

theorem gstep_sound (c : Conc G ρ I H w) {t : List AV} {a : Act} (r : RelT ρ I w t a) {ops : Array Oper} {o : Oper} {K : St → Prop} (h : gstep P G ops o ⟨t, H⟩ K) {next : Act → World → Prop}
    {Q : Exit → Act → World → Prop} (hn : Leads G ρ I H w K next) :
    if Region.wanted o (yielded ops a.tmps) then o.wp P a w next Q else next (a.put o.dst undef) w := by
  have skip : K ⟨putA t o.dst (.tup []), H⟩ → next (a.put o.dst undef) w := fun hk =>
    hn ρ I ⟨putA t o.dst (.tup []), H⟩ _ w (Good.refl _ _ _ _) c (r.put _ rel_undef) hk
  unfold gstep at h
  unfold Region.wanted
  split at h
  · rename_i hg
    rw [hg]
    exact step1_sound c r h hn
  · rename_i j want hg
    rw [hg]
    split at h
    · rename_i hd
      have : yielded ops a.tmps j = none := by unfold yielded; rw [hd]; rfl
      simp only [this]
      simpa using skip h
    · rename_i d hd
      split at h
      · rename_i b hb
        have hy := yielded_of r hd hb
        simp only [hy]
        by_cases e : b = want
        · subst e
          simp only [beq_self_eq_true, if_true]
          exact step1_sound c r (h.1 rfl) hn
        · have e' : b = !want := by cases b <;> cases want <;> simp_all
          have : (some b == some want) = false := by simp [e]
          simp only [this, Bool.false_eq_true, if_false]
          exact skip (h.2 e')
      · rename_i l hl
        have hy := yielded_tup r hd hl
        simp only [hy]
        simpa using skip h
      · exact h.elim

theorem aops_sound {ops : Array Oper} {Q : Exit → Act → World → Prop} : ∀ (l : List Oper) {ρ : Rho} {I : Imm} {H : Heap} {w : World} {t : List AV} {a : Act} {K : St → Prop},
    Conc G ρ I H w → RelT ρ I w t a → aops P G ops l ⟨t, H⟩ K → Leads G ρ I H w K (Q .normal) → wpList P ops Q l a w
  | [], ρ, I, H, w, t, a, K, c, r, h, hn => hn ρ I ⟨t, H⟩ a w (Good.refl _ _ _ _) c r h
  | o :: rest, ρ, I, H, w, t, a, K, c, r, h, hn => by
    have := gstep_sound (Q := Q) c r (K := fun s' => aops P G ops rest s' K) h (next := wpList P ops Q rest)
      (fun ρ' I' s' a' w' g c' r' k => aops_sound rest c' r' k (hn.on g))
    unfold wpList
    split
    · rename_i hw
      rw [if_pos hw] at this
      exact .inl this
    · rename_i hw
      rw [if_neg hw] at this
      exact this

/-- What a piece of code does to abstract states. -/
def Tri (P : Program) (G : Glob) (c : Code) (Q : Exit → St → Prop) (s : St) : Prop :=
  ∀ (ρ : Rho) (I : Imm) (a : Act) (w : World), Conc G ρ I s.H w → RelT ρ I w s.t a →
    c.wp P (fun e a' w' => ∃ (ρ' : Rho) (I' : Imm) (s' : St), Good ρ I s.H w ρ' I' s'.H w' ∧ Conc G ρ' I' s'.H w' ∧ RelT ρ' I' w' s'.t a' ∧ Q e s') a w

def thenA (k : St → Prop) (Q : Exit → St → Prop) : Exit → St → Prop
  | .normal, s => k s
  | e, s => Q e s

def blockA (id : Nat) (Q : Exit → St → Prop) : Exit → St → Prop
  | .exit i, s => if i = id then Q .normal s else Q (.exit i) s
  | e, s => Q e s

theorem Tri.mono {c : Code} {Q Q' : Exit → St → Prop} {s : St} (h : Tri P G c Q s) (hq : ∀ e s, Q e s → Q' e s) : Tri P G c Q' s :=
  fun ρ I a w hc hr => wp_mono (h ρ I a w hc hr) fun _ _ _ ⟨ρ', I', s', h1, h2, h3, h4⟩ => ⟨ρ', I', s', h1, h2, h3, hq _ _ h4⟩

theorem Tri.skip {Q : Exit → St → Prop} {s : St} (h : Q .normal s) : Tri P G .skip Q s :=
  fun ρ I a w hc hr => wp_skip ⟨ρ, I, s, Good.refl _ _ _ _, hc, hr, h⟩

theorem Tri.label {Q : Exit → St → Prop} {s : St} {l : Nat} (h : Q .normal s) : Tri P G (.label l) Q s :=
  fun ρ I a w hc hr => wp_label ⟨ρ, I, s, Good.refl _ _ _ _, hc, hr, h⟩

theorem Tri.exit {Q : Exit → St → Prop} {s : St} {id : Nat} (h : Q (.exit id) s) : Tri P G (.exit id) Q s :=
  fun ρ I a w hc hr => wp_exit ⟨ρ, I, s, Good.refl _ _ _ _, hc, hr, h⟩

theorem Tri.goto {Q : Exit → St → Prop} {s : St} {l : Nat} (h : Q (.goto l) s) : Tri P G (.goto l) Q s :=
  fun ρ I a w hc hr => wp_goto ⟨ρ, I, s, Good.refl _ _ _ _, hc, hr, h⟩

theorem Tri.ret {Q : Exit → St → Prop} {s : St} (h : Q .ret s) : Tri P G .ret Q s :=
  fun ρ I a w hc hr => wp_ret ⟨ρ, I, s, Good.refl _ _ _ _, hc, hr, h⟩

theorem Tri.seq {x y : Code} {Q : Exit → St → Prop} {s : St} (h : Tri P G x (thenA (Tri P G y Q) Q) s) : Tri P G (.seq x y) Q s := by
  intro ρ I a w hc hr
  refine wp_seq (wp_mono (h ρ I a w hc hr) ?_)
  rintro e a' w' ⟨ρ', I', s', h1, h2, h3, h4⟩
  cases e with
  | normal =>
    refine wp_mono (h4 ρ' I' a' w' h2 h3) ?_
    rintro e a'' w'' ⟨ρ'', I'', s'', k1, k2, k3, k4⟩
    exact ⟨ρ'', I'', s'', h1.trans k1, k2, k3, k4⟩
  | _ => exact ⟨ρ', I', s', h1, h2, h3, h4⟩

theorem Tri.cond {c : Operand} {x y : Code} {Q : Exit → St → Prop} {s : St} {b : Bool} (hc : evA G s.t c = .bool b) (h1 : b = true → Tri P G x Q s) (h2 : b = false → Tri P G y Q s) : Tri P G (.cond c x y) Q s := by
  intro ρ I a w hC hr
  have := rel_evA hC hr c
  rw [hc] at this
  exact wp_cond_split this (fun e => h1 e ρ I a w hC hr) (fun e => h2 e ρ I a w hC hr)

theorem Tri.block {id : Nat} {c : Code} {Q : Exit → St → Prop} {s : St} (h : Tri P G c (blockA id Q) s) : Tri P G (.block id c) Q s := by
  intro ρ I a w hc hr
  refine wp_block (wp_mono (h ρ I a w hc hr) ?_)
  rintro e a' w' ⟨ρ', I', s', h1, h2, h3, h4⟩
  cases e with
  | exit i =>
    simp only [Exit.inBlock]
    simp only [blockA] at h4
    split
    · rename_i e; rw [if_pos e] at h4; exact ⟨ρ', I', s', h1, h2, h3, h4⟩
    · rename_i e; rw [if_neg e] at h4; exact ⟨ρ', I', s', h1, h2, h3, h4⟩
  | _ => exact ⟨ρ', I', s', h1, h2, h3, h4⟩

/-- A region in the order of its text. -/
theorem Tri.region {id : Nat} {ops : Array Oper} {Q : Exit → St → Prop} {s : St} (h : aops P G ops ops.toList s (Q .normal)) : Tri P G (.region id ops false) Q s := by
  intro ρ I a w hc hr
  refine wp_region_list (aops_sound ops.toList hc hr h ?_)
  intro ρ' I' s' a' w' g c r k
  exact ⟨ρ', I', s', g, c, r, k⟩

theorem wp_loopN {c : Code} {Q : Exit → Act → World → Prop} (J : Nat → Act → World → Prop) (n : Nat) {a : Act} (h0 : J n a w)
    (round : ∀ n a w, J n a w → c.wp P (Exit.then (fun a' w' => ∃ m, m < n ∧ J m a' w') Q) a w) : (Code.loop c).wp P Q a w := by
  intro b k cs
  have key : ∀ (n : Nat) (a : Act) (w : World), J n a w → ∃ e a' w', Q e a' w' ∧ Arrives P (lone (b.at a (.code c :: .inLoop c :: k)) cs w) b k cs e a' w' := by
    intro n
    induction n using Nat.strongRecOn with
    | _ n ih =>
      intro a w hI
      obtain ⟨e, a1, w1, hq, harr⟩ := round n a w hI b (.inLoop c :: k) cs
      cases e with
      | normal =>
        obtain ⟨m, hlt, hI1⟩ := hq
        obtain ⟨e2, a2, w2, hq2, harr2⟩ := ih m hlt a1 w1 hI1
        exact ⟨e2, a2, w2, hq2, .of_steps (Steps.trans harr (.one step_inLoop)) harr2⟩
      | exit id => exact ⟨_, a1, w1, hq, .pass (x := .inLoop c) rfl (fun _ _ => .inl (by simp)) harr⟩
      | goto l => exact ⟨_, a1, w1, hq, .pass (x := .inLoop c) rfl (fun _ _ => .inl (by simp)) harr⟩
      | ret => exact ⟨_, a1, w1, hq, .pass (x := .inLoop c) rfl (fun _ _ => .inl (by simp)) harr⟩
      | panic ch => exact ⟨_, a1, w1, hq, .pass (x := .inLoop c) rfl (fun _ _ => .inl (by simp)) harr⟩
      | outgrown => exact ⟨_, a1, w1, hq, .pass (x := .inLoop c) rfl (fun _ _ => .inl (by simp)) harr⟩
  obtain ⟨e, a', w', hq, harr⟩ := key n a w h0
  exact ⟨e, a', w', hq, .of_steps (.one step_loop) harr⟩

/-- A loop: what holds at each round's head, and a number that gets less. -/
theorem Tri.loop {c : Code} {Q : Exit → St → Prop} {s : St} (Inv : Nat → St → Prop) (n : Nat) (h0 : Inv n s)
    (round : ∀ n s, Inv n s → Tri P G c (thenA (fun s' => ∃ m, m < n ∧ Inv m s') Q) s) : Tri P G (.loop c) Q s := by
  intro ρ I a w hc hr
  refine wp_loopN (fun n a' w' => ∃ (ρ' : Rho) (I' : Imm) (s' : St), Inv n s' ∧ Good ρ I s.H w ρ' I' s'.H w' ∧ Conc G ρ' I' s'.H w' ∧ RelT ρ' I' w' s'.t a') n
    ⟨ρ, I, s, h0, Good.refl _ _ _ _, hc, hr⟩ ?_
  rintro n a1 w1 ⟨ρ1, I1, s1, hI, hg, hC, hR⟩
  refine wp_mono (round n s1 hI ρ1 I1 a1 w1 hC hR) ?_
  rintro e a' w' ⟨ρ', I', s', k1, k2, k3, k4⟩
  cases e with
  | normal =>
    obtain ⟨m, hm, hi⟩ := k4
    exact ⟨m, hm, ρ', I', s', hi, hg.trans k1, k2, k3⟩
  | _ => exact ⟨ρ', I', s', hg.trans k1, k2, k3, k4⟩

/-- What stands in the results when a body is at its end. -/
def aresult (P : Program) (s : St) : ResultVar → Option (Prop × AV)
  | .tmp t => some (True, s.t.getD t .any)
  | .cell a t => match tinfo P t, cellsAt s.H (s.t.getD a .any) with
    | some ti, some (c, off) => some (aload ti c off)
    | _, _ => none

def aresults (P : Program) (s : St) : List ResultVar → Option (Prop × List AV)
  | [] => some (True, [])
  | r :: rs => match aresult P s r, aresults P s rs with
    | some (c, v), some (d, l) => some (c ∧ d, v :: l)
    | _, _ => none

def tupA : List AV → AV
  | [v] => v
  | l => .tup l

def aend (P : Program) (fn : Func) (R : AV → Heap → Prop) (e : Exit) (s : St) : Prop :=
  (e = .normal ∨ e = .ret) ∧ ∃ c l, aresults P s fn.results.toList = some (c, l) ∧ c ∧ R (tupA l) s.H

theorem aresult_sound (c : Conc G ρ I H w) {t : List AV} {a : Act} (r : RelT ρ I w t a) {rv : ResultVar} {p : Prop × AV} (h : aresult P ⟨t, H⟩ rv = some p) (hp : p.1) :
    ∃ x, (match rv with | .tmp t => (pure (a.tmps.getD t undef) : Sem Value) | .cell b t => do loadVar t (← asAddr (a.tmps.getD b undef))).run P w = .ok x w ∧ rel ρ I w p.2 x := by
  have hget : ∀ i, a.tmps.getD i undef = a.tmps.toList.getD i undef := by
    intro i; simp [Array.getD_eq_getD_getElem?, List.getD_eq_getElem?_getD]
  cases rv with
  | tmp i =>
    simp only [aresult, Option.some.injEq] at h
    subst h
    exact ⟨_, rfl, by rw [hget]; exact relL_getD r.tr i⟩
  | cell b ty =>
    simp only [aresult] at h
    split at h
    · rename_i ti l off ht hc
      simp only [Option.some.injEq] at h
      subst h
      have hb := relL_getD r.tr b
      obtain ⟨bl, base, vs, hx, hr, hcell⟩ := cellsAt_sound c hb hc
      obtain ⟨x, h1, h2⟩ := run_loadAt (P := P) ht hr hcell hp
      refine ⟨x, ?_, h2⟩
      show (do loadVar ty (← asAddr (a.tmps.getD b undef))).run P w = .ok x w
      rw [hget, hx]
      simp only [Instr.loadAt, Instr.sureAddr, Sem.run_bind, Sem.run_pure, Result.andThen_ok] at h1
      simp [asAddr, h1]
    · simp at h

theorem aresults_sound (c : Conc G ρ I H w) {t : List AV} {a : Act} (r : RelT ρ I w t a) : ∀ {rs : List ResultVar} {p : Prop × List AV}, aresults P ⟨t, H⟩ rs = some p → p.1 →
    ∃ xs, (rs.mapM (fun rv : ResultVar => (match rv with | .tmp t => (pure (a.tmps.getD t undef) : Sem Value) | .cell b t => do loadVar t (← asAddr (a.tmps.getD b undef))))).run P w = .ok xs w ∧ relL ρ I w p.2 xs
  | [], p, h, _ => by
    simp only [aresults, Option.some.injEq] at h
    subst h
    exact ⟨[], by simp, by simp [relL]⟩
  | rv :: rs, p, h, hp => by
    simp only [aresults] at h
    split at h
    · rename_i c1 v d l h1 h2
      simp only [Option.some.injEq] at h
      subst h
      obtain ⟨x, k1, k2⟩ := aresult_sound c r h1 hp.1
      obtain ⟨xs, k3, k4⟩ := aresults_sound c r h2 hp.2
      refine ⟨x :: xs, ?_, relL_cons.2 ⟨x, xs, rfl, k2, k4⟩⟩
      rw [List.mapM_cons]
      simp only [Sem.run_bind, k1, Result.andThen_ok, k3, Sem.run_pure]
    · simp at h

def resF (tmps : Array Value) : ResultVar → Sem Value
  | .tmp t => pure (tmps.getD t undef)
  | .cell b t => do loadVar t (← asAddr (tmps.getD b undef))

theorem results_eq (fn : Func) (tmps : Array Value) : results fn tmps = (fn.results.mapM (resF tmps) >>= fun vs => pure (if h : vs.size = 1 then vs[0] else .tuple vs)) := rfl

theorem results_sound (c : Conc G ρ I H w) {t : List AV} {a : Act} (r : RelT ρ I w t a) {fn : Func} {p : Prop × List AV} (h : aresults P ⟨t, H⟩ fn.results.toList = some p) (hp : p.1) :
    ∃ x, (results fn a.tmps).run P w = .ok x w ∧ rel ρ I w (tupA p.2) x := by
  obtain ⟨xs, h1, h2⟩ := aresults_sound c r h hp
  have h1' : (fn.results.toList.mapM (resF a.tmps)).run P w = .ok xs w := h1
  have hm : (fn.results.mapM (resF a.tmps)).run P w = .ok xs.toArray w := by
    rw [← Array.toArray_toList (xs := fn.results), List.mapM_toArray]
    simp only [Sem.run_map, h1', Result.andThen_ok]
  rw [results_eq]
  simp only [Sem.run_bind, hm, Result.andThen_ok, Sem.run_pure]
  have hlen := relL_len h2
  by_cases e : xs.length = 1
  · match xs, e, h2 with
    | [x], _, h2 =>
      match hp2 : p.2, h2 with
      | [v], h2 =>
        obtain ⟨y, ys, k1, k2, _⟩ := relL_cons.1 h2
        simp only [List.cons.injEq] at k1
        obtain ⟨rfl, _⟩ := k1
        exact ⟨x, by simp, k2⟩
      | [], h2 => simp [relL] at h2
      | _ :: _ :: _, h2 => have := relL_len h2; simp at this
  · refine ⟨.tuple xs.toArray, by simp [e], ?_⟩
    match hp2 : p.2, h2 with
    | [v], h2 => have := relL_len h2; simp at this; omega
    | [], h2 => exact ⟨_, rfl, by simpa using h2⟩
    | _ :: _ :: _, h2 => exact ⟨_, rfl, by simpa using h2⟩

/-- The values of which it doesn't matter which blocks there are. -/
def Pure (a : AV) : Prop := ∀ (ρ ρ' : Rho) (I : Imm) (w : World) (x : Value), rel ρ I w a x → rel ρ' I w a x

def PureL (l : List AV) : Prop := ∀ a ∈ l, Pure a

theorem PureL.relL {l : List AV} (h : PureL l) {ρ' : Rho} : ∀ {vs : List Value}, relL ρ I w l vs → relL ρ' I w l vs := by
  induction l with
  | nil => intro vs h; exact h
  | cons a as ih =>
    intro vs hr
    obtain ⟨x, xs, rfl, h1, h2⟩ := relL_cons.1 hr
    exact relL_cons.2 ⟨x, xs, rfl, h a (by simp) _ _ _ _ _ h1, ih (fun b hb => h b (by simp [hb])) h2⟩

/-- A call of plain values that comes to just this plain value. -/
def FCall (P : Program) (G : Glob) (f : FuncId) (args : List AV) (v : AV) : Prop :=
  PureL args ∧ Pure v ∧ ACall P G f args [] fun v' H' => v' = v ∧ H' = []

theorem FCall.lift {f : FuncId} {args : List AV} {v : AV} (h : FCall P G f args v) (H : Heap) : ACall P G f args H fun v' H' => v' = v ∧ H' = H := by
  obtain ⟨hp, hv, hc⟩ := h
  intro ρ I w vs c r
  have c0 : Conc G (fun _ => none) I [] w :=
    ⟨fun _ h => absurd rfl h, fun _ h => by simp at h, fun _ _ h => by simp at h, fun _ _ _ _ _ h => by simp at h, fun _ _ _ h => by simp at h, fun _ _ _ h => by simp at h,
      fun b o hb => ⟨(c.imm b o hb).1, fun ⟨_, _, h, _⟩ => by simp at h⟩, c.glob⟩
  refine (hc (fun _ => none) I w vs c0 (hp.relL r)).mono ?_
  rintro e w' ⟨x, rfl, ρ', I', H', v', g, c', hr, rfl, rfl⟩
  have nm : ∀ b o, ¬ Mut (fun _ => none) ([] : Heap) b o := fun b o ⟨_, _, h, _⟩ => by simp at h
  have g' : Good ρ I H w ρ I' H w' := by
    refine ⟨fun _ _ h => h, Nat.le_refl _, g.imm, fun b o hb h => .inl ((g.imm' b o hb h).resolve_right (nm b o)), g.os, g.tape, g.out, g.size, fun b o hb _ => g.cell b o hb (nm b o),
      fun b hb _ => g.block b hb (nm b), g.bs, fun _ _ _ h => h, fun _ _ h => h⟩
  have m := c.mono g'
  have blk : ∀ b, b < w.heap.size → w'.heap[b]? = w.heap[b]? := fun b hb => g.block b hb (nm b)
  refine ⟨x, rfl, ρ, I', H, v', g', ?_, hv _ _ _ _ _ hr, rfl, rfl⟩
  refine ⟨c.dom, c.res, fun id b h => Nat.lt_of_lt_of_le (c.blt id b h) g.size, c.inj, ?_, ?_, ?_, ?_⟩
  · intro id cs f h
    obtain ⟨b, el, fr, us, k1, k2, k3, k4⟩ := c.blk id cs f h
    exact ⟨b, el, fr, us, k1, by rw [blk b (c.blt id b k1)]; exact k2, relL_mono m _ _ k3, k4⟩
  · intro id cs f h
    rcases c.grow id cs f h with h | ⟨b, el, fr, us, rest, k1, k2, k3, k4⟩
    · exact .inl h
    · exact .inr ⟨b, el, fr, us, rest, k1, by rw [blk b (c.blt id b k1)]; exact k2, relL_mono m _ _ k3, k4⟩
  · intro b o hb
    obtain ⟨h1, _⟩ := c'.imm b o hb
    refine ⟨h1, fun hm => ?_⟩
    obtain ⟨id, e, q1, q2, q3, q4⟩ := hm
    have hlt := c.blt id b q3
    exact (c.imm b o ((g.imm' b o hlt hb).resolve_right (nm b o))).2 ⟨id, e, q1, q2, q3, q4⟩
  · exact c'.glob

theorem ACall.of_f {f : FuncId} {args : List AV} {v : AV} (h : FCall P G f args v) {R : AV → Heap → Prop} (hr : R v H) : ACall P G f args H R :=
  (h.lift H).mono fun _ _ ⟨h1, h2⟩ => by subst h1 h2; exact hr

/-- A body that comes to a plain value. -/
theorem FCall.of_acall {f : FuncId} {args : List AV} {v : AV} (hp : PureL args) (hv : Pure v) (h : ACall P G f args [] fun v' _ => v' = v) : FCall P G f args v := by
  refine ⟨hp, hv, fun ρ I w vs c r => (h ρ I w vs c r).mono ?_⟩
  rintro e w' ⟨x, rfl, ρ', I', H', v', g, c', hr, rfl⟩
  have nm : ∀ b o, ¬ Mut ρ ([] : Heap) b o := fun b o ⟨_, _, h, _⟩ => by simp at h
  refine ⟨x, rfl, fun _ => none, I', [], v', ?_, ?_, hv _ _ _ _ _ hr, rfl, rfl⟩
  · refine ⟨fun id x h => ?_, Nat.le_refl _, g.imm, g.imm', g.os, g.tape, g.out, g.size, g.cell, g.block, g.bs, fun b o _ ⟨_, _, h, _⟩ => by simp at h, fun b _ ⟨_, _, h, _⟩ => by simp at h⟩
    have := c.dom id (by simp [h])
    simp at this
  · exact ⟨fun _ h => absurd rfl h, fun _ h => by simp at h, fun _ _ h => by simp at h, fun _ _ _ _ _ h => by simp at h, fun _ _ _ h => by simp at h, fun _ _ _ h => by simp at h,
      fun b o hb => ⟨(c'.imm b o hb).1, fun ⟨_, _, h, _⟩ => by simp at h⟩, c'.glob⟩

end
end Go.Ab
