/- The abstract layer, part C: what a piece of code does to an abstract state. -/
import Derived.Test.YtfjmpdoidkblcaaDoorAbsB
set_option linter.unusedSimpArgs false
set_option linter.unusedVariables false
namespace Go.Ab
open Go

def Fin (G : Glob) (ρ : Rho) (I : Imm) (H : Heap) (w : World) (x : Value) (w' : World) (K : AV → Heap → Prop) : Prop :=
  ∃ (ρ' : Rho) (I' : Imm) (H' : Heap) (v : AV), Good ρ I H w ρ' I' H' w' ∧ Conc G ρ' I' H' w' ∧ rel ρ' I' w' v x ∧ K v H'

theorem Fin.mono {G : Glob} {ρ : Rho} {I : Imm} {H : Heap} {w : World} {x : Value} {w' : World} {K K' : AV → Heap → Prop} (h : Fin G ρ I H w x w' K) (hk : ∀ v H', K v H' → K' v H') : Fin G ρ I H w x w' K' :=
  let ⟨ρ', I', H', v, a, b, c, d⟩ := h; ⟨ρ', I', H', v, a, b, c, hk _ _ d⟩

theorem Fin.here {G : Glob} {ρ : Rho} {I : Imm} {H : Heap} {w : World} {x : Value} {K : AV → Heap → Prop} (c : Conc G ρ I H w) {v : AV} (r : rel ρ I w v x) (k : K v H) : Fin G ρ I H w x w K :=
  ⟨ρ, I, H, v, Good.refl _ _ _ _, c, r, k⟩

def Post (P : Program) (G : Glob) (ρ : Rho) (I : Imm) (H : Heap) (w : World) (K : AV → Heap → Prop) : Result Next → Prop
  | .ok (.value x) w' => Fin G ρ I H w x w' K
  | .ok .skip w' => Fin G ρ I H w undef w' K
  | .ok (.enter f args) w' => Calls P f args w' fun e w'' => ∃ x, e = .returned x ∧ Fin G ρ I H w x w'' K
  | _ => False

theorem Post.mono {P : Program} {G : Glob} {ρ : Rho} {I : Imm} {H : Heap} {w : World} {K K' : AV → Heap → Prop} (hk : ∀ v H', K v H' → K' v H') : ∀ {r : Result Next}, Post P G ρ I H w K r → Post P G ρ I H w K' r
  | .ok (.value _) _, h => Fin.mono h hk
  | .ok .skip _, h => Fin.mono h hk
  | .ok (.enter _ _) _, h => Calls.mono h fun _ _ ⟨x, e, f⟩ => ⟨x, e, f.mono hk⟩
  | .halt _ _, h => h.elim
  | .ok (.row ..) _, h => h.elim
  | .ok (.round ..) _, h => h.elim
  | .ok (.defer ..) _, h => h.elim
  | .ok .recover _, h => h.elim
  | .ok (.spawn ..) _, h => h.elim
  | .ok (.comm ..) _, h => h.elim
  | .ok .numGoroutine _, h => h.elim
  | .ok .collect _, h => h.elim
  | .ok (.watch ..) _, h => h.elim
  | .ok (.newcoro ..) _, h => h.elim
  | .ok (.coroswitch ..) _, h => h.elim
  | .ok (.sleep ..) _, h => h.elim
  | .ok (.timer ..) _, h => h.elim
  | .ok (.alone ..) _, h => h.elim
  | .ok (.callThen ..) _, h => h.elim
  | .ok (.stack ..) _, h => h.elim

/-- What an operation does, said of the model. -/
def OpS (P : Program) (G : Glob) (o : Oper) (ev : Operand → AV) (H : Heap) (K : AV → Heap → Prop) : Prop :=
  ∀ (ρ : Rho) (I : Imm) (w : World) (e : Operand → Value), Conc G ρ I H w → (∀ x, rel ρ I w (ev x) (e x)) → Post P G ρ I H w K ((execOp e o).run P w)

theorem OpS.mono {P : Program} {G : Glob} {o : Oper} {ev : Operand → AV} {H : Heap} {K K' : AV → Heap → Prop} (h : OpS P G o ev H K) (hk : ∀ v H', K v H' → K' v H') : OpS P G o ev H K' :=
  fun ρ I w e c r => (h ρ I w e c r).mono hk

def putA (t : List AV) (d : Option Tmp) (v : AV) : List AV :=
  match d with
  | none => t
  | some d => t.set d v

theorem RelT.put {ρ : Rho} {I : Imm} {w : World} {t : List AV} {a : Act} (h : RelT ρ I w t a) (d : Option Tmp) {v : AV} {x : Value} (r : rel ρ I w v x) : RelT ρ I w (putA t d v) (a.put d x) := by
  cases d with
  | none => exact h
  | some d => exact ⟨by simpa [Act.put, putA] using relL_set h.tr d r, h.defers⟩

/-- The abstract value of an operation that only computes or reads: a condition, and the value. -/
def aval (P : Program) (G : Glob) (o : Oper) (ev : Operand → AV) (H : Heap) : Option (Prop × AV) := aval0 P G.x o.op ev H

/-- A call: it returns, and what it comes to. -/
def ACall (P : Program) (G : Glob) (f : FuncId) (args : List AV) (H : Heap) (R : AV → Heap → Prop) : Prop :=
  ∀ (ρ : Rho) (I : Imm) (w : World) (vs : List Value), Conc G ρ I H w → relL ρ I w args vs →
    Calls P f vs.toArray w fun e w' => ∃ x, e = .returned x ∧ Fin G ρ I H w x w' R

theorem ACall.mono {P : Program} {G : Glob} {H : Heap} {f : FuncId} {args : List AV} {R R' : AV → Heap → Prop} (h : ACall P G f args H R) (hr : ∀ v H', R v H' → R' v H') : ACall P G f args H R' :=
  fun ρ I w vs c r => (h ρ I w vs c r).mono fun _ _ ⟨x, e, f⟩ => ⟨x, e, f.mono hr⟩

def step1 (P : Program) (G : Glob) (o : Oper) (s : St) (K : St → Prop) : Prop :=
  match aval P G o (evA G s.t) s.H with
  | some (c, v) => c ∧ K ⟨putA s.t o.dst v, s.H⟩
  | none =>
    match aeff P o.op (evA G s.t) s.H with
    | some (c, v, H') => c ∧ K ⟨putA s.t o.dst v, H'⟩
    | none =>
      match acall o.op (evA G s.t) with
      | some (f, args) => GoFn P f ∧ ACall P G f args s.H fun v H' => K ⟨putA s.t o.dst v, H'⟩
      | none => OpS P G o (evA G s.t) s.H fun v H' => K ⟨putA s.t o.dst v, H'⟩

def gstep (P : Program) (G : Glob) (ops : Array Oper) (o : Oper) (s : St) (K : St → Prop) : Prop :=
  match o.guard with
  | none => step1 P G o s K
  | some (j, want) =>
    match (ops[j]?).bind (·.dst) with
    | none => K ⟨putA s.t o.dst (.tup []), s.H⟩
    | some d =>
      match s.t.getD d .any with
      | .bool b => (b = want → step1 P G o s K) ∧ (b = !want → K ⟨putA s.t o.dst (.tup []), s.H⟩)
      | .tup _ => K ⟨putA s.t o.dst (.tup []), s.H⟩
      | _ => False

def aops (P : Program) (G : Glob) (ops : Array Oper) : List Oper → St → (St → Prop) → Prop
  | [], s, K => K s
  | o :: rest, s, K => gstep P G ops o s fun s' => aops P G ops rest s' K

/-- From an abstract state on, a predicate holds of whatever the model comes to. -/
def Leads (G : Glob) (ρ : Rho) (I : Imm) (H : Heap) (w : World) (K : St → Prop) (next : Act → World → Prop) : Prop :=
  ∀ (ρ' : Rho) (I' : Imm) (s' : St) (a' : Act) (w' : World), Good ρ I H w ρ' I' s'.H w' → Conc G ρ' I' s'.H w' → RelT ρ' I' w' s'.t a' → K s' → next a' w'

theorem Leads.on {G : Glob} {ρ : Rho} {I : Imm} {H : Heap} {w : World} {K : St → Prop} {next : Act → World → Prop} (h : Leads G ρ I H w K next) {ρ1 : Rho} {I1 : Imm} {H1 : Heap} {w1 : World}
    (g : Good ρ I H w ρ1 I1 H1 w1) : Leads G ρ1 I1 H1 w1 K next :=
  fun ρ' I' s' a' w' g' c r k => h ρ' I' s' a' w' (g.trans g') c r k

theorem rel_undef {ρ : Rho} {I : Imm} {w : World} : rel ρ I w (.tup []) undef := ⟨#[], rfl, by simp [relL]⟩

theorem upon_of_post {P : Program} {G : Glob} {ρ : Rho} {I : Imm} {s : St} {w : World} {o : Oper} {a : Act} {K : St → Prop} {next : Act → World → Prop} {Q : Exit → Act → World → Prop}
    (c : Conc G ρ I s.H w) (r : RelT ρ I w s.t a) (hn : Leads G ρ I s.H w K next) : ∀ {res : Result Next},
    Post P G ρ I s.H w (fun v H' => K ⟨putA s.t o.dst v, H'⟩) res → o.upon P a next Q res := by
  intro res h
  have fin : ∀ (x : Value) (w' : World), Fin G ρ I s.H w x w' (fun v H' => K ⟨putA s.t o.dst v, H'⟩) → next (a.put o.dst x) w' := by
    intro x w' ⟨ρ', I', H', v, hg, hc, hr, hk⟩
    exact hn ρ' I' ⟨putA s.t o.dst v, H'⟩ _ w' hg hc ((r.mono (c.mono hg)).put _ hr) hk
  match res, h with
  | .ok (.value x) w', h => exact fin x w' h
  | .ok .skip w', h => exact fin undef w' h
  | .ok (.enter f args) w', h => exact Calls.mono h fun e w'' ⟨x, he, hf⟩ => by subst he; exact fin x w'' hf

end Go.Ab
