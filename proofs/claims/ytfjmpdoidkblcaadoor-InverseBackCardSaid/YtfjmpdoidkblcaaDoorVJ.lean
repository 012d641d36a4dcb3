/- The abstract layer (second state), part J: steps of operations, code, calls. -/
import Derived.Test.YtfjmpdoidkblcaaDoorVI
set_option linter.unusedSimpArgs false
set_option linter.unusedVariables false
namespace Go.V
open Go
noncomputable section

def one (S : Nat) : Nat → Bool := fun i => i == S
/-- Temporaries behind an operation that makes references to an entry void. -/
def killO (kl : Option Nat) (t : List AV) : List AV := match kl with
  | none => t
  | some n => killL (one n) t
def MonoO (kl : Option Nat) (ρ : Rho) (I : Imm) (w : World) (ρ' : Rho) (I' : Imm) (w' : World) : Prop := match kl with
  | none => Mono ρ I w ρ' I' w'
  | some n => MonoBut (one n) ρ I w ρ' I' w'

def putA (t : List AV) (d : Option Tmp) (v : AV) : List AV :=
  match d with
  | none => t
  | some d => t.set d v

section
variable {P : Program} (G : Env P)

/-- What an operation comes to, said of the model. -/
def Fin (ρ : Rho) (I : Imm) (H : Heap) (w : World) (x : Value) (w' : World) (K : Option Nat → AV → Heap → Prop) : Prop :=
  ∃ (ρ' : Rho) (I' : Imm) (kl : Option Nat) (v : AV) (H' : Heap), Good ρ I H w ρ' I' H' w' ∧ Conc G.g ρ' I' H' w' ∧ rel ρ' I' w' v x ∧ MonoO kl ρ I w ρ' I' w' ∧ K kl v H'

def Post (ρ : Rho) (I : Imm) (H : Heap) (w : World) (K : Option Nat → AV → Heap → Prop) : Result Next → Prop
  | .ok (.value x) w' => Fin G ρ I H w x w' K
  | .ok .skip w' => Fin G ρ I H w undef w' K
  | _ => False

/-- A call: it returns, and what it comes to: a value, a memory, in which blocks that grow may be other ones. -/
def ACall (f : FuncId) (args : List AV) (H : Heap) (R : AV → Heap → Prop) : Prop :=
  ∀ (ρ : Rho) (I : Imm) (w : World) (vs : List Value), Conc G.g ρ I H w → RV ρ I w args vs →
    Calls P f vs.toArray w fun e w' => ∃ x, e = .returned x ∧ ∃ (ρ' : Rho) (I' : Imm) (v : AV) (H' : Heap), Good ρ I H w ρ' I' H' w' ∧ Conc G.g ρ' I' H' w' ∧ rel ρ' I' w' v x ∧ R v H'

/-- A call out of a frame. -/
def callS (f : FuncId) (args : List AV) (s : St) (d : Option Tmp) (K : St → Prop) : Prop :=
  ∀ (ρ : Rho) (I : Imm) (w : World) (a : Act) (vs : List Value), Conc G.g ρ I s.H w → RelT ρ I w s.t a → RV ρ I w args vs →
    Calls P f vs.toArray w fun e w' => ∃ x, e = .returned x ∧ ∃ (ρ' : Rho) (I' : Imm) (s' : St), Good ρ I s.H w ρ' I' s'.H w' ∧ Conc G.g ρ' I' s'.H w' ∧ RelT ρ' I' w' s'.t (a.put d x) ∧ K s'

def step1 (o : Oper) (s : St) (K : St → Prop) : Prop :=
  match aval0 G o.op (evA G s.t) s.H with
  | some (c, v) => cnd c (K ⟨putA s.t o.dst v, s.H⟩)
  | none =>
    match aeff G o.op (evA G s.t) s.H with
    | some (c, v, H', kl) => cnd c (K ⟨putA (killO kl s.t) o.dst v, H'⟩)
    | none =>
      match acall o.op (evA G s.t) with
      | some (f, args) => cnd (G.go f) (callS G f args s o.dst K)
      | none => False

def gstep (ops : Array Oper) (o : Oper) (s : St) (K : St → Prop) : Prop :=
  match o.guard with
  | none => step1 G o s K
  | some (j, want) =>
    match (ops[j]?).bind (·.dst) with
    | none => K ⟨putA s.t o.dst (.tup []), s.H⟩
    | some d =>
      match s.t.getD d .any with
      | .bool b => ifW b want (step1 G o s K) (K ⟨putA s.t o.dst (.tup []), s.H⟩)
      | .tup _ => K ⟨putA s.t o.dst (.tup []), s.H⟩
      | _ => False

def aops (ops : Array Oper) : List Oper → St → (St → Prop) → Prop
  | [], s, K => K s
  | o :: rest, s, K => gstep G ops o s fun s' => aops ops rest s' K

/-- From an abstract state on, a predicate holds of whatever the model comes to. -/
def Leads (ρ : Rho) (I : Imm) (H : Heap) (w : World) (K : St → Prop) (next : Act → World → Prop) : Prop :=
  ∀ (ρ' : Rho) (I' : Imm) (s' : St) (a' : Act) (w' : World), Good ρ I H w ρ' I' s'.H w' → Conc G.g ρ' I' s'.H w' → RelT ρ' I' w' s'.t a' → K s' → next a' w'

/-- What a piece of code does to abstract states. -/
def Tri (c : Code) (Q : Exit → St → Prop) (s : St) : Prop :=
  ∀ (ρ : Rho) (I : Imm) (a : Act) (w : World), Conc G.g ρ I s.H w → RelT ρ I w s.t a →
    c.wp P (fun e a' w' => ∃ (ρ' : Rho) (I' : Imm) (s' : St), Good ρ I s.H w ρ' I' s'.H w' ∧ Conc G.g ρ' I' s'.H w' ∧ RelT ρ' I' w' s'.t a' ∧ Q e s') a w

def thenA (k : St → Prop) (Q : Exit → St → Prop) : Exit → St → Prop
  | .normal, s => k s
  | e, s => Q e s

def blockA (id : Nat) (Q : Exit → St → Prop) : Exit → St → Prop
  | .exit i, s => bif i == id then Q .normal s else Q (.exit i) s
  | e, s => Q e s
end

section
variable {P : Program} {G : Env P} {ρ : Rho} {I : Imm} {H : Heap} {w : World}

theorem rel_undef {ρ : Rho} {I : Imm} {w : World} : rel ρ I w (.tup []) undef := rel_tup.2 ⟨#[], rfl, by simp [RV]⟩

theorem RelT.put {t : List AV} {a : Act} (h : RelT ρ I w t a) (d : Option Tmp) {v : AV} {x : Value} (r : rel ρ I w v x) : RelT ρ I w (putA t d v) (a.put d x) := by
  cases d with
  | none => exact h
  | some d => exact ⟨by simpa [Act.put, putA] using RV_set h.tr d r, h.defers⟩

theorem RelT.kill {kl : Option Nat} {ρ' : Rho} {I' : Imm} {w' : World} (m : MonoO kl ρ I w ρ' I' w') {t : List AV} {a : Act} (h : RelT ρ I w t a) : RelT ρ' I' w' (killO kl t) a := by
  cases kl with
  | none => exact h.mono m
  | some n => exact ⟨RV_kill m _ _ h.tr, h.defers⟩

theorem Leads.on {K : St → Prop} {next : Act → World → Prop} (h : Leads G ρ I H w K next) {ρ1 : Rho} {I1 : Imm} {H1 : Heap} {w1 : World}
    (g : Good ρ I H w ρ1 I1 H1 w1) : Leads G ρ1 I1 H1 w1 K next :=
  fun ρ' I' s' a' w' g' c r k => h ρ' I' s' a' w' (g.trans g') c r k

theorem Fin.here {x : Value} {K : Option Nat → AV → Heap → Prop} (c : Conc G.g ρ I H w) {v : AV} (r : rel ρ I w v x) (k : K none v H) : Fin G ρ I H w x w K :=
  ⟨ρ, I, none, v, H, Good.refl _ _ _ _, c, r, ⟨fun _ _ h => h, fun _ _ h => ⟨h, rfl⟩, fun _ h => ⟨h, rfl⟩⟩, k⟩

theorem upon_of_post {s : St} {o : Oper} {a : Act} {K : St → Prop} {next : Act → World → Prop} {Q : Exit → Act → World → Prop}
    (r : RelT ρ I w s.t a) (hn : Leads G ρ I s.H w K next) : ∀ {res : Result Next},
    Post G ρ I s.H w (fun kl v H' => K ⟨putA (killO kl s.t) o.dst v, H'⟩) res → o.upon P a next Q res := by
  intro res h
  have fin : ∀ (x : Value) (w' : World), Fin G ρ I s.H w x w' (fun kl v H' => K ⟨putA (killO kl s.t) o.dst v, H'⟩) → next (a.put o.dst x) w' := by
    intro x w' ⟨ρ', I', kl, v, H', hg, hc, hr, hm, hk⟩
    exact hn ρ' I' ⟨putA (killO kl s.t) o.dst v, H'⟩ _ w' hg hc ((r.kill hm).put _ hr) hk
  match res, h with
  | .ok (.value x) w', h => exact fin x w' h
  | .ok .skip w', h => exact fin undef w' h

theorem box_fin (c : Conc G.g ρ I H w) {z : AV} {v : Value} (hz : known z = true) (hr : rel ρ I w z v) (t : TypeId) {K : Option Nat → AV → Heap → Prop} (hk : K none (.ptr H.length 0) (H ++ [.blk z.cells []])) :
    Fin G ρ I H w (.pointer (some ⟨w.heap.size, 0, none⟩)) (w.alloc (.cells v.cells t)) K := by
  have hcells := R_cells (known_cells hr hz)
  have hnew := alloc_new w (.cells v.cells t)
  have hx : ∀ b, some w.heap.size = some b → w.heap.size ≤ b ∧ b < (w.alloc (.cells v.cells t)).heap.size := fun b h => by simp at h; subst h; simp
  obtain ⟨hc, hm⟩ := push_conc c (.blk z.cells []) (some w.heap.size) (w' := w.alloc (.cells v.cells t)) hx (by simp) (fun b h => alloc_old w _ h) rfl
    (fun cs f h => by
      simp only [Ent.blk.injEq] at h
      obtain ⟨rfl, rfl⟩ := h
      exact ⟨w.heap.size, t, (0, 0), v.cells.toList, rfl, by simpa using hnew, hcells, fun o _ => by simp⟩)
    (fun h => by simp [Ent.grows] at h) rfl rfl rfl
  exact ⟨_, _, none, _, _, push_good c (.blk z.cells []) (some w.heap.size) (fun b h => (hx b h).1) (by simp) (fun b h => alloc_old w _ h) rfl rfl rfl, hc, rel_ptr.2 ⟨w.heap.size, by simp [bindR], rfl⟩, hm, hk⟩

/-- An entry's cells written anew. -/
theorem upd_fin (c : Conc G.g ρ I H w) {id b : Nat} {e e' : Ent} {el : TypeId} {fr : Nat × Nat} {us us' rest : List Value} {cs' : List AV} (hid : H[id]? = some e) (hb : ρ id = some (some b))
    (hw : w.heap[b]? = some (.cells (us ++ rest).toArray el fr)) (hcl : clear fr (us ++ rest).length) (hblk : (∃ cs f, e = .blk cs f) → rest = []) (hr : RL ρ I w cs' us') (hlen : us'.length = us.length)
    (hfz : ∀ o, inFrz e.frz o → us'[o]? = us[o]?) (hu : updEnt e cs' = some e') :
    Good ρ I H w ρ I (H.set id e') (rewr w b (.cells (us' ++ rest).toArray el fr)) ∧ Conc G.g ρ I (H.set id e') (rewr w b (.cells (us' ++ rest).toArray el fr)) ∧ Mono ρ I w ρ I (rewr w b (.cells (us' ++ rest).toArray el fr)) := by
  have hlen' : (us' ++ rest).length = (us ++ rest).length := by simp [hlen]
  have hfz' : ∀ o, inFrz e.frz o → (us' ++ rest)[o]? = (us ++ rest)[o]? := by
    intro o ho
    rcases Nat.lt_or_ge o us.length with h | h
    · rw [List.getElem?_append_left (by omega), List.getElem?_append_left h]; exact hfz o ho
    · rw [List.getElem?_append_right (by omega), List.getElem?_append_right h, hlen]
  unfold updEnt at hu
  split at hu
  · rename_i cs0 f0
    simp only [Option.some.injEq] at hu
    subst hu
    have hrest := hblk ⟨_, _, rfl⟩
    obtain ⟨k1, k2⟩ := write_conc c hid rfl hb hw hlen' hfz' (e' := .blk cs' f0) rfl (fun h => by simp [Ent.grows] at h) rfl hcl
      (fun cs f h => by simp only [Ent.blk.injEq] at h; obtain ⟨rfl, rfl⟩ := h; subst hrest; simpa using hr) (fun h => by simp [Ent.grows] at h)
    exact ⟨write_good (I := I) hid rfl hb hw hlen' hfz' (e' := .blk cs' f0) rfl (fun h => by simp [Ent.grows] at h), k1, k2⟩
  · rename_i l0 f0
    split at hu
    · rename_i m l'
      simp only [Option.some.injEq] at hu
      subst hu
      have hr' : RL ρ I w [.b8 l'.length l'] us' := by
        obtain ⟨ys, zs, e0, ⟨e1, e2⟩, e3⟩ := RL_head hr
        exact RL_cons.2 ⟨ys, zs, e0, ⟨e1, rfl⟩, e3⟩
      obtain ⟨k1, k2⟩ := write_conc c hid rfl hb hw hlen' hfz' (e' := .grow8 l' f0) rfl (fun _ => rfl) rfl hcl
        (fun cs f h => by simp at h) (fun _ => ⟨trivial, us', rest, rfl, hr'⟩)
      exact ⟨write_good (I := I) hid rfl hb hw hlen' hfz' (e' := .grow8 l' f0) rfl (fun _ => rfl), k1, k2⟩
    · simp at hu
  · simp at hu

theorem updEnt_cells {e e' : Ent} {cs : List AV} (h : updEnt e cs = some e') : (∃ c f, e = .blk c f) ∨ e.grows = true := by
  unfold updEnt at h
  split at h
  · exact .inl ⟨_, _, rfl⟩
  · exact .inr rfl
  · simp at h

theorem ent_of (c : Conc G.g ρ I H w) {id b : Nat} {e : Ent} (hid : H[id]? = some e) (hb : ρ id = some (some b)) (hk : (∃ c f, e = .blk c f) ∨ e.grows = true) :
    ∃ el fr us rest, w.heap[b]? = some (.cells (us ++ rest).toArray el fr) ∧ clear fr (us ++ rest).length ∧ ((∃ cs f, e = .blk cs f) → rest = []) ∧ RL ρ I w e.cells us := by
  rcases hk with ⟨cs, f, rfl⟩ | hk
  · obtain ⟨b', el, fr, us, g1, g2, g3, g4⟩ := c.blk id _ f hid
    obtain rfl : b = b' := by rw [hb] at g1; simpa using g1
    exact ⟨el, fr, us, [], by simpa using g2, by simpa using g4, fun _ => rfl, g3⟩
  · obtain ⟨_, g1 | ⟨b', el, fr, us, rest, g1, g2, g3, g4⟩⟩ := c.grow id e hid hk
    · rw [hb] at g1; simp at g1
    · obtain rfl : b = b' := by rw [hb] at g1; simpa using g1
      exact ⟨el, fr, us, rest, g2, g4, fun ⟨cs, f, h⟩ => by rw [h] at hk; simp [Ent.grows] at hk, g3⟩

theorem store_sound (c : Conc G.g ρ I H w) {ev : Operand → AV} {e : Operand → Value} (r : ∀ x, rel ρ I w (ev x) (e x)) {o : Oper} {t : Nat} {a x : Operand} (hop : o.op = .store t a x) {p : Bool} {id : Nat} {e' : Ent}
    (h : astore G (.store t a x) ev H = some (p, id, e')) (hp : p = true) : ∃ w', (execOp e o).run P w = .ok .skip w' ∧ Good ρ I H w ρ I (H.set id e') w' ∧ Conc G.g ρ I (H.set id e') w' ∧ Mono ρ I w ρ I w' := by
  have fin : ∀ {ti : TI} {b off : Nat} {e0 : Ent} {el : TypeId} {fr : Nat × Nat} {us rest : List Value}, G.ty t = some ti → e a = .pointer (some ⟨b, off, none⟩) → w.heap[b]? = some (.cells (us ++ rest).toArray el fr) → clear fr (us ++ rest).length →
      (e x).cells.size = ti.size → (∀ y ∈ (e x).cells.toList, y.oneCell' = true) → off + ti.size ≤ us.length →
      (execOp e o).run P w = .ok .skip (rewr w b (.cells (spliceV us off (e x).cells.toList ++ rest).toArray el fr)) := by
    intro ti b off e0 el fr us rest ht hea hw hcl hsz h1 hle
    have hrun := run_storeVar (off := off) ht hsz h1 hw (by simp; omega) hcl
    have hL : (e x).cells.toList.length = ti.size := by simpa using hsz
    rw [spliceV_left (by rw [hL]; exact hle)] at hrun
    simp [execOp, hop, Instr.storeAt, hea, Instr.sureAddr, hrun]
  unfold astore at h
  simp only at h
  split at h
  · rename_i ti ht
    split at h
    · rename_i id' off ha
      have hra := r a
      rw [ha] at hra
      obtain ⟨b, hb, hea⟩ := rel_ptr.1 hra
      split at h
      · rename_i e0 hid
        split at h
        · rename_i e1 hu
          simp only [Option.some.injEq, Prod.mk.injEq] at h
          obtain ⟨rfl, rfl, rfl⟩ := h
          simp only [Bool.and_eq_true, beq_iff_eq, bne_iff_ne, ne_eq] at hp
          obtain ⟨⟨⟨⟨c1, c2⟩, c3, c4⟩, c5⟩, c6⟩ := hp
          have c5 := leB_iff.1 c5
          have c6 := frzFree_iff c6
          obtain ⟨el, fr, us, rest, hw, hcl, hblk, hr⟩ := ent_of c hid hb (updEnt_cells hu)
          have hcells := known_cells (r x) c1
          have hlx := R_len _ _ hcells
          have hlu := RL_len _ _ hr
          have hsz : (e x).cells.size = ti.size := by simp at hlx; omega
          have hL : (e x).cells.toList.length = ti.size := by simpa using hsz
          have hres := RL_set e0.cells us off (ev x) _ hr hcells (by omega) (by omega)
          have hrun := fin (e0 := e0) ht hea hw hcl hsz (oneA_sound _ _ hcells c2) (by omega)
          exact ⟨_, hrun, upd_fin c hid hb hw hcl hblk hres (length_spliceV (by rw [hL]; omega)) (fun q ⟨pr, hpr, h1, h2⟩ => spliceV_get_out (by rw [hL]; omega) (by rw [hL]; have := c6 pr hpr; omega)) hu⟩
        · simp at h
      · simp at h
    · rename_i id' off n i ha
      have hra := r a
      rw [ha] at hra
      obtain ⟨b, hb, hi, hea⟩ := rel_pix.1 hra
      split at h
      · rename_i e0 hid
        split at h
        · rename_i cs' hset
          split at h
          · rename_i e1 hu
            simp only [Option.some.injEq, Prod.mk.injEq] at h
            obtain ⟨rfl, rfl, rfl⟩ := h
            simp only [Bool.and_eq_true, beq_iff_eq, Bool.not_eq_true'] at hp
            obtain ⟨⟨⟨⟨c1, c2⟩, c3, c4⟩, c5, c7⟩, c6⟩ := hp
            have c5 := leB_iff.1 c5
            have c6 := frzFree_iff c6
            obtain ⟨el, fr, us, rest, hw, hcl, hblk, hr⟩ := ent_of c hid hb (updEnt_cells hu)
            have hlu := RL_len _ _ hr
            obtain ⟨k1, k2⟩ := setX1_sound hr hi c5 c3 c7 (r x) hset
            have hcells := known_cells (r x) c1
            obtain ⟨y, hy, _⟩ := R_one c7 hcells
            have hsz : (e x).cells.size = ti.size := by have := congrArg List.length hy; simp at this; omega
            have hyx : y = e x := by
              cases hv : e x <;> rw [hv] at hy hcells <;> simp [Value.cells] at hy <;> first | exact hy.symm | skip
              exfalso
              rename_i cs
              have hrx := r x
              rw [hv] at hrx
              have := rel_one c7 hrx
              have h3 := oneA_sound _ _ this c2 (.agg cs) (by simp)
              simp [Value.oneCell'] at h3
            subst hyx
            have hrun := fin (e0 := e0) ht hea hw hcl hsz (oneA_sound _ _ hcells c2) (by omega)
            rw [hy, spliceV_one _ (by omega)] at hrun
            refine ⟨_, hrun, upd_fin c hid hb hw hcl hblk k1 (by simp) (fun q ⟨pr, hpr, h1, h2⟩ => ?_) hu⟩
            rw [List.getElem?_set_ne]
            have := c6 pr hpr
            omega
          · simp at h
        · simp at h
      · simp at h
    · simp at h
  · simp at h

theorem aeff_sound (c : Conc G.g ρ I H w) {ev : Operand → AV} {e : Operand → Value} (r : ∀ x, rel ρ I w (ev x) (e x)) {o : Oper} {p : Bool} {v : AV} {H' : Heap} {kl : Option Nat} (h : aeff G o.op ev H = some (p, v, H', kl)) (hp : p = true)
    {K : Option Nat → AV → Heap → Prop} (hk : K kl v H') : Post G ρ I H w K ((execOp e o).run P w) := by
  unfold aeff at h
  split at h
  · rename_i t hop
    split at h
    · rename_i ti ht
      split at h
      · rename_i z hz
        simp only [Option.some.injEq, Prod.mk.injEq] at h
        obtain ⟨rfl, rfl, rfl, rfl⟩ := h
        obtain ⟨j, d, h1, h2, h3, _, h5, h6, _⟩ := ty_ok ht
        obtain ⟨zv, hzv, hck⟩ := h6 z hz
        have hrun : (execOp e o).run P w = .ok (.value (.pointer (some ⟨w.heap.size, 0, none⟩))) (w.alloc (.cells zv.cells t)) := by
          simp [execOp, hop, Instr.alloc, zeroValue, run_typeInfo h1, hzv, newVar, newRow]
        rw [hrun]
        exact box_fin c hp (chkV_sound hck ρ I w) t hk
      · simp at h
    · simp at h
  · rename_i t x hop
    simp only [Option.some.injEq, Prod.mk.injEq] at h
    obtain ⟨rfl, rfl, rfl, rfl⟩ := h
    have hrun : (execOp e o).run P w = .ok (.value (.pointer (some ⟨w.heap.size, 0, none⟩))) (w.alloc (.cells (e x).cells t)) := by
      simp [execOp, hop, Instr.box, newVar, newRow]
    rw [hrun]
    exact box_fin c hp (r x) t hk
  · rename_i t a x hop
    split at h
    · rename_i q id e1 hs
      simp only [Option.some.injEq, Prod.mk.injEq] at h
      obtain ⟨rfl, rfl, rfl, rfl⟩ := h
      obtain ⟨w', hrun, h1, h2, h3⟩ := store_sound c r hop hs hp
      rw [hrun]
      exact ⟨ρ, I, none, _, _, h1, h2, rel_undef, h3, hk⟩
    · simp at h
  · simp at h

theorem goFn_run {f : FuncId} (h : GoFn P f) (args : Array Value) : (callFunc f args).run P w = .ok (.enter f args) w := by
  unfold GoFn at h
  split at h
  · rename_i fn hfn
    obtain ⟨n1, n2⟩ := h
    have n1' : fn.name ≠ "runtime.NumGoroutine" := by simpa using n1
    obtain ⟨bd, hb⟩ := Option.isSome_iff_exists.1 n2
    simp [callFunc, hfn, n1', hb]
  · exact h.elim

theorem acall_run {ev : Operand → AV} {e : Operand → Value} (r : ∀ x, rel ρ I w (ev x) (e x)) {o : Oper} {f : FuncId} {args : List AV} (h : acall o.op ev = some (f, args)) (hf : GoFn P f) :
    ∃ vs : Array Value, (execOp e o).run P w = .ok (.enter f vs) w ∧ RV ρ I w args vs.toList := by
  unfold acall at h
  split at h
  · rename_i cl hop
    split at h
    · rename_i fo hfo
      split at h
      · rename_i g first caps hg
        simp only [Option.some.injEq, Prod.mk.injEq] at h
        obtain ⟨rfl, rfl⟩ := h
        have hr := r fo
        rw [hg] at hr
        obtain ⟨x, y, hx, h1, h2⟩ := rel_fn.1 hr
        refine ⟨x ++ cl.args.map e ++ y, by rw [run_call_value hop hfo hx, goFn_run hf], ?_⟩
        simp only [Array.toList_append, Array.toList_map, List.append_assoc]
        exact RV_append h1 (RV_append (RV_mapev r _) h2)
      · simp at h
    · simp at h
  · simp at h

theorem step1_sound (c : Conc G.g ρ I H w) {t : List AV} {a : Act} (r : RelT ρ I w t a) {o : Oper} {K : St → Prop} (h : step1 G o ⟨t, H⟩ K) {next : Act → World → Prop} {Q : Exit → Act → World → Prop}
    (hn : Leads G ρ I H w K next) : o.wp P a w next Q := by
  have re := rel_evA c r
  unfold step1 at h
  unfold Oper.wp
  split at h
  · rename_i b v hv
    obtain ⟨hc, hk⟩ := cnd_iff.1 h
    obtain ⟨x, h1, h2⟩ := aval0_sound c re hv hc
    rw [h1]
    exact upon_of_post (s := ⟨t, H⟩) (o := o) r hn (res := .ok (.value x) w) (Fin.here c h2 hk)
  · split at h
    · rename_i b v H' kl hv
      obtain ⟨hc, hk⟩ := cnd_iff.1 h
      exact upon_of_post (s := ⟨t, H⟩) (o := o) r hn (aeff_sound c re hv hc hk)
    · split at h
      · rename_i f args hcall
        obtain ⟨hg, hcs⟩ := cnd_iff.1 h
        obtain ⟨vs, h1, h2⟩ := acall_run re hcall (G.goOk f hg)
        rw [h1]
        have := hcs ρ I w a vs.toList c r h2
        rw [Array.toArray_toList] at this
        refine Calls.mono this ?_
        rintro e w' ⟨x, rfl, ρ', I', s', g1, g2, g3, g4⟩
        exact hn ρ' I' s' _ w' g1 g2 g3 g4
      · exact h.elim

theorem yielded_of {ops : Array Oper} {j d : Nat} {t : List AV} {a : Act} (r : RelT ρ I w t a) (hd : (ops[j]?).bind (·.dst) = some d) {b : Bool} (h : t.getD d .any = .bool b) :
    yielded ops a.tmps j = some b := by
  have := RV_getD r.tr d
  rw [h, rel_bool] at this
  have hx : a.tmps.toList.getD d undef = .bool b := this
  unfold yielded
  rw [hd]
  simp only [Option.bind_some]
  rw [List.getD_eq_getElem?_getD] at hx
  cases hq : a.tmps[d]? with
  | none => simp [hq, undef] at hx
  | some v => simp [hq] at hx; simp [hx]

theorem yielded_tup {ops : Array Oper} {j d : Nat} {t : List AV} {a : Act} (r : RelT ρ I w t a) (hd : (ops[j]?).bind (·.dst) = some d) {l : List AV} (h : t.getD d .any = .tup l) :
    yielded ops a.tmps j = none := by
  have := RV_getD r.tr d
  rw [h] at this
  obtain ⟨cs, hx, _⟩ := rel_tup.1 this
  unfold yielded
  rw [hd]
  simp only [Option.bind_some]
  rw [List.getD_eq_getElem?_getD] at hx
  cases hq : a.tmps[d]? with
  | none => rfl
  | some v => simp [hq] at hx; simp [hx]

theorem gstep_sound (c : Conc G.g ρ I H w) {t : List AV} {a : Act} (r : RelT ρ I w t a) {ops : Array Oper} {o : Oper} {K : St → Prop} (h : gstep G ops o ⟨t, H⟩ K) {next : Act → World → Prop}
    {Q : Exit → Act → World → Prop} (hn : Leads G ρ I H w K next) :
    if Region.wanted o (yielded ops a.tmps) then o.wp P a w next Q else next (a.put o.dst undef) w := by
  have skip : K ⟨putA t o.dst (.tup []), H⟩ → next (a.put o.dst undef) w := fun hk =>
    hn ρ I ⟨putA t o.dst (.tup []), H⟩ _ w (Good.refl _ _ _ _) c (r.put _ rel_undef) hk
  unfold gstep at h
  unfold Region.wanted
  split at h
  · rename_i hg
    rw [hg]
    exact step1_sound c r h hn
  · rename_i j want hg
    rw [hg]
    split at h
    · rename_i hd
      have : yielded ops a.tmps j = none := by unfold yielded; rw [hd]; rfl
      simp only [this]
      simpa using skip h
    · rename_i d hd
      split at h
      · rename_i b hb
        have hy := yielded_of r hd hb
        have h := ifW_iff.1 h
        simp only [hy]
        by_cases e : b = want
        · subst e
          simp only [beq_self_eq_true, if_true]
          exact step1_sound c r (h.1 rfl) hn
        · have e' : b = !want := by cases b <;> cases want <;> simp_all
          have : (some b == some want) = false := by simp [e]
          simp only [this, Bool.false_eq_true, if_false]
          exact skip (h.2 e')
      · rename_i l hl
        have hy := yielded_tup r hd hl
        simp only [hy]
        simpa using skip h
      · exact h.elim

theorem aops_sound {ops : Array Oper} {Q : Exit → Act → World → Prop} : ∀ (l : List Oper) {ρ : Rho} {I : Imm} {H : Heap} {w : World} {t : List AV} {a : Act} {K : St → Prop},
    Conc G.g ρ I H w → RelT ρ I w t a → aops G ops l ⟨t, H⟩ K → Leads G ρ I H w K (Q .normal) → wpList P ops Q l a w
  | [], ρ, I, H, w, t, a, K, c, r, h, hn => hn ρ I ⟨t, H⟩ a w (Good.refl _ _ _ _) c r h
  | o :: rest, ρ, I, H, w, t, a, K, c, r, h, hn => by
    have := gstep_sound (Q := Q) c r (K := fun s' => aops G ops rest s' K) h (next := wpList P ops Q rest)
      (fun ρ' I' s' a' w' g c' r' k => aops_sound rest c' r' k (hn.on g))
    unfold wpList
    split
    · rename_i hw
      rw [if_pos hw] at this
      exact .inl this
    · rename_i hw
      rw [if_neg hw] at this
      exact this

theorem Tri.mono {c : Code} {Q Q' : Exit → St → Prop} {s : St} (h : Tri G c Q s) (hq : ∀ e s, Q e s → Q' e s) : Tri G c Q' s :=
  fun ρ I a w hc hr => wp_mono (h ρ I a w hc hr) fun _ _ _ ⟨ρ', I', s', h1, h2, h3, h4⟩ => ⟨ρ', I', s', h1, h2, h3, hq _ _ h4⟩
theorem Tri.skip {Q : Exit → St → Prop} {s : St} (h : Q .normal s) : Tri G .skip Q s :=
  fun ρ I a w hc hr => wp_skip ⟨ρ, I, s, Good.refl _ _ _ _, hc, hr, h⟩
theorem Tri.label {Q : Exit → St → Prop} {s : St} {l : Nat} (h : Q .normal s) : Tri G (.label l) Q s :=
  fun ρ I a w hc hr => wp_label ⟨ρ, I, s, Good.refl _ _ _ _, hc, hr, h⟩
theorem Tri.exit {Q : Exit → St → Prop} {s : St} {id : Nat} (h : Q (.exit id) s) : Tri G (.exit id) Q s :=
  fun ρ I a w hc hr => wp_exit ⟨ρ, I, s, Good.refl _ _ _ _, hc, hr, h⟩
theorem Tri.goto {Q : Exit → St → Prop} {s : St} {l : Nat} (h : Q (.goto l) s) : Tri G (.goto l) Q s :=
  fun ρ I a w hc hr => wp_goto ⟨ρ, I, s, Good.refl _ _ _ _, hc, hr, h⟩
theorem Tri.ret {Q : Exit → St → Prop} {s : St} (h : Q .ret s) : Tri G .ret Q s :=
  fun ρ I a w hc hr => wp_ret ⟨ρ, I, s, Good.refl _ _ _ _, hc, hr, h⟩

theorem Tri.seq {x y : Code} {Q : Exit → St → Prop} {s : St} (h : Tri G x (thenA (Tri G y Q) Q) s) : Tri G (.seq x y) Q s := by
  intro ρ I a w hc hr
  refine wp_seq (wp_mono (h ρ I a w hc hr) ?_)
  rintro e a' w' ⟨ρ', I', s', h1, h2, h3, h4⟩
  cases e with
  | normal =>
    refine wp_mono (h4 ρ' I' a' w' h2 h3) ?_
    rintro e a'' w'' ⟨ρ'', I'', s'', k1, k2, k3, k4⟩
    exact ⟨ρ'', I'', s'', h1.trans k1, k2, k3, k4⟩
  | _ => exact ⟨ρ', I', s', h1, h2, h3, h4⟩

theorem Tri.cond {c : Operand} {x y : Code} {Q : Exit → St → Prop} {s : St} {b : Bool} (hc : evA G s.t c = .bool b) (h1 : b = true → Tri G x Q s) (h2 : b = false → Tri G y Q s) : Tri G (.cond c x y) Q s := by
  intro ρ I a w hC hr
  have := rel_evA hC hr c
  rw [hc, rel_bool] at this
  exact wp_cond_split this (fun e => h1 e ρ I a w hC hr) (fun e => h2 e ρ I a w hC hr)

theorem Tri.block {id : Nat} {c : Code} {Q : Exit → St → Prop} {s : St} (h : Tri G c (blockA id Q) s) : Tri G (.block id c) Q s := by
  intro ρ I a w hc hr
  refine wp_block (wp_mono (h ρ I a w hc hr) ?_)
  rintro e a' w' ⟨ρ', I', s', h1, h2, h3, h4⟩
  cases e with
  | exit i =>
    simp only [Exit.inBlock]
    simp only [blockA] at h4
    split
    · rename_i e; rw [e, beq_self_eq_true] at h4; exact ⟨ρ', I', s', h1, h2, h3, h4⟩
    · rename_i e; rw [show (i == id) = false by simpa using e] at h4; exact ⟨ρ', I', s', h1, h2, h3, h4⟩
  | _ => exact ⟨ρ', I', s', h1, h2, h3, h4⟩

/-- A region in the order of its text. -/
theorem Tri.region {id : Nat} {ops : Array Oper} {Q : Exit → St → Prop} {s : St} (h : aops G ops ops.toList s (Q .normal)) : Tri G (.region id ops false) Q s := by
  intro ρ I a w hc hr
  refine wp_region_list (aops_sound ops.toList hc hr h ?_)
  intro ρ' I' s' a' w' g c r k
  exact ⟨ρ', I', s', g, c, r, k⟩

theorem wp_loopN {c : Code} {Q : Exit → Act → World → Prop} (J : Nat → Act → World → Prop) (n : Nat) {a : Act} (h0 : J n a w)
    (round : ∀ n a w, J n a w → c.wp P (Exit.then (fun a' w' => ∃ m, m < n ∧ J m a' w') Q) a w) : (Code.loop c).wp P Q a w := by
  intro b k cs
  have key : ∀ (n : Nat) (a : Act) (w : World), J n a w → ∃ e a' w', Q e a' w' ∧ Arrives P (lone (b.at a (.code c :: .inLoop c :: k)) cs w) b k cs e a' w' := by
    intro n
    induction n using Nat.strongRecOn with
    | _ n ih =>
      intro a w hI
      obtain ⟨e, a1, w1, hq, harr⟩ := round n a w hI b (.inLoop c :: k) cs
      cases e with
      | normal =>
        obtain ⟨m, hlt, hI1⟩ := hq
        obtain ⟨e2, a2, w2, hq2, harr2⟩ := ih m hlt a1 w1 hI1
        exact ⟨e2, a2, w2, hq2, .of_steps (Steps.trans harr (.one step_inLoop)) harr2⟩
      | exit id => exact ⟨_, a1, w1, hq, .pass (x := .inLoop c) rfl (fun _ _ => .inl (by simp)) harr⟩
      | goto l => exact ⟨_, a1, w1, hq, .pass (x := .inLoop c) rfl (fun _ _ => .inl (by simp)) harr⟩
      | ret => exact ⟨_, a1, w1, hq, .pass (x := .inLoop c) rfl (fun _ _ => .inl (by simp)) harr⟩
      | panic ch => exact ⟨_, a1, w1, hq, .pass (x := .inLoop c) rfl (fun _ _ => .inl (by simp)) harr⟩
      | outgrown => exact ⟨_, a1, w1, hq, .pass (x := .inLoop c) rfl (fun _ _ => .inl (by simp)) harr⟩
  obtain ⟨e, a', w', hq, harr⟩ := key n a w h0
  exact ⟨e, a', w', hq, .of_steps (.one step_loop) harr⟩

/-- A loop: what holds at each round's head, and a number that gets less. -/
theorem Tri.loop {c : Code} {Q : Exit → St → Prop} {s : St} (Inv : Nat → St → Prop) (n : Nat) (h0 : Inv n s)
    (round : ∀ n s, Inv n s → Tri G c (thenA (fun s' => ∃ m, m < n ∧ Inv m s') Q) s) : Tri G (.loop c) Q s := by
  intro ρ I a w hc hr
  refine wp_loopN (fun n a' w' => ∃ (ρ' : Rho) (I' : Imm) (s' : St), Inv n s' ∧ Good ρ I s.H w ρ' I' s'.H w' ∧ Conc G.g ρ' I' s'.H w' ∧ RelT ρ' I' w' s'.t a') n
    ⟨ρ, I, s, h0, Good.refl _ _ _ _, hc, hr⟩ ?_
  rintro n a1 w1 ⟨ρ1, I1, s1, hI, hg, hC, hR⟩
  refine wp_mono (round n s1 hI ρ1 I1 a1 w1 hC hR) ?_
  rintro e a' w' ⟨ρ', I', s', k1, k2, k3, k4⟩
  cases e with
  | normal =>
    obtain ⟨m, hm, hi⟩ := k4
    exact ⟨m, hm, ρ', I', s', hi, hg.trans k1, k2, k3⟩
  | _ => exact ⟨ρ', I', s', hg.trans k1, k2, k3, k4⟩
end
end
end Go.V
