/- The abstract layer (third state), part E: steps in the order of the text, and statements whose order is open. -/
import Derived.Test.YtfjmpdoidkblcaaDoorWD
set_option linter.unusedSimpArgs false
set_option linter.unusedVariables false
namespace Go.V
open Go
noncomputable section

/-- Where a walk does not go on. -/
def stuckAt : Oper → St → Prop := (sealed fun _ _ => False).val
theorem stuckAt_no {o : Oper} {s : St} (h : stuckAt o s) : False := by
  rw [stuckAt, (sealed fun (_ : Oper) (_ : St) => False).property] at h; exact h
def stuckIn : Nat → AV → Prop := (sealed fun _ _ => False).val
theorem stuckIn_no {n : Nat} {v : AV} (h : stuckIn n v) : False := by
  rw [stuckIn, (sealed fun (_ : Nat) (_ : AV) => False).property] at h; exact h

/-- What an operation does to a state: a temporary, entries; and which entries it hangs on. -/
structure DEff where
  dst : Option Tmp
  val : AV
  upd : List (Nat × Ent)
  reads : List Nat

def applyE (e : DEff) (s : St) : St := ⟨putA s.t e.dst e.val, updH s.H e.upd⟩

/-- Numbers kept at the end, and given back. -/
def extH (H : Heap) : Nat → Heap
  | 0 => H
  | n + 1 => H ++ List.replicate (n + 1) .res
def trim : Nat → Heap → Heap
  | 0, H => H
  | k + 1, H => match H.getLast? with
    | some .res => trim k H.dropLast
    | _ => H

/- What is passed on is written out first, so that nothing is reckoned twice. -/
mutual
def fA : AV → (AV → Prop) → Prop
  | .agg l, k => fL l fun l' => k (.agg l')
  | .tup l, k => fL l fun l' => k (.tup l')
  | .fn f a b, k => fL a fun a' => fL b fun b' => k (.fn f a' b')
  | .any, k => k .any
  | .raw v, k => k (.raw v)
  | .int q n, k => k (.int q n)
  | .u8 x, k => k (.u8 x)
  | .u32 x, k => k (.u32 x)
  | .u64 x, k => k (.u64 x)
  | .bool b, k => k (.bool b)
  | .str s, k => k (.str s)
  | .b8 n l, k => k (.b8 n l)
  | .w32 n l, k => k (.w32 n l)
  | .w64 n l, k => k (.w64 n l)
  | .ptr i o, k => k (.ptr i o)
  | .pix i o n x, k => k (.pix i o n x)
  | .sl i o n len, k => k (.sl i o n len)
  | .vec8 f l, k => k (.vec8 f l)
  | .vec f n r, k => k (.vec f n r)
  | .vp c i, k => k (.vp c i)
  | .vpx c o n i, k => k (.vpx c o n i)
def fL : List AV → (List AV → Prop) → Prop
  | [], k => k []
  | a :: as, k => fA a fun a' => fL as fun as' => k (a' :: as')
end
mutual
theorem fA_eq : ∀ (a : AV) (k : AV → Prop), fA a k = k a
  | .agg l, k => by simp only [fA, fL_eq]
  | .tup l, k => by simp only [fA, fL_eq]
  | .fn f a b, k => by simp only [fA, fL_eq]
  | .any, k => rfl
  | .raw _, k => rfl
  | .int _ _, k => rfl
  | .u8 _, k => rfl
  | .u32 _, k => rfl
  | .u64 _, k => rfl
  | .bool _, k => rfl
  | .str _, k => rfl
  | .b8 _ _, k => rfl
  | .w32 _ _, k => rfl
  | .w64 _ _, k => rfl
  | .ptr _ _, k => rfl
  | .pix _ _ _ _, k => rfl
  | .sl _ _ _ _, k => rfl
  | .vec8 _ _, k => rfl
  | .vec _ _ _, k => rfl
  | .vp _ _, k => rfl
  | .vpx _ _ _ _, k => rfl
theorem fL_eq : ∀ (l : List AV) (k : List AV → Prop), fL l k = k l
  | [], k => rfl
  | a :: as, k => by simp only [fL, fA_eq, fL_eq]
end
/-- A temporary is written. -/
def fSet : List AV → Nat → AV → (List AV → Prop) → Prop
  | [], _, _, k => k []
  | _ :: as, 0, v, k => k (v :: as)
  | a :: as, n + 1, v, k => fSet as n v fun as' => k (a :: as')
theorem fSet_eq : ∀ (l : List AV) (n : Nat) (v : AV) (k : List AV → Prop), fSet l n v k = k (l.set n v)
  | [], _, _, _ => by simp [fSet]
  | _ :: _, 0, _, _ => rfl
  | a :: as, n + 1, v, k => by simp only [fSet, fSet_eq as n v, List.set_cons_succ]
def fPut (t : List AV) (d : Option Tmp) (v : AV) (k : List AV → Prop) : Prop := match d with
  | none => k t
  | some d => fA v fun v' => fSet t d v' k
theorem fPut_eq (t : List AV) (d : Option Tmp) (v : AV) (k : List AV → Prop) : fPut t d v k = k (putA t d v) := by
  cases d <;> simp [fPut, putA, fA_eq, fSet_eq]
def fE : Ent → (Ent → Prop) → Prop
  | .dead, k => k .dead
  | .res, k => k .res
  | .blk c f, k => fL c fun c' => k (.blk c' f)
  | .grow8 l f, k => k (.grow8 l f)
  | .grow n r f, k => k (.grow n r f)
theorem fE_eq (e : Ent) (k : Ent → Prop) : fE e k = k e := by cases e <;> simp [fE, fL_eq]
def fH : Heap → (Heap → Prop) → Prop
  | [], k => k []
  | e :: r, k => fE e fun e' => fH r fun r' => k (e' :: r')
theorem fH_eq : ∀ (H : Heap) (k : Heap → Prop), fH H k = k H
  | [], _ => rfl
  | e :: r, k => by simp only [fH, fE_eq, fH_eq r]
def fN : List Nat → (List Nat → Prop) → Prop
  | [], k => k []
  | a :: as, k => fN as fun as' => k (a :: as')
theorem fN_eq : ∀ (l : List Nat) (k : List Nat → Prop), fN l k = k l
  | [], _ => rfl
  | a :: as, k => by simp only [fN, fN_eq as]
def fU : List (Nat × Ent) → (List (Nat × Ent) → Prop) → Prop
  | [], k => k []
  | (i, e) :: r, k => fE e fun e' => fU r fun r' => k ((i, e') :: r')
theorem fU_eq : ∀ (l : List (Nat × Ent)) (k : List (Nat × Ent) → Prop), fU l k = k l
  | [], _ => rfl
  | (i, e) :: r, k => by simp only [fU, fE_eq, fU_eq r]
/-- What is known of a temporary behind a question. -/
def setB (t : List AV) (d : Nat) (b : Bool) (k : List AV → Prop) : Prop := fSet t d (.bool b) k
theorem setB_eq {t : List AV} {d : Nat} {b : Bool} {k : List AV → Prop} (h : t.getD d .any = .bool b) : setB t d b k = k t := by
  unfold setB
  rw [fSet_eq]
  congr 1
  apply List.ext_getElem?
  intro i
  rw [List.getElem?_set]
  split
  · rename_i e; subst e
    split
    · rename_i hl
      rw [List.getD_eq_getElem?_getD, List.getElem?_eq_getElem hl] at h
      rw [List.getElem?_eq_getElem hl]; simpa using h.symm
    · rename_i hl; simp; omega
  · rfl

section
variable {P : Program} (G : Env P) (R : ROps G) (C : FuncId → List AV → Option (Bool × Out))

def dstep (nid : Nat) (o : Oper) (s : St) (K : DEff → Prop) : Prop :=
  match eff G R C o.op (evA G s.t) s.H nid with
  | some E => E.go fun v u => fA v fun v => fU u fun u => fN (readsE (evA G s.t) o.op nid (slots G o.op) ++ u.map (·.1)) fun rs => K ⟨o.dst, v, u, rs⟩
  | none => stuckAt o s

def dgstep (ops : Array Oper) (nid : Nat) (o : Oper) (s : St) (K : List AV → DEff → Prop) : Prop :=
  match o.guard with
  | none => dstep G R C nid o s (K s.t)
  | some (j, want) =>
    match (ops[j]?).bind (·.dst) with
    | none => K s.t ⟨o.dst, .tup [], [], []⟩
    | some d =>
      match s.t.getD d .any with
      | .bool b => ifW b want (setB s.t d want fun t => dstep G R C nid o ⟨t, s.H⟩ (K t)) (setB s.t d (!want) fun t => K t ⟨o.dst, .tup [], [], []⟩)
      | .tup _ => K s.t ⟨o.dst, .tup [], [], []⟩
      | _ => stuckAt o s

def dops (ops : Array Oper) : List Oper → Nat → St → List DEff → (St → List DEff → Prop) → Prop
  | [], _, s, tr, K => K s tr
  | o :: rest, nid, s, tr, K => dgstep G R C ops nid o s fun t e => fPut t e.dst e.val fun t => fH (updH s.H e.upd) fun H => dops ops rest (nid + slots G o.op) ⟨t, H⟩ (tr ++ [e]) K

/-- A step in the order of the text; 'cl': a call whose value is not known ahead. -/
def sstep (cl : FuncId → List AV → St → Option Tmp → (St → Prop) → Prop) (o : Oper) (s : St) (K : St → Prop) : Prop :=
  match aval0 G o.op (evA G s.t) s.H with
  | some (c, v) => cnd c (fPut s.t o.dst v fun t => K ⟨t, s.H⟩)
  | none =>
    match eff G R C o.op (evA G s.t) (extH s.H (slots G o.op)) s.H.length with
    | some E => E.go fun v u => fPut s.t o.dst v fun t => fH (trim (slots G o.op) (updH (extH s.H (slots G o.op)) u)) fun H => K ⟨t, H⟩
    | none =>
      match acall o.op (evA G s.t) with
      | some (f, args) => cnd (G.go f) (cl f args s o.dst K)
      | none => stuckAt o s

def sgstep (cl : FuncId → List AV → St → Option Tmp → (St → Prop) → Prop) (ops : Array Oper) (o : Oper) (s : St) (K : St → Prop) : Prop :=
  match o.guard with
  | none => sstep G R C cl o s K
  | some (j, want) =>
    match (ops[j]?).bind (·.dst) with
    | none => fPut s.t o.dst (.tup []) fun t => K ⟨t, s.H⟩
    | some d =>
      match s.t.getD d .any with
      | .bool b => ifW b want (setB s.t d want fun t => sstep G R C cl o ⟨t, s.H⟩ K) (setB s.t d (!want) fun t => fPut t o.dst (.tup []) fun t => K ⟨t, s.H⟩)
      | .tup _ => fPut s.t o.dst (.tup []) fun t => K ⟨t, s.H⟩
      | _ => stuckAt o s

def sops (cl : FuncId → List AV → St → Option Tmp → (St → Prop) → Prop) (ops : Array Oper) : List Oper → St → (St → Prop) → Prop
  | [], s, K => K s
  | o :: rest, s, K => sgstep G R C cl ops o s fun s' => sops cl ops rest s' K
end

section
variable {P : Program} {G : Env P} {ρ : Rho} {I : Imm} {H : Heap} {w : World}

/-- Two states look the same to an operation. -/
structure Agree {P : Program} (G : Env P) (ops : Array Oper) (o : Oper) (rs : List Nat) (s s' : St) : Prop where
  look : ∀ t ∈ o.looksAt ops, s'.t.getD t .any = s.t.getD t .any
  read : ∀ id ∈ rs, s'.H[id]? = s.H[id]?

theorem Agree.ev {ops : Array Oper} {o : Oper} {rs : List Nat} {s s' : St} (h : Agree G ops o rs s s') {x : Operand} (hx : x ∈ o.op.operands) : evA G s'.t x = evA G s.t x := by
  cases x with
  | tmp t =>
    refine h.look t ?_
    unfold Oper.looksAt
    rw [List.mem_append]
    left
    rw [List.mem_filterMap]
    exact ⟨.tmp t, by simpa using hx, rfl⟩
  | _ => rfl

theorem Agree.mono {ops : Array Oper} {o : Oper} {rs rs' : List Nat} {s s' : St} (h : Agree G ops o rs s s') (hr : ∀ x ∈ rs', x ∈ rs) : Agree G ops o rs' s s' :=
  ⟨h.look, fun id hid => h.read id (hr id hid)⟩

/-- Numbers are kept for blocks to come. -/
theorem reserve_conc (c : Conc G.g ρ I H w) (n : Nat) : Good ρ I H w ρ I (H ++ List.replicate n .res) w ∧ Conc G.g ρ I (H ++ List.replicate n .res) w := by
  have hget : ∀ (i : Nat) (e : Ent), (H ++ List.replicate n .res)[i]? = some e → (H[i]? = some e) ∨ (H.length ≤ i ∧ e = .res) := by
    intro i e h
    rcases Nat.lt_or_ge i H.length with hi | hi
    · left; rwa [List.getElem?_append_left hi] at h
    · right
      rw [List.getElem?_append_right hi, List.getElem?_replicate] at h
      split at h
      · simp at h; exact ⟨hi, h.symm⟩
      · simp at h
  have live : ∀ (i : Nat) (e : Ent), (H ++ List.replicate n .res)[i]? = some e → e.live = true → H[i]? = some e := by
    intro i e h hl
    rcases hget i e h with h | ⟨_, rfl⟩
    · exact h
    · simp [Ent.live] at hl
  have g : Good ρ I H w ρ I (H ++ List.replicate n .res) w :=
    ⟨fun _ _ h => .inl h, fun id x _ ⟨e, h1, h2⟩ => ⟨e, live id e h1 (by cases e <;> simp_all [Ent.grows, Ent.live]), h2⟩, by simp, fun _ _ h => h, fun _ _ _ h => .inl h, rfl, rfl, rfl, Nat.le_refl _, fun _ _ _ _ => rfl, fun _ _ _ => rfl, fun _ _ => rfl,
      fun b o _ ⟨i, e, h1, h2, h3, h4⟩ => ⟨i, e, live i e h1 h2, h2, h3, h4⟩, fun b _ ⟨i, e, h1, h2, h3⟩ => ⟨i, e, live i e h1 h2, h2, h3⟩⟩
  refine ⟨g, fun id h => by have := c.dom id h; simp; omega, fun id h => ?_, c.blt, fun i j b e e' hi l1 hj l2 => c.inj i j b e e' (live i e hi l1) l1 (live j e' hj l2) l2,
    fun id cs f h => c.blk id cs f (live id _ h rfl), fun id e h he => c.grow id e (live id _ h (by cases e <;> simp_all [Ent.grows, Ent.live])) he, fun b o h => ⟨(c.imm b o h).1, fun hm => (c.imm b o h).2 (g.wrt b o (c.imm b o h).1 hm)⟩, c.glob⟩
  rcases hget id _ h with h | ⟨h, _⟩
  · exact c.res id h
  · exact Classical.byContradiction fun hn => by have := c.dom id hn; omega

/-- What a step of an operation at one state says of it at every state that looks the same to it. -/
def DoesAt {P : Program} (G : Env P) (ops : Array Oper) (o : Oper) (e : DEff) (s : St) : Prop :=
  e.dst = o.dst ∧ (∀ p ∈ e.upd, p.1 ∈ e.reads) ∧
  ∀ s', Agree G ops o e.reads s s' → ∀ (ρ : Rho) (I : Imm) (w : World) (a : Act) (next : Act → World → Prop) (Q : Exit → Act → World → Prop), Conc G.g ρ I s'.H w → RelT ρ I w s'.t a →
    Leads G ρ I s'.H w (fun s2 => s2 = applyE e s') next → if Region.wanted o (yielded ops a.tmps) then o.wp P a w next Q else next (a.put o.dst undef) w

theorem dstep_sound {R : ROps G} {T : Ctr G} {ops : Array Oper} {nid : Nat} {o : Oper} {s : St} {K : DEff → Prop} (h : dstep G R T.C nid o s K) :
    ∃ e, K e ∧ e.dst = o.dst ∧ (∀ p ∈ e.upd, p.1 ∈ e.reads) ∧
      ∀ s', Agree G ops o e.reads s s' → ∀ (ρ : Rho) (I : Imm) (w : World) (a : Act) (next : Act → World → Prop) (Q : Exit → Act → World → Prop), Conc G.g ρ I s'.H w → RelT ρ I w s'.t a →
        Leads G ρ I s'.H w (fun s2 => s2 = applyE e s') next → o.wp P a w next Q := by
  unfold dstep at h
  split at h
  · rename_i E hE
    obtain ⟨v, u, hh, hk⟩ := Eff.go_has h
    rw [fA_eq, fU_eq, fN_eq] at hk
    refine ⟨_, hk, rfl, fun p hp => List.mem_append_right _ (List.mem_map.2 ⟨p, hp, rfl⟩), ?_⟩
    intro s' ag ρ I w a next Q hC hR hn
    have hE' : eff G R T.C o.op (evA G s'.t) s'.H nid = some E := by
      rw [eff_congr (fun x hx => ag.ev hx) (fun id hid => ag.read id (List.mem_append_left _ hid))]
      exact hE
    refine eff_sound R T hC hR hE' hh ?_
    intro ρ' I' x w' g c m r
    exact hn ρ' I' (applyE ⟨o.dst, v, u, readsE (evA G s.t) o.op nid (slots G o.op) ++ u.map (·.1)⟩ s') _ w' g c ((hR.mono m).put o.dst r) rfl
  · exact (stuckAt_no h).elim

theorem dgstep_sound {ops : Array Oper} {R : ROps G} {T : Ctr G} {nid : Nat} {o : Oper} {s : St} {K : List AV → DEff → Prop} (h : dgstep G R T.C ops nid o s K) : ∃ e, K s.t e ∧ DoesAt G ops o e s := by
  have skip : ∀ (hy : ∀ s' rs, Agree G ops o rs s s' → ∀ ρ I w a, RelT ρ I w s'.t a → Region.wanted o (yielded ops a.tmps) = false), K s.t ⟨o.dst, .tup [], [], []⟩ → ∃ e, K s.t e ∧ DoesAt G ops o e s := by
    intro hy hk
    refine ⟨_, hk, rfl, fun _ h => by simp at h, ?_⟩
    intro s' ag ρ I w a next Q hC hR hn
    rw [hy s' _ ag ρ I w a hR]
    simp only [Bool.false_eq_true, if_false]
    exact hn ρ I (applyE ⟨o.dst, .tup [], [], []⟩ s') _ w (Good.refl _ _ _ _) hC (hR.put _ rel_undef) rfl
  have take : dstep G R T.C nid o s (K s.t) → (∀ s' rs, Agree G ops o rs s s' → ∀ ρ I w a, RelT ρ I w s'.t a → Region.wanted o (yielded ops a.tmps) = true) → ∃ e, K s.t e ∧ DoesAt G ops o e s := by
    intro hd hy
    obtain ⟨e, h1, h2, h3, h4⟩ := dstep_sound (ops := ops) hd
    refine ⟨e, h1, h2, h3, ?_⟩
    intro s' ag ρ I w a next Q hC hR hn
    rw [hy s' _ ag ρ I w a hR]
    simp only [if_true]
    exact h4 s' ag ρ I w a next Q hC hR hn
  unfold dgstep at h
  split at h
  · rename_i hg
    exact take h fun s' rs ag ρ I w a hR => by unfold Region.wanted; rw [hg]
  · rename_i j want hg
    split at h
    · rename_i hd
      refine skip (fun s' rs ag ρ I w a hR => ?_) h
      unfold Region.wanted
      rw [hg]
      have : yielded ops a.tmps j = none := by unfold yielded; rw [hd]; rfl
      simp [this]
    · rename_i d hd
      have hlook : d ∈ o.looksAt ops := by
        unfold Oper.looksAt
        rw [List.mem_append]
        right
        rw [hg]
        simp [hd]
      split at h
      · rename_i b hb
        have h := ifW_iff.1 h
        by_cases e : b = want
        · have h1 := h.1 e
          rw [setB_eq (by rw [hb, e])] at h1
          refine take h1 fun s' rs ag ρ I w a hR => ?_
          unfold Region.wanted
          rw [hg]
          simp only
          rw [yielded_of hR hd ((ag.look d hlook).trans hb), e]
          simp
        · have e' : b = !want := by cases b <;> cases want <;> simp_all
          have h1 := h.2 e'
          rw [setB_eq (by rw [hb, e'])] at h1
          refine skip (fun s' rs ag ρ I w a hR => ?_) h1
          unfold Region.wanted
          rw [hg]
          simp only
          rw [yielded_of hR hd ((ag.look d hlook).trans hb)]
          simp [e]
      · rename_i l hl
        refine skip (fun s' rs ag ρ I w a hR => ?_) h
        unfold Region.wanted
        rw [hg]
        simp only
        rw [yielded_tup hR hd ((ag.look d hlook).trans hl)]
        simp
      · exact (stuckAt_no h).elim

end
def noEff : DEff := ⟨none, .any, [], []⟩

def runI (es : List DEff) (l : List Nat) (s : St) : St := l.foldl (fun s i => applyE (es.getD i noEff) s) s

theorem runI_cons (es : List DEff) (i : Nat) (l : List Nat) (s : St) : runI es (i :: l) s = runI es l (applyE (es.getD i noEff) s) := rfl
theorem runI_append (es : List DEff) (l l' : List Nat) (s : St) : runI es (l ++ l') s = runI es l' (runI es l s) := by simp [runI]

theorem applyE_len (e : DEff) (s : St) : (applyE e s).t.length = s.t.length ∧ (applyE e s).H.length = s.H.length := by
  simp only [applyE, updH_len, and_true]
  cases e.dst <;> simp [putA]

theorem putA_getD (t : List AV) (d : Option Tmp) (v : AV) (x : Nat) : (putA t d v).getD x .any = if d = some x ∧ x < t.length then v else t.getD x .any := by
  cases d with
  | none => simp [putA]
  | some d =>
    simp only [putA, List.getD_eq_getElem?_getD, List.getElem?_set, Option.some.injEq]
    by_cases h : d = x
    · subst h
      by_cases h2 : d < t.length
      · simp [h2]
      · simp [h2]
    · simp [h]

/-- What stands in a temporary behind a run hangs on those alone that write it. -/
theorem runI_tmp (es : List DEff) (x : Nat) : ∀ (l : List Nat) (s s' : St), s.t.getD x .any = s'.t.getD x .any → s.t.length = s'.t.length →
    (runI es l s).t.getD x .any = (runI es (l.filter fun i => (es.getD i noEff).dst = some x) s').t.getD x .any
  | [], s, s', h, _ => h
  | i :: l, s, s', h, hl => by
    rw [runI_cons]
    by_cases hd : (es.getD i noEff).dst = some x
    · rw [List.filter_cons_of_pos (by simpa using hd), runI_cons]
      refine runI_tmp es x l _ _ ?_ (by rw [(applyE_len _ _).1, (applyE_len _ _).1, hl])
      simp only [applyE, putA_getD, hd, hl, h]
    · rw [List.filter_cons_of_neg (by simpa using hd)]
      refine runI_tmp es x l _ _ ?_ (by rw [(applyE_len _ _).1, hl])
      rw [← h]
      simp only [applyE, putA_getD, hd, false_and, if_false]

def wrH (e : DEff) (id : Nat) : Bool := e.upd.any fun p => p.1 == id

theorem updH_get : ∀ (u : List (Nat × Ent)) (H : Heap) (id : Nat), (u.any fun p => p.1 == id) = false → (updH H u)[id]? = H[id]?
  | [], H, id, _ => rfl
  | (i, x) :: r, H, id, h => by
    simp only [List.any_cons, Bool.or_eq_false_iff, beq_eq_false_iff_ne, ne_eq] at h
    rw [updH, updH_get r _ id h.2, List.getElem?_set_ne h.1]
theorem updH_same : ∀ (u : List (Nat × Ent)) (H H' : Heap) (id : Nat), (u.any fun p => p.1 == id) = true → H.length = H'.length → (updH H u)[id]? = (updH H' u)[id]?
  | [], H, H', id, h, _ => by simp at h
  | (i, x) :: r, H, H', id, h, hl => by
    rw [updH, updH]
    cases hr : r.any fun p => p.1 == id
    · have hi : i = id := by
        have : (i == id) = true := by simpa [hr] using h
        simpa using this
      subst hi
      rw [updH_get r _ i hr, updH_get r _ i hr]
      simp only [List.getElem?_set, if_true, hl]
    · exact updH_same r _ _ id hr (by simp [hl])
theorem updH_set : ∀ (u : List (Nat × Ent)) (H : Heap) (i : Nat) (x : Ent), (u.any fun p => p.1 == i) = false → updH (H.set i x) u = (updH H u).set i x
  | [], _, _, _, _ => rfl
  | (j, y) :: r, H, i, x, h => by
    simp only [List.any_cons, Bool.or_eq_false_iff, beq_eq_false_iff_ne, ne_eq] at h
    rw [updH, updH, List.set_comm _ _ (fun e => h.1 e.symm), updH_set r _ i x h.2]
theorem updH_comm : ∀ (u v : List (Nat × Ent)) (H : Heap), (∀ p ∈ u, (v.any fun q => q.1 == p.1) = false) → updH (updH H v) u = updH (updH H u) v
  | [], _, _, _ => rfl
  | (i, x) :: r, v, H, h => by
    rw [updH, updH, ← updH_set v H i x (h (i, x) (by simp)), updH_comm r v _ fun p hp => h p (by simp [hp])]

theorem applyE_H (e : DEff) (s : St) (id : Nat) (h : wrH e id = false) : (applyE e s).H[id]? = s.H[id]? := updH_get _ _ _ h

theorem applyE_H_same (e : DEff) (s s' : St) (id : Nat) (h : wrH e id = true) (hl : s.H.length = s'.H.length) : (applyE e s).H[id]? = (applyE e s').H[id]? := updH_same _ _ _ _ h hl

theorem runI_H (es : List DEff) (id : Nat) : ∀ (l : List Nat) (s s' : St), s.H[id]? = s'.H[id]? → s.H.length = s'.H.length →
    (runI es l s).H[id]? = (runI es (l.filter fun i => wrH (es.getD i noEff) id) s').H[id]?
  | [], s, s', h, _ => h
  | i :: l, s, s', h, hl => by
    rw [runI_cons]
    cases hd : wrH (es.getD i noEff) id
    · rw [List.filter_cons_of_neg (by rw [hd]; simp)]
      exact runI_H es id l _ _ (by rw [← h]; exact applyE_H _ _ _ hd) (by rw [(applyE_len _ _).2, hl])
    · rw [List.filter_cons_of_pos (p := fun i => wrH (es.getD i noEff) id) hd, runI_cons]
      exact runI_H es id l _ _ (applyE_H_same _ _ _ _ hd hl) (by rw [(applyE_len _ _).2, (applyE_len _ _).2, hl])

/-- Two that touch nothing in common. -/
theorem applyE_comm (e f : DEff) (s : St) (h1 : ∀ d, e.dst = some d → f.dst ≠ some d) (h2 : ∀ p ∈ e.upd, wrH f p.1 = false) : applyE e (applyE f s) = applyE f (applyE e s) := by
  have ht : putA (putA s.t f.dst f.val) e.dst e.val = putA (putA s.t e.dst e.val) f.dst f.val := by
    cases he : e.dst with
    | none => rfl
    | some d =>
      cases hf : f.dst with
      | none => rfl
      | some d' =>
        have : d ≠ d' := fun h => h1 d he (by rw [hf, h])
        simp only [putA]
        rw [List.set_comm _ _ this.symm]
  simp only [applyE, ht, St.mk.injEq, true_and]
  exact updH_comm _ _ _ h2

theorem runI_comm (es : List DEff) (e : DEff) : ∀ (l : List Nat) (s : St), (∀ j ∈ l, (∀ d, e.dst = some d → (es.getD j noEff).dst ≠ some d) ∧ ∀ p ∈ e.upd, wrH (es.getD j noEff) p.1 = false) →
    runI es l (applyE e s) = applyE e (runI es l s)
  | [], _, _ => rfl
  | j :: l, s, h => by
    obtain ⟨h1, h2⟩ := h j (by simp)
    rw [runI_cons, runI_cons, ← applyE_comm e _ s h1 h2]
    exact runI_comm es e l _ fun k hk => h k (by simp [hk])

theorem filter_more (p p' : Nat → Bool) (i : Nat) (hp : p i = false) (hp' : ∀ j, p' j = (p j || j == i)) : ∀ (n : Nat), i < n →
    ∃ l1 l2, (List.range n).filter p = l1 ++ l2 ∧ (List.range n).filter p' = l1 ++ i :: l2 ∧ ∀ j ∈ l2, i < j ∧ p j = true ∧ j < n
  | 0, h => by omega
  | n + 1, h => by
    have hsame : ∀ m, m ≤ i → (List.range m).filter p' = (List.range m).filter p := by
      intro m hm
      refine List.filter_congr fun j hj => ?_
      have : j < m := by simpa using hj
      rw [hp' j]
      have : (j == i) = false := by simp; omega
      simp [this]
    rw [List.range_succ, List.filter_append, List.filter_append]
    by_cases e : i = n
    · subst e
      refine ⟨(List.range i).filter p, [], by simp [hp], by simp [hsame i (Nat.le_refl _), hp'], by simp⟩
    · obtain ⟨l1, l2, h1, h2, h3⟩ := filter_more p p' i hp hp' n (by omega)
      have hn : p' n = p n := by rw [hp' n]; have : (n == i) = false := by simp; omega
                                 simp [this]
      cases hpn : p n
      · refine ⟨l1, l2, by simp [h1, hpn], by simp [h2, hn, hpn], fun j hj => ⟨(h3 j hj).1, (h3 j hj).2.1, by have := (h3 j hj).2.2; omega⟩⟩
      · refine ⟨l1, l2 ++ [n], by simp [h1, hpn], by simp [h2, hn, hpn], fun j hj => ?_⟩
        rcases List.mem_append.1 hj with hj | hj
        · exact ⟨(h3 j hj).1, (h3 j hj).2.1, by have := (h3 j hj).2.2; omega⟩
        · have : j = n := by simpa using hj
          subst this
          exact ⟨by omega, hpn, by omega⟩

/-- Which operations must have been before one: a number's bits. -/
def msk (acc : List Nat) (o : Oper) : Nat := o.after.toList.foldl (fun m e => if Region.binds .any e then (m ||| 2 ^ e.on) ||| acc.getD e.on 0 else m) 0
def masks : List Oper → List Nat → List Nat
  | [], acc => acc
  | o :: r, acc => masks r (acc ++ [msk acc o])

theorem msk_rel (R : Nat → Nat → Prop) (trans : ∀ j m i, R j m → R m i → R j i) {acc : List Nat} {o : Oper} {k : Nat} (hacc : ∀ j i, (acc.getD j 0).testBit i = true → R j i)
    (ho : ∀ e ∈ o.after, Region.binds .any e = true → R k e.on) {i : Nat} (h : (msk acc o).testBit i = true) : R k i := by
  unfold msk at h
  have key : ∀ (l : List Edge) (m : Nat), (∀ e ∈ l, e ∈ o.after) → (m.testBit i = true → R k i) →
      (l.foldl (fun m e => if Region.binds .any e then (m ||| 2 ^ e.on) ||| acc.getD e.on 0 else m) m).testBit i = true → R k i := by
    intro l
    induction l with
    | nil => intro m _ hm h; exact hm h
    | cons e l ih =>
      intro m hl hm h
      rw [List.foldl_cons] at h
      refine ih _ (fun x hx => hl x (by simp [hx])) ?_ h
      intro hb
      by_cases hbd : Region.binds .any e = true
      · rw [if_pos hbd, Nat.testBit_or, Nat.testBit_or, Bool.or_eq_true, Bool.or_eq_true] at hb
        rcases hb with (hb | hb) | hb
        · exact hm hb
        · rw [Nat.testBit_two_pow] at hb
          have : e.on = i := by simpa using hb
          rw [← this]
          exact ho e (hl e (by simp)) hbd
        · exact trans _ _ _ (ho e (hl e (by simp)) hbd) (hacc e.on i hb)
      · rw [if_neg hbd] at hb
        exact hm hb
  exact key _ 0 (fun e he => by simpa using he) (by simp) h

theorem masks_rel (R : Nat → Nat → Prop) (trans : ∀ j m i, R j m → R m i → R j i) : ∀ (l : List Oper) (acc : List Nat), (∀ j i, (acc.getD j 0).testBit i = true → R j i) →
    (∀ k o, l[k]? = some o → ∀ e ∈ o.after, Region.binds .any e = true → R (acc.length + k) e.on) → ∀ j i, ((masks l acc).getD j 0).testBit i = true → R j i
  | [], acc, h, _ => h
  | o :: r, acc, h, hd => by
    refine masks_rel R trans r (acc ++ [msk acc o]) ?_ ?_
    · intro j i hb
      rw [List.getD_eq_getElem?_getD] at hb
      rcases Nat.lt_or_ge j acc.length with hlt | hge
      · rw [List.getElem?_append_left hlt, ← List.getD_eq_getElem?_getD] at hb
        exact h j i hb
      · rw [List.getElem?_append_right hge] at hb
        by_cases e : j = acc.length
        · subst e
          simp at hb
          exact msk_rel R trans h (hd 0 o rfl) hb
        · have : 1 ≤ j - acc.length := by omega
          rw [List.getElem?_eq_none (by simpa using this)] at hb
          simp at hb
    · intro k o' hk
      rw [List.length_append, List.length_singleton, show acc.length + 1 + k = acc.length + (k + 1) by omega]
      exact hd (k + 1) o' (by simpa using hk)

/-- May two effects be taken in either order, as far as entries go? -/
def freeH (e f : DEff) : Bool := (e.upd.all fun p => !f.reads.contains p.1) && (f.upd.all fun p => !e.reads.contains p.1)

/-- Each two operations are in an order, or touch nothing in common; and orders go by the text. -/
def indepB (ops : Array Oper) (tr : List DEff) : Bool :=
  let ms := masks ops.toList []
  (List.range ops.size).all fun j =>
    ((ops.getD j default).after.all fun e => !Region.binds .any e || decide (e.on < j)) &&
    (List.range j).all fun i => (ms.getD j 0).testBit i || ((ops.getD i default).apart ops (ops.getD j default) && freeH (tr.getD i noEff) (tr.getD j noEff))

section
variable {P : Program} {G : Env P}

theorem dops_extract {R : ROps G} {T : Ctr G} {ops : Array Oper} : ∀ (l : List Oper) {nid : Nat} {s : St} {tr : List DEff} {K : St → List DEff → Prop}, dops G R T.C ops l nid s tr K →
    ∃ es : List DEff, es.length = l.length ∧ K (runI es (List.range es.length) s) (tr ++ es) ∧
      ∀ (k : Nat) (o : Oper), l[k]? = some o → DoesAt G ops o (es.getD k noEff) (runI es (List.range k) s)
  | [], nid, s, tr, K, h => ⟨[], rfl, by simpa [runI, dops] using h, fun k o h => by simp at h⟩
  | o :: rest, nid, s, tr, K, h => by
    obtain ⟨e, h1, h2⟩ := dgstep_sound h
    rw [fPut_eq, fH_eq] at h1
    obtain ⟨es, g1, g2, g3⟩ := dops_extract rest (s := applyE e s) h1
    have shift : ∀ k, runI (e :: es) (List.range (k + 1)) s = runI es (List.range k) (applyE e s) := by
      intro k
      rw [List.range_succ_eq_map, runI_cons]
      simp only [runI, List.foldl_map, List.getD_cons_zero, List.getD_cons_succ]
    refine ⟨e :: es, by simp [g1], ?_, ?_⟩
    · rw [List.length_cons, shift]
      simpa using g2
    · intro k o' hk
      cases k with
      | zero =>
        simp at hk
        subst hk
        simpa [runI] using h2
      | succ k =>
        rw [shift]
        simpa using g3 k o' (by simpa using hk)

structure Indep (ops : Array Oper) (es : List DEff) : Prop where
  fwd : ∀ j o, ops[j]? = some o → ∀ e ∈ o.after, Region.binds .any e = true → e.on < j
  pair : ∀ i j oi oj, i < j → ops[i]? = some oi → ops[j]? = some oj → ((masks ops.toList []).getD j 0).testBit i = true ∨ (oi.apart ops oj = true ∧ freeH (es.getD i noEff) (es.getD j noEff) = true)

theorem indep_of {ops : Array Oper} {es : List DEff} (h : indepB ops es = true) : Indep ops es := by
  unfold indepB at h
  simp only [List.all_eq_true, List.mem_range, Bool.and_eq_true, Bool.or_eq_true] at h
  refine ⟨?_, ?_⟩
  · intro j o ho e he hb
    have hlt : j < ops.size := (Array.getElem?_eq_some_iff.1 ho).1
    have h1 := (h j hlt).1
    have hg : ops.getD j default = o := by simp [ho]
    rw [hg, Array.all_eq_true_iff_forall_mem] at h1
    have := h1 e he
    simpa [hb] using this
  · intro i j oi oj hij hi hj
    have hlt : j < ops.size := (Array.getElem?_eq_some_iff.1 hj).1
    have h1 := (h j hlt).2 i hij
    have hgi : ops.getD i default = oi := by simp [hi]
    have hgj : ops.getD j default = oj := by simp [hj]
    rw [hgi, hgj] at h1
    exact h1

theorem wpAny_perm {ops : Array Oper} {es : List DEff} {s0 : St} {Q : Exit → Act → World → Prop} (hlen : es.length = ops.size) (hI : Indep ops es)
    (hd : ∀ (k : Nat) (o : Oper), ops[k]? = some o → DoesAt G ops o (es.getD k noEff) (runI es (List.range k) s0)) :
    ∀ (fuel : Nat) (listed : Array Bool), listed.size = ops.size → (∀ j o, ops[j]? = some o → listed.getD j false = true → ∀ e ∈ o.after, Region.binds .any e = true → listed.getD e.on false = true) →
      ((List.range ops.size).filter fun i => !listed.getD i false).length ≤ fuel → ∀ (ρ : Rho) (I : Imm) (w : World) (a : Act),
      Conc G.g ρ I (runI es ((List.range ops.size).filter fun i => listed.getD i false) s0).H w → RelT ρ I w (runI es ((List.range ops.size).filter fun i => listed.getD i false) s0).t a →
      Leads G ρ I (runI es ((List.range ops.size).filter fun i => listed.getD i false) s0).H w (fun s2 => s2 = runI es (List.range ops.size) s0) (Q .normal) →
      wpAny P .any ops Q fuel listed a w := by
  have alldone : ∀ (listed : Array Bool), listed.size = ops.size → (∀ i, i < ops.size → listed.getD i false = true) → (List.range ops.size).filter (fun i => listed.getD i false) = List.range ops.size := by
    intro listed _ h
    rw [List.filter_eq_self]
    intro i hi
    exact h i (by simpa using hi)
  have stuck : ∀ (listed : Array Bool), listed.size = ops.size → Region.ready .any ops listed = [] → ∀ n i, i < n → i < ops.size → listed.getD i false = true := by
    intro listed hsz hr n
    induction n with
    | zero => intro i hi; omega
    | succ n ih =>
      intro i hi hlt
      refine Classical.byContradiction fun hn => ?_
      have hn' : listed.getD i false = false := by simpa using hn
      have hmem : i ∈ Region.ready .any ops listed := by
        rw [mem_ready]
        have hlt' : i < listed.size := by omega
        refine ⟨by simpa [hlt'] using hn', ops[i], by simp [hlt], fun e he hb => ?_⟩
        have := hI.fwd i ops[i] (by simp [hlt]) e he hb
        exact ih e.on (by omega) (by omega)
      rw [hr] at hmem
      simp at hmem
  have fin : ∀ (listed : Array Bool), listed.size = ops.size → Region.ready .any ops listed = [] → ∀ (ρ : Rho) (I : Imm) (w : World) (a : Act),
      Conc G.g ρ I (runI es ((List.range ops.size).filter fun i => listed.getD i false) s0).H w → RelT ρ I w (runI es ((List.range ops.size).filter fun i => listed.getD i false) s0).t a →
      Leads G ρ I (runI es ((List.range ops.size).filter fun i => listed.getD i false) s0).H w (fun s2 => s2 = runI es (List.range ops.size) s0) (Q .normal) → Q .normal a w := by
    intro listed hsz hr ρ I w a hC hR hn
    have := alldone listed hsz (fun i hi => stuck listed hsz hr (i + 1) i (by omega) hi)
    rw [this] at hC hR hn
    exact hn ρ I (runI es (List.range ops.size) s0) a w (Good.refl _ _ _ _) hC hR rfl
  intro fuel
  induction fuel with
  | zero =>
    intro listed hsz _ hcount ρ I w a hC hR hn
    have hall : ∀ i, i < ops.size → listed.getD i false = true := by
      intro i hi
      refine Classical.byContradiction fun hf => ?_
      have hm : i ∈ (List.range ops.size).filter fun i => !listed.getD i false := by
        rw [List.mem_filter]
        exact ⟨by simpa using hi, by simpa using hf⟩
      have := List.length_pos_of_mem hm
      omega
    have hr : Region.ready .any ops listed = [] := by
      refine List.eq_nil_iff_forall_not_mem.2 fun j hj => ?_
      rw [mem_ready] at hj
      obtain ⟨h1, o, ho, _⟩ := hj
      have hlt : j < ops.size := (Array.getElem?_eq_some_iff.1 ho).1
      have hlt' : j < listed.size := by omega
      have := hall j hlt
      simp [hlt'] at h1 this
      rw [h1] at this
      simp at this
    exact ⟨hr, fin listed hsz hr ρ I w a hC hR hn⟩
  | succ fuel ih =>
    intro listed hsz hdc hcount ρ I w a hC hR hn
    refine ⟨fun hr => fin listed hsz hr ρ I w a hC hR hn, ?_⟩
    intro i hi
    rw [mem_ready] at hi
    obtain ⟨h1, oi, hoi, hrd⟩ := hi
    have hlt : i < ops.size := (Array.getElem?_eq_some_iff.1 hoi).1
    have hlt' : i < listed.size := by omega
    have hni : listed.getD i false = false := by simpa [hlt'] using h1
    -- what was before i is listed
    have hmlt : ∀ j k, ((masks ops.toList []).getD j 0).testBit k = true → k < j :=
      masks_rel (fun j i => i < j) (fun _ _ _ h1 h2 => Nat.lt_trans h2 h1) ops.toList [] (by simp) (fun k o hk e he hb => by
        simp only [List.length_nil, Nat.zero_add]
        exact hI.fwd k o (by simpa using hk) e he hb)
    have hdown : ∀ j k, ((masks ops.toList []).getD j 0).testBit k = true → (listed.getD j false = true ∨ j = i) → (listed.getD k false = true ∨ k = i) :=
      masks_rel (fun j k => (listed.getD j false = true ∨ j = i) → (listed.getD k false = true ∨ k = i)) (fun _ _ _ h1 h2 h => h2 (h1 h)) ops.toList [] (by simp) (fun k o hk e he hb hD => by
        simp only [List.length_nil, Nat.zero_add] at hD
        have hk' : ops[k]? = some o := by simpa using hk
        rcases hD with hD | hD
        · exact .inl (hdc k o hk' hD e he hb)
        · subst hD
          rw [hoi] at hk'
          simp at hk'
          subst hk'
          exact .inl (hrd e he hb))
    have hbef : ∀ k, ((masks ops.toList []).getD i 0).testBit k = true → listed.getD k false = true := fun k hk => by
      rcases hdown i k hk (.inr rfl) with h | h
      · exact h
      · have := hmlt i k hk; omega
    have hdc' : ∀ j k, ((masks ops.toList []).getD j 0).testBit k = true → listed.getD j false = true → listed.getD k false = true := 
      masks_rel (fun j k => listed.getD j false = true → listed.getD k false = true) (fun _ _ _ h1 h2 h => h2 (h1 h)) ops.toList [] (by simp) (fun k o hk e he hb hD => by
        simp only [List.length_nil, Nat.zero_add] at hD
        exact hdc k o (by simpa using hk) hD e he hb)
    obtain ⟨hdst, hupd, hdo⟩ := hd i oi hoi
    -- an operation that is listed and behind i in the text touches nothing of i's, and so does one that is ahead of it and not listed
    have hfree : ∀ j oj, ops[j]? = some oj → j ≠ i → (listed.getD j false = true ↔ j < i) ∨
        ((∀ d, oj.dst = some d → d ∉ oi.looksAt ops) ∧ (∀ d, oi.dst = some d → oj.dst ≠ some d) ∧ (∀ p ∈ (es.getD i noEff).upd, wrH (es.getD j noEff) p.1 = false) ∧
          ∀ q ∈ (es.getD i noEff).reads, wrH (es.getD j noEff) q = false) := by
      intro j oj hoj hji
      have wr : ∀ (e f : DEff), (∀ p ∈ e.upd, p.1 ∈ e.reads) → (f.upd.all fun p => !e.reads.contains p.1) = true → (∀ p ∈ e.upd, wrH f p.1 = false) ∧ ∀ q ∈ e.reads, wrH f q = false := by
        intro e f he hf
        have h2 : ∀ q ∈ e.reads, wrH f q = false := by
          intro q hq
          unfold wrH
          rw [List.any_eq_false]
          intro p hp
          rw [List.all_eq_true] at hf
          have := hf p hp
          simp only [Bool.not_eq_true', List.contains_eq_mem, decide_eq_false_iff_not] at this
          simp only [beq_iff_eq]
          rintro rfl
          exact this hq
        exact ⟨fun p hp => h2 p.1 (he p hp), h2⟩
      rcases Nat.lt_or_ge j i with hlt2 | hge2
      · rcases hI.pair j i oj oi hlt2 hoj hoi with hb | ⟨hap, hfr⟩
        · exact .inl ⟨fun _ => hlt2, fun _ => hbef j hb⟩
        · obtain ⟨a1, a2, a3⟩ := Oper.apart_spec hap
          simp only [freeH, Bool.and_eq_true] at hfr
          obtain ⟨w1, w2⟩ := wr (es.getD i noEff) (es.getD j noEff) hupd hfr.1
          exact .inr ⟨a1, fun d hd h => a2 d h hd, w1, w2⟩
      · have hgt : i < j := by omega
        rcases hI.pair i j oi oj hgt hoi hoj with hb | ⟨hap, hfr⟩
        · refine .inl ⟨fun hl => ?_, fun h => by omega⟩
          have := hdc' j i hb hl
          rw [hni] at this
          simp at this
        · obtain ⟨a1, a2, a3⟩ := Oper.apart_spec hap
          simp only [freeH, Bool.and_eq_true] at hfr
          obtain ⟨w1, w2⟩ := wr (es.getD i noEff) (es.getD j noEff) hupd hfr.2
          exact .inr ⟨a3, fun d hd => a2 d hd, w1, w2⟩
    have hdstj : ∀ j oj, ops[j]? = some oj → (es.getD j noEff).dst = oj.dst := fun j oj hj => (hd j oj hj).1
    have hrange : List.range i = (List.range ops.size).filter fun j => decide (j < i) := by
      have : ∀ n, i ≤ n → List.range i = (List.range n).filter fun j => decide (j < i) := by
        intro n
        induction n with
        | zero => intro h; have : i = 0 := by omega
                  subst this; rfl
        | succ n ihn =>
          intro h
          rw [List.range_succ, List.filter_append]
          by_cases e : i = n + 1
          · subst e
            rw [List.filter_eq_self.2 (fun j hj => by simp at hj; simp; omega)]
            simp [List.range_succ]
          · rw [← ihn (by omega)]
            have : ¬ n < i := by omega
            simp [this]
      exact this _ (by omega)
    -- the state as it stands looks to i as the text's own
    have agree : Agree G ops oi (es.getD i noEff).reads (runI es (List.range i) s0) (runI es ((List.range ops.size).filter fun i => listed.getD i false) s0) := by
      refine ⟨fun t ht => ?_, fun q hq => ?_⟩
      · rw [runI_tmp es t _ s0 s0 rfl rfl, runI_tmp es t (List.range i) s0 s0 rfl rfl]
        rw [hrange, List.filter_filter, List.filter_filter]
        congr 3
        refine List.filter_congr fun j hj => ?_
        have hj' : j < ops.size := by simpa using hj
        obtain ⟨oj, hoj⟩ : ∃ oj, ops[j]? = some oj := ⟨ops[j], by simp [hj']⟩
        by_cases hjd : (es.getD j noEff).dst = some t
        · simp only [hjd, decide_true, Bool.true_and]
          by_cases hji : j = i
          · subst hji; simp [hni]
          · rcases hfree j oj hoj hji with h | ⟨h, _⟩
            · rw [Bool.eq_iff_iff]; simpa using h
            · exact absurd ht (h t (by rw [← hdstj j oj hoj]; exact hjd))
        · simp only [hjd, decide_false, Bool.false_and]
      · rw [runI_H es q _ s0 s0 rfl rfl, runI_H es q (List.range i) s0 s0 rfl rfl]
        rw [hrange, List.filter_filter, List.filter_filter]
        congr 3
        refine List.filter_congr fun j hj => ?_
        have hj' : j < ops.size := by simpa using hj
        obtain ⟨oj, hoj⟩ : ∃ oj, ops[j]? = some oj := ⟨ops[j], by simp [hj']⟩
        cases hjw : wrH (es.getD j noEff) q
        · simp
        · simp only [Bool.true_and]
          by_cases hji : j = i
          · subst hji; simp [hni]
          · rcases hfree j oj hoj hji with h | ⟨_, _, _, h⟩
            · rw [Bool.eq_iff_iff]; simpa using h
            · rw [h q hq] at hjw; simp at hjw
    have hset : ∀ j, (listed.setIfInBounds i true).getD j false = (listed.getD j false || j == i) := by
      intro j
      by_cases e : i = j
      · subst e; simp [hlt']
      · rw [getD_set_ne false e]
        have : (j == i) = false := by simp; omega
        simp [this]
    obtain ⟨l1, l2, k1, k2, k3⟩ := filter_more (fun j => listed.getD j false) (fun j => (listed.setIfInBounds i true).getD j false) i hni hset ops.size hlt
    have hnew : runI es ((List.range ops.size).filter fun j => (listed.setIfInBounds i true).getD j false) s0 =
        applyE (es.getD i noEff) (runI es ((List.range ops.size).filter fun i => listed.getD i false) s0) := by
      rw [k2, k1, runI_append, runI_append, runI_cons]
      refine runI_comm es _ l2 _ fun j hj => ?_
      obtain ⟨q1, q2, q3⟩ := k3 j hj
      obtain ⟨oj, hoj⟩ : ∃ oj, ops[j]? = some oj := ⟨ops[j], by simp [q3]⟩
      rcases hfree j oj hoj (by omega) with h | ⟨_, h2, h3, _⟩
      · have := h.1 q2; omega
      · exact ⟨fun d hd' => by rw [hdstj j oj hoj]; exact h2 d (by rw [← hdst]; exact hd'), h3⟩
    have := hdo _ agree ρ I w a (wpAny P .any ops Q fuel (listed.setIfInBounds i true)) Q hC hR (by
      intro ρ' I' s' a' w' hg hC' hR' hs'
      subst hs'
      rw [← hnew] at hC' hR' hg
      refine ih (listed.setIfInBounds i true) (by simpa using hsz) ?_ ?_ ρ' I' w' a' hC' hR' (hn.on hg)
      · intro j o ho hl e he hb
        rw [hset] at hl ⊢
        rw [Bool.or_eq_true] at hl ⊢
        left
        rcases hl with hl | hl
        · exact hdc j o ho hl e he hb
        · have : j = i := by simpa using hl
          subst this
          rw [hoi] at ho
          simp at ho
          subst ho
          exact hrd e he hb
      · have hcl : ((List.range ops.size).filter fun j => !(listed.setIfInBounds i true).getD j false).length + 1 ≤ ((List.range ops.size).filter fun j => !listed.getD j false).length := by
          obtain ⟨m1, m2, n1, n2, _⟩ := filter_more (fun j => !(listed.setIfInBounds i true).getD j false) (fun j => !listed.getD j false) i (by show (!(listed.setIfInBounds i true).getD i false) = false; rw [hset i, beq_self_eq_true, Bool.or_true]; rfl) (fun j => by
            show (!listed.getD j false) = (!(listed.setIfInBounds i true).getD j false || j == i)
            rw [hset j]
            by_cases e : j = i
            · subst e; rw [hni]; simp
            · have : (j == i) = false := by simp [e]
              rw [this, Bool.or_false, Bool.or_false]) ops.size hlt
          rw [n1, n2]
          simp
          omega
        omega)
    unfold wpOp
    rw [hoi]
    simp only
    split
    · rename_i hw; rw [if_pos hw] at this; exact .inl this
    · rename_i hw; rw [if_neg hw] at this; exact this

theorem getD_rep (m j : Nat) : (Array.replicate m false).getD j false = false := by
  simp only [Array.getD_eq_getD_getElem?, Array.getElem?_replicate]
  split <;> rfl

def countS {P : Program} (G : Env P) : List Oper → Nat
  | [] => 0
  | o :: r => slots G o.op + countS G r
/-- What is left behind a statement whose order is open. -/
def drawn (ops : Array Oper) (Q : Exit → St → Prop) (s : St) (tr : List DEff) : Prop := cnd (indepB ops tr) (Q .normal s)

/-- A statement whose order is open. -/
theorem Tri.draw {R : ROps G} {T : Ctr G} {id : Nat} {ops : Array Oper} {Q : Exit → St → Prop} {s : St}
    (h : dops G R T.C ops ops.toList s.H.length ⟨s.t, s.H ++ List.replicate (countS G ops.toList) .res⟩ [] (drawn ops Q)) : Tri G (.region id ops true) Q s := by
  intro ρ I a w hc hr
  obtain ⟨es, h1, h23, h4⟩ := dops_extract ops.toList h
  obtain ⟨h2, h3⟩ := cnd_iff.1 h23
  have hlen : es.length = ops.size := by simpa using h1
  rw [List.nil_append] at h2
  obtain ⟨g, cc⟩ := reserve_conc hc (countS G ops.toList)
  have gd : Good ρ I s.H w ρ I (s.H ++ List.replicate (countS G ops.toList) .res) { w with drawn := w.drawn + 1 } :=
    ⟨g.ext, g.kp, g.len, g.imm, g.imm', rfl, rfl, rfl, Nat.le_refl _, fun _ _ _ _ => rfl, fun _ _ _ => rfl, fun _ _ => rfl, g.wrt, g.own⟩
  have m : Mono ρ I w ρ I { w with drawn := w.drawn + 1 } := ⟨fun _ _ h => h, fun _ _ h => ⟨h, rfl⟩, fun _ h => ⟨h, rfl⟩⟩
  have cd : Conc G.g ρ I (s.H ++ List.replicate (countS G ops.toList) .res) { w with drawn := w.drawn + 1 } := by
    refine ⟨cc.dom, cc.res, cc.blt, cc.inj, fun id cs f h => ?_, fun id e h he => ?_, cc.imm, fun g c h => ?_⟩
    · obtain ⟨b, el, fr, us, k1, k2, k3, k4⟩ := cc.blk id cs f h
      exact ⟨b, el, fr, us, k1, k2, RL_mono m _ _ k3, k4⟩
    · obtain ⟨q, h⟩ := cc.grow id e h he
      refine ⟨q, ?_⟩
      rcases h with h | ⟨b, el, fr, us, rest, k1, k2, k3, k4⟩
      · exact .inl h
      · exact .inr ⟨b, el, fr, us, rest, k1, k2, RL_mono m _ _ k3, k4⟩
    · obtain ⟨us, k1, k2⟩ := cc.glob g c h
      exact ⟨us, RL_mono m.none _ _ k1, k2⟩
  refine wp_region_any G.follows ?_
  have hnone : (List.range ops.size).filter (fun i => (Array.replicate ops.size false).getD i false) = [] := by
    rw [List.filter_eq_nil_iff]
    intro i _
    rw [getD_rep]
    simp
  refine wpAny_perm (s0 := ⟨s.t, s.H ++ List.replicate (countS G ops.toList) .res⟩) hlen (indep_of h2) (fun k o hk => h4 k o (by simpa using hk)) ops.size (Array.replicate ops.size false) (by simp) (fun j o _ h => by rw [getD_rep] at h; simp at h)
    (Nat.le_trans (List.length_filter_le _ _) (by simp)) ρ I _ a ?_ ?_ ?_
  · rw [hnone]; exact cd
  · rw [hnone]; exact hr.mono m
  · rw [hnone]
    intro ρ' I' s' a' w' hg hC' hR' hs'
    subst hs'
    refine ⟨ρ', I', _, gd.trans hg, hC', hR', ?_⟩
    rw [hlen] at h3
    exact h3


variable {ρ : Rho} {I : Imm} {H : Heap} {w : World}

theorem trim_sound : ∀ (k : Nat) {H0 : Heap} {ρ0 : Rho} {I0 : Imm} {w0 : World} {ρ : Rho} {I : Imm} {H : Heap} {w : World}, H0.length + k ≤ H.length → Good ρ0 I0 H0 w0 ρ I H w → Conc G.g ρ I H w →
    Good ρ0 I0 H0 w0 ρ I (trim k H) w ∧ Conc G.g ρ I (trim k H) w
  | 0, _, _, _, _, _, _, _, _, _, g, c => ⟨g, c⟩
  | k + 1, H0, ρ0, I0, w0, ρ, I, H, w, hl, g, c => by
    unfold trim
    split
    · rename_i h
      have hH : H = H.dropLast ++ [.res] := by
        rw [List.getLast?_eq_some_iff] at h
        obtain ⟨ys, rfl⟩ := h
        simp
      have hlen : H.dropLast.length = H.length - 1 := by simp
      rw [hH] at g c
      exact trim_sound k (by omega) (drop_res_good (by omega) g) (drop_res c)
    · exact ⟨g, c⟩

theorem extH_conc (c : Conc G.g ρ I H w) (n : Nat) : Good ρ I H w ρ I (extH H n) w ∧ Conc G.g ρ I (extH H n) w ∧ (extH H n).length = H.length + n := by
  cases n with
  | zero => exact ⟨Good.refl _ _ _ _, c, rfl⟩
  | succ n => exact ⟨(reserve_conc c (n + 1)).1, (reserve_conc c (n + 1)).2, by simp [extH]⟩

variable {R : ROps G} {T : Ctr G} {cl : FuncId → List AV → St → Option Tmp → (St → Prop) → Prop}

theorem sstep_sound (hcl : ∀ f args s d K, cl f args s d K → callS G f args s d K) (c : Conc G.g ρ I H w) {t : List AV} {a : Act} (r : RelT ρ I w t a) {o : Oper} {K : St → Prop} (h : sstep G R T.C cl o ⟨t, H⟩ K)
    {next : Act → World → Prop} {Q : Exit → Act → World → Prop} (hn : Leads G ρ I H w K next) : o.wp P a w next Q := by
  unfold sstep at h
  split at h
  · rename_i b v hv
    obtain ⟨hc, hk⟩ := cnd_iff.1 h
    refine step1_sound (K := K) c r ?_ hn
    unfold step1
    rw [hv]
    rw [fPut_eq] at hk
    exact cnd_iff.2 ⟨hc, hk⟩
  · rename_i hnone
    split at h
    · rename_i E hE
      obtain ⟨v, u, hh, hk⟩ := Eff.go_has h
      obtain ⟨g1, c1, hl1⟩ := extH_conc c (slots G o.op)
      refine eff_sound R T c1 r hE hh ?_
      intro ρ' I' x w' g c' m r'
      obtain ⟨g2, c2⟩ := trim_sound (slots G o.op) (H0 := H) (by rw [updH_len, hl1]; exact Nat.le_refl _) (g1.trans g) c'
      rw [fPut_eq, fH_eq] at hk
      exact hn ρ' I' _ _ w' g2 c2 ((r.mono m).put o.dst r') hk
    · rename_i hE
      split at h
      · rename_i f args hcall
        obtain ⟨hg, hcs⟩ := cnd_iff.1 h
        have re := rel_evA c r
        obtain ⟨vs, h1, h2⟩ := acall_run re hcall (G.goOk f hg)
        unfold Oper.wp
        rw [h1]
        have := hcl _ _ _ _ _ hcs ρ I w a vs.toList c r h2
        rw [Array.toArray_toList] at this
        refine Calls.mono this ?_
        rintro e w' ⟨x, rfl, ρ', I', s', g1, g2, g3, g4⟩
        exact hn ρ' I' s' _ w' g1 g2 g3 g4
      · exact (stuckAt_no h).elim

theorem sgstep_sound (hcl : ∀ f args s d K, cl f args s d K → callS G f args s d K) (c : Conc G.g ρ I H w) {t : List AV} {a : Act} (r : RelT ρ I w t a) {ops : Array Oper} {o : Oper} {K : St → Prop} (h : sgstep G R T.C cl ops o ⟨t, H⟩ K)
    {next : Act → World → Prop} {Q : Exit → Act → World → Prop} (hn : Leads G ρ I H w K next) :
    if Region.wanted o (yielded ops a.tmps) then o.wp P a w next Q else next (a.put o.dst undef) w := by
  have take : sstep G R T.C cl o ⟨t, H⟩ K → Region.wanted o (yielded ops a.tmps) = true → if Region.wanted o (yielded ops a.tmps) then o.wp P a w next Q else next (a.put o.dst undef) w := by
    intro h hy
    rw [hy]
    simp only [if_true]
    exact sstep_sound hcl c r h hn
  have skip : K ⟨putA t o.dst (.tup []), H⟩ → Region.wanted o (yielded ops a.tmps) = false → if Region.wanted o (yielded ops a.tmps) then o.wp P a w next Q else next (a.put o.dst undef) w := by
    intro h hy
    rw [hy]
    simp only [Bool.false_eq_true, if_false]
    exact hn ρ I _ _ w (Good.refl _ _ _ _) c (r.put _ rel_undef) h
  unfold sgstep at h
  split at h
  · rename_i hg
    exact take h (by unfold Region.wanted; rw [hg])
  · rename_i j want hg
    split at h
    · rename_i hd
      rw [fPut_eq] at h
      refine skip h ?_
      unfold Region.wanted
      rw [hg]
      have : yielded ops a.tmps j = none := by unfold yielded; rw [hd]; rfl
      simp [this]
    · rename_i d hd
      split at h
      · rename_i b hb
        have h := ifW_iff.1 h
        by_cases e : b = want
        · have h1 := h.1 e
          subst e
          simp only at hb
          rw [setB_eq hb] at h1
          refine take h1 ?_
          unfold Region.wanted
          rw [hg]
          simp only
          rw [yielded_of r hd hb]
          simp
        · have e' : b = !want := by cases b <;> cases want <;> simp_all
          have h1 := h.2 e'
          simp only at hb
          rw [setB_eq (by rw [hb, e']), fPut_eq] at h1
          refine skip h1 ?_
          unfold Region.wanted
          rw [hg]
          simp only
          rw [yielded_of r hd hb]
          simp [e]
      · rename_i l hl
        rw [fPut_eq] at h
        refine skip h ?_
        unfold Region.wanted
        rw [hg]
        simp only
        rw [yielded_tup r hd hl]
        simp
      · exact (stuckAt_no h).elim

theorem sops_sound (hcl : ∀ f args s d K, cl f args s d K → callS G f args s d K) {ops : Array Oper} {Q : Exit → Act → World → Prop} : ∀ (l : List Oper) {ρ : Rho} {I : Imm} {H : Heap} {w : World} {t : List AV} {a : Act} {K : St → Prop},
    Conc G.g ρ I H w → RelT ρ I w t a → sops G R T.C cl ops l ⟨t, H⟩ K → Leads G ρ I H w K (Q .normal) → wpList P ops Q l a w
  | [], ρ, I, H, w, t, a, K, c, r, h, hn => hn ρ I ⟨t, H⟩ a w (Good.refl _ _ _ _) c r h
  | o :: rest, ρ, I, H, w, t, a, K, c, r, h, hn => by
    have := sgstep_sound hcl (Q := Q) c r (K := fun s' => sops G R T.C cl ops rest s' K) h (next := wpList P ops Q rest)
      (fun ρ' I' s' a' w' g c' r' k => sops_sound hcl rest c' r' k (hn.on g))
    unfold wpList
    split
    · rename_i hw
      rw [if_pos hw] at this
      exact .inl this
    · rename_i hw
      rw [if_neg hw] at this
      exact this

/-- A region in the order of its text. -/
theorem Tri.sregion (hcl : ∀ f args s d K, cl f args s d K → callS G f args s d K) {id : Nat} {ops : Array Oper} {Q : Exit → St → Prop} {s : St} (h : sops G R T.C cl ops ops.toList s (Q .normal)) : Tri G (.region id ops false) Q s := by
  intro ρ I a w hc hr
  refine wp_region_list (sops_sound hcl ops.toList hc hr h ?_)
  intro ρ' I' s' a' w' g c r k
  exact ⟨ρ', I', s', g, c, r, k⟩
end
end
end Go.V
