/- The abstract layer, part H: statements whose order is open. -/
import Derived.Test.YtfjmpdoidkblcaaDoorAbsG
set_option linter.unusedSimpArgs false
set_option linter.unusedVariables false
namespace Go.Ab
open Go

/-- What an operation does to a state: a temporary, an entry; and which entries it hangs on. -/
structure DEff where
  dst : Option Tmp
  val : AV
  upd : Option (Nat × Ent)
  reads : List Nat

def applyE (e : DEff) (s : St) : St :=
  ⟨putA s.t e.dst e.val, match e.upd with
    | none => s.H
    | some (id, x) => s.H.set id x⟩

def readsOf (ev : Operand → AV) : Op → List Nat
  | .load _ a => match ev a with
    | .ptr id _ => [id]
    | _ => []
  | _ => []

/-- A store: its condition, which entry, and what that becomes. -/
def astore (P : Program) (op : Op) (ev : Operand → AV) (H : Heap) : Option (Prop × Nat × Ent) :=
  match op with
  | .store t a x => match tinfo P t, ev a with
    | some ti, .ptr id off => match H[id]? with
      | some (.blk c f) => some (((known (ev x) = true ∧ (ev x).cells.length = ti.size ∧ (ev x).cells.all oneA = true) ∧ off + ti.size ≤ c.length) ∧ (∀ r ∈ f, off + ti.size ≤ r.1 ∨ r.2 ≤ off), id, .blk (splice c off (ev x).cells) f)
      | some (.grow c f) => some (((known (ev x) = true ∧ (ev x).cells.length = ti.size ∧ (ev x).cells.all oneA = true) ∧ off + ti.size ≤ c.length) ∧ (∀ r ∈ f, off + ti.size ≤ r.1 ∨ r.2 ≤ off), id, .grow (splice c off (ev x).cells) f)
      | _ => none
    | _, _ => none
  | _ => none

def isAlloc : Op → Option TypeId
  | .alloc t => some t
  | _ => none

def dstep (P : Program) (G : Glob) (nid : Nat) (o : Oper) (s : St) (K : DEff → Prop) : Prop :=
  match aval P G o (evA G s.t) s.H with
  | some (c, v) => c ∧ K ⟨o.dst, v, none, readsOf (evA G s.t) o.op⟩
  | none =>
    match isAlloc o.op with
    | some t => match tzero P t with
      | some z => (known z = true ∧ s.H[nid]? = some .res) ∧ K ⟨o.dst, .ptr nid 0, some (nid, .blk z.cells []), [nid]⟩
      | none => False
    | none =>
      match astore P o.op (evA G s.t) s.H with
      | some (c, id, x) => c ∧ K ⟨o.dst, .tup [], some (id, x), [id]⟩
      | none =>
        match acall o.op (evA G s.t) with
        | some (f, args) => GoFn P f ∧ ∃ v, FCall P G f args v ∧ K ⟨o.dst, v, none, []⟩
        | none => False

def dgstep (P : Program) (G : Glob) (ops : Array Oper) (nid : Nat) (o : Oper) (s : St) (K : DEff → Prop) : Prop :=
  match o.guard with
  | none => dstep P G nid o s K
  | some (j, want) =>
    match (ops[j]?).bind (·.dst) with
    | none => K ⟨o.dst, .tup [], none, []⟩
    | some d =>
      match s.t.getD d .any with
      | .bool b => (b = want → dstep P G nid o s K) ∧ (b = !want → K ⟨o.dst, .tup [], none, []⟩)
      | .tup _ => K ⟨o.dst, .tup [], none, []⟩
      | _ => False

def dops (P : Program) (G : Glob) (ops : Array Oper) : List Oper → Nat → St → List DEff → (St → List DEff → Prop) → Prop
  | [], _, s, tr, K => K s tr
  | o :: rest, nid, s, tr, K => dgstep P G ops nid o s fun e => dops P G ops rest (if (isAlloc o.op).isSome then nid + 1 else nid) (applyE e s) (tr ++ [e]) K

section
variable {P : Program} {G : Glob} {ρ : Rho} {I : Imm} {H : Heap} {w : World}

/-- Two states look the same to an operation. -/
structure Agree (G : Glob) (ops : Array Oper) (o : Oper) (rs : List Nat) (s s' : St) : Prop where
  look : ∀ t ∈ o.looksAt ops, s'.t.getD t .any = s.t.getD t .any
  read : ∀ id ∈ rs, s'.H[id]? = s.H[id]?

theorem Agree.ev {ops : Array Oper} {o : Oper} {rs : List Nat} {s s' : St} (h : Agree G ops o rs s s') {x : Operand} (hx : x ∈ o.op.operands) : evA G s'.t x = evA G s.t x := by
  cases x with
  | tmp t =>
    refine h.look t ?_
    unfold Oper.looksAt
    rw [List.mem_append]
    left
    rw [List.mem_filterMap]
    exact ⟨.tmp t, by simpa using hx, rfl⟩
  | _ => rfl

theorem Agree.mono {ops : Array Oper} {o : Oper} {rs rs' : List Nat} {s s' : St} (h : Agree G ops o rs s s') (hr : ∀ x ∈ rs', x ∈ rs) : Agree G ops o rs' s s' :=
  ⟨h.look, fun id hid => h.read id (hr id hid)⟩

theorem map_ev_congr {ev ev' : Operand → AV} {l : List Operand} (h : ∀ x ∈ l, ev' x = ev x) : l.map ev' = l.map ev := List.map_congr_left h

theorem aval0_congr {X : Nat → FK} {op : Op} {ev ev' : Operand → AV} {H H' : Heap} (he : ∀ x ∈ op.operands, ev' x = ev x)
    (hr : ∀ id ∈ readsOf ev op, H'[id]? = H[id]?) : aval0 P X op ev' H' = aval0 P X op ev H := by
  cases op with
  | load t a =>
    have h1 := he a (by simp [Op.operands])
    simp only [aval0, h1]
    have : cellsAt H' (ev a) = cellsAt H (ev a) := by
      cases h2 : ev a with
      | ptr id off =>
        have := hr id (by simp [readsOf, h2])
        simp [cellsAt, this]
      | _ => simp [cellsAt]
    rw [this]
  | call c =>
    have hargs : c.args.toList.map ev' = c.args.toList.map ev := map_ev_congr fun x hx => he x (by simp [Op.operands, Call.operands]; right; simpa using hx)
    simp only [aval0, hargs]
    split
    · rename_i fo hfo
      have := he fo (by simp [Op.operands, Call.operands, hfo])
      rw [this]
    · rfl
    · rfl
    · rfl
    · rfl
  | makeFunc fn first caps =>
    have h1 : first.toList.map ev' = first.toList.map ev := map_ev_congr fun x hx => he x (by simp [Op.operands]; left; simpa using hx)
    have h2 : caps.toList.map ev' = caps.toList.map ev := map_ev_congr fun x hx => he x (by simp [Op.operands]; right; simpa using hx)
    simp only [aval0, h1, h2]
  | build t parts =>
    have h1 : (parts.toList.map fun p => (p.1, ev' p.2)) = parts.toList.map fun p => (p.1, ev p.2) :=
      List.map_congr_left fun p hp => by rw [he p.2 (by simp [Op.operands]; exact ⟨p.1, by simpa using hp⟩)]
    simp only [aval0, h1]
  | move x => simp only [aval0, he x (by simp [Op.operands])]
  | assign x => simp only [aval0, he x (by simp [Op.operands])]
  | pick c a b => simp only [aval0, he c (by simp [Op.operands]), he a (by simp [Op.operands]), he b (by simp [Op.operands])]
  | extract t i => simp only [aval0, he t (by simp [Op.operands])]
  | fieldAddr s x f => simp only [aval0, he x (by simp [Op.operands])]
  | indexAddr t x i => simp only [aval0, he x (by simp [Op.operands]), he i (by simp [Op.operands])]
  | index t x i => simp only [aval0, he x (by simp [Op.operands]), he i (by simp [Op.operands])]
  | field t x f => simp only [aval0, he x (by simp [Op.operands])]
  | binOp op t x y ty => simp only [aval0, he x (by simp [Op.operands]), he y (by simp [Op.operands])]
  | unOp op t x => simp only [aval0, he x (by simp [Op.operands])]
  | convert s d x => simp only [aval0, he x (by simp [Op.operands])]
  | nilCheck x => simp only [aval0, he x (by simp [Op.operands])]
  | _ => rfl

theorem acall_congr {op : Op} {ev ev' : Operand → AV} (he : ∀ x ∈ op.operands, ev' x = ev x) : acall op ev' = acall op ev := by
  cases op with
  | call c =>
    have hargs : c.args.toList.map ev' = c.args.toList.map ev := map_ev_congr fun x hx => he x (by simp [Op.operands, Call.operands]; right; simpa using hx)
    simp only [acall, hargs]
    split
    · rename_i fo hfo
      have := he fo (by simp [Op.operands, Call.operands, hfo])
      rw [this]
    · rfl
  | _ => rfl

/-- A block that had its number already. -/
theorem fill_conc (c : Conc G ρ I H w) {nid : Nat} (hn : H[nid]? = some .res) {cells : List AV} {vs : List Value} (el : TypeId) (hr : relL ρ I w cells vs) :
    Good ρ I H w (bindR ρ nid (some w.heap.size)) I (H.set nid (.blk cells [])) (w.alloc (.cells vs.toArray el)) ∧
    Conc G (bindR ρ nid (some w.heap.size)) I (H.set nid (.blk cells [])) (w.alloc (.cells vs.toArray el)) := by
  have hlt : nid < H.length := (List.getElem?_eq_some_iff.1 hn).1
  have hnone := c.res nid hn
  have hset : ∀ i e1, (H.set nid (.blk cells []))[i]? = some e1 → (i = nid ∧ e1 = .blk cells []) ∨ (i ≠ nid ∧ H[i]? = some e1) := by
    intro i e1 h
    rw [List.getElem?_set] at h
    by_cases hi : nid = i
    · subst hi
      simp only [if_true, hlt] at h
      simp only [Option.some.injEq] at h
      exact .inl ⟨rfl, h.symm⟩
    · rw [if_neg hi] at h
      exact .inr ⟨fun h' => hi h'.symm, h⟩
  have hold : ∀ i, i ≠ nid → bindR ρ nid (some w.heap.size) i = ρ i := fun i hi => by simp [bindR, hi]
  have hnew : bindR ρ nid (some w.heap.size) nid = some (some w.heap.size) := by simp [bindR]
  have g : Good ρ I H w (bindR ρ nid (some w.heap.size)) I (H.set nid (.blk cells [])) (w.alloc (.cells vs.toArray el)) := by
    refine ⟨fun id x h => bindR_old hnone h, by simp, fun _ _ h => h, fun _ _ _ h => .inl h, rfl, rfl, rfl, by simp, fun b off h _ => cell_alloc w _ h off, fun b h _ => alloc_old w _ h,
      fun b h => bsz_alloc w _ h, ?_, ?_⟩
    · rintro b off hb ⟨i, e1, h1, h2, h3, h4⟩
      rcases hset i e1 h1 with ⟨rfl, rfl⟩ | ⟨hi, h⟩
      · rw [hnew] at h3; simp at h3; omega
      · rw [hold i hi] at h3; exact ⟨i, e1, h, h2, h3, h4⟩
    · rintro b hb ⟨i, e1, h1, h2, h3⟩
      rcases hset i e1 h1 with ⟨rfl, rfl⟩ | ⟨hi, h⟩
      · rw [hnew] at h3; simp at h3; omega
      · rw [hold i hi] at h3; exact ⟨i, e1, h, h2, h3⟩
  have m := c.mono g
  refine ⟨g, ?_, ?_, ?_, ?_, ?_, ?_, ?_, ?_⟩
  · intro id h
    by_cases e : id = nid
    · subst e; simpa using hlt
    · rw [hold id e] at h; simpa using c.dom id h
  · intro id h
    rcases hset id _ h with ⟨_, h'⟩ | ⟨hi, h'⟩
    · simp at h'
    · rw [hold id hi]; exact c.res id h'
  · intro id b h
    by_cases e : id = nid
    · subst e; rw [hnew] at h; simp at h; subst h; simp
    · rw [hold id e] at h; have := c.blt id b h; simp; omega
  · intro i j b e1 e2 hi h1 hj h2 hbi hbj
    rcases hset i e1 hi with ⟨rfl, rfl⟩ | ⟨ki, hi'⟩ <;> rcases hset j e2 hj with ⟨rfl, rfl⟩ | ⟨kj, hj'⟩
    · rfl
    · rw [hnew] at hbi; rw [hold j kj] at hbj; simp at hbi; have := c.blt j b hbj; omega
    · rw [hnew] at hbj; rw [hold i ki] at hbi; simp at hbj; have := c.blt i b hbi; omega
    · rw [hold i ki] at hbi; rw [hold j kj] at hbj; exact c.inj i j b e1 e2 hi' h1 hj' h2 hbi hbj
  · intro id cs f h
    rcases hset id _ h with ⟨rfl, h'⟩ | ⟨hi, h'⟩
    · simp only [Ent.blk.injEq] at h'
      obtain ⟨rfl, rfl⟩ := h'
      exact ⟨w.heap.size, el, (0, 0), vs, hnew, alloc_new _ _, relL_mono m _ _ hr, fun o _ => by simp⟩
    · obtain ⟨b, el', fr, us, k1, k2, k3, k4⟩ := c.blk id cs f h'
      exact ⟨b, el', fr, us, by rw [hold id hi]; exact k1, by rw [alloc_old _ _ (c.blt id b k1)]; exact k2, relL_mono m _ _ k3, k4⟩
  · intro id cs f h
    rcases hset id _ h with ⟨_, h'⟩ | ⟨hi, h'⟩
    · simp at h'
    · rcases c.grow id cs f h' with ⟨k1, k2⟩ | ⟨b, el', fr, us, rest, k1, k2, k3, k4⟩
      · exact .inl ⟨by rw [hold id hi]; exact k1, k2⟩
      · exact .inr ⟨b, el', fr, us, rest, by rw [hold id hi]; exact k1, by rw [alloc_old _ _ (c.blt id b k1)]; exact k2, relL_mono m _ _ k3, k4⟩
  · intro b o hb
    obtain ⟨h1, h2⟩ := c.imm b o hb
    exact ⟨by simp; omega, fun h => h2 (g.wrt b o h1 h)⟩
  · intro gl cs h
    obtain ⟨us, h1, h2⟩ := c.glob gl cs h
    exact ⟨us, relL_mono m.none _ _ h1, h2.mono m.imm⟩

/-- Numbers are kept for blocks to come. -/
theorem reserve_conc (c : Conc G ρ I H w) (n : Nat) : Good ρ I H w ρ I (H ++ List.replicate n .res) w ∧ Conc G ρ I (H ++ List.replicate n .res) w := by
  have hget : ∀ (i : Nat) (e : Ent), (H ++ List.replicate n .res)[i]? = some e → (H[i]? = some e) ∨ (H.length ≤ i ∧ e = .res) := by
    intro i e h
    rcases Nat.lt_or_ge i H.length with hi | hi
    · left; rwa [List.getElem?_append_left hi] at h
    · right
      rw [List.getElem?_append_right hi, List.getElem?_replicate] at h
      split at h
      · simp at h; exact ⟨hi, h.symm⟩
      · simp at h
  have live : ∀ (i : Nat) (e : Ent), (H ++ List.replicate n .res)[i]? = some e → e.live = true → H[i]? = some e := by
    intro i e h hl
    rcases hget i e h with h | ⟨_, rfl⟩
    · exact h
    · simp [Ent.live] at hl
  have g : Good ρ I H w ρ I (H ++ List.replicate n .res) w :=
    ⟨fun _ _ h => h, by simp, fun _ _ h => h, fun _ _ _ h => .inl h, rfl, rfl, rfl, Nat.le_refl _, fun _ _ _ _ => rfl, fun _ _ _ => rfl, fun _ _ => rfl,
      fun b o _ ⟨i, e, h1, h2, h3, h4⟩ => ⟨i, e, live i e h1 h2, h2, h3, h4⟩, fun b _ ⟨i, e, h1, h2, h3⟩ => ⟨i, e, live i e h1 h2, h2, h3⟩⟩
  refine ⟨g, fun id h => by have := c.dom id h; simp; omega, fun id h => ?_, c.blt, fun i j b e e' hi l1 hj l2 => c.inj i j b e e' (live i e hi l1) l1 (live j e' hj l2) l2,
    fun id cs f h => c.blk id cs f (live id _ h rfl), fun id cs f h => c.grow id cs f (live id _ h rfl), fun b o h => ⟨(c.imm b o h).1, fun hm => (c.imm b o h).2 (g.wrt b o (c.imm b o h).1 hm)⟩, c.glob⟩
  rcases hget id _ h with h | ⟨h, _⟩
  · exact c.res id h
  · exact Classical.byContradiction fun hn => by have := c.dom id hn; omega

theorem astore_eff {op : Op} {ev : Operand → AV} {c : Prop} {id : Nat} {x : Ent} (h : astore P op ev H = some (c, id, x)) : aeff P op ev H = some (c, .tup [], H.set id x) := by
  unfold astore at h
  split at h
  · rename_i t a y
    unfold aeff
    simp only
    split at h
    · rename_i ti id' off h1 h2
      rw [h1, h2]
      simp only
      split at h
      · rename_i cs f h3
        simp only [Option.some.injEq, Prod.mk.injEq] at h
        obtain ⟨rfl, rfl, rfl⟩ := h
        simp [h3]
      · rename_i cs f h3
        simp only [Option.some.injEq, Prod.mk.injEq] at h
        obtain ⟨rfl, rfl, rfl⟩ := h
        simp [h3]
      · simp at h
    · simp at h
  · simp at h

theorem astore_congr {op : Op} {ev ev' : Operand → AV} {H H' : Heap} (he : ∀ x ∈ op.operands, ev' x = ev x) {c : Prop} {id : Nat} {x : Ent} (h : astore P op ev H = some (c, id, x)) (hr : H'[id]? = H[id]?) :
    astore P op ev' H' = some (c, id, x) := by
  cases op with
  | store t a y =>
    have h1 := he a (by simp [Op.operands])
    have h2 := he y (by simp [Op.operands])
    have hid : ∃ off, ev a = .ptr id off := by
      simp only [astore] at h
      split at h
      · rename_i ti id' off k1 k2
        split at h <;> simp at h
        all_goals (obtain ⟨_, rfl, _⟩ := h; exact ⟨off, k2⟩)
      · simp at h
    obtain ⟨off, ha⟩ := hid
    rw [← h]
    simp only [astore, h1, h2, ha]
    cases htf : tinfo P t <;> simp only [hr]
  | _ => simp [astore] at h

/-- What a step of an operation at one state says of it at every state that looks the same to it. -/
def DoesAt (P : Program) (G : Glob) (ops : Array Oper) (o : Oper) (e : DEff) (s : St) : Prop :=
  e.dst = o.dst ∧ (∀ id x, e.upd = some (id, x) → id ∈ e.reads) ∧
  ∀ s', Agree G ops o e.reads s s' → ∀ (ρ : Rho) (I : Imm) (w : World) (a : Act) (next : Act → World → Prop) (Q : Exit → Act → World → Prop), Conc G ρ I s'.H w → RelT ρ I w s'.t a →
    Leads G ρ I s'.H w (fun s2 => s2 = applyE e s') next → if Region.wanted o (yielded ops a.tmps) then o.wp P a w next Q else next (a.put o.dst undef) w

theorem dstep_sound {ops : Array Oper} {nid : Nat} {o : Oper} {s : St} {K : DEff → Prop} (h : dstep P G nid o s K) :
    ∃ e, K e ∧ e.dst = o.dst ∧ (∀ id x, e.upd = some (id, x) → id ∈ e.reads) ∧
      ∀ s', Agree G ops o e.reads s s' → ∀ (ρ : Rho) (I : Imm) (w : World) (a : Act) (next : Act → World → Prop) (Q : Exit → Act → World → Prop), Conc G ρ I s'.H w → RelT ρ I w s'.t a →
        Leads G ρ I s'.H w (fun s2 => s2 = applyE e s') next → o.wp P a w next Q := by
  unfold dstep at h
  split at h
  · rename_i c v hv
    obtain ⟨hc, hk⟩ := h
    refine ⟨_, hk, rfl, fun _ _ h => by simp at h, ?_⟩
    intro s' ag ρ I w a next Q hC hR hn
    refine step1_sound (K := fun s2 => s2 = applyE ⟨o.dst, v, none, readsOf (evA G s.t) o.op⟩ s') hC hR ?_ hn
    have hv' : aval P G o (evA G s'.t) s'.H = some (c, v) := by
      unfold aval at hv ⊢
      rw [aval0_congr (fun x hx => ag.ev hx) ag.read]
      exact hv
    unfold step1
    simp only
    rw [hv']
    exact ⟨hc, rfl⟩
  · rename_i hv
    have hv' : ∀ s' rs, Agree G ops o rs s s' → readsOf (evA G s.t) o.op = [] → aval P G o (evA G s'.t) s'.H = none := by
      intro s' rs ag hr
      have := aval0_congr (P := P) (X := G.x) (op := o.op) (ev := evA G s.t) (ev' := evA G s'.t) (H := s.H) (H' := s'.H) (fun x hx => ag.ev hx) (fun id hid => by rw [hr] at hid; simp at hid)
      unfold aval at hv ⊢
      rw [this]
      exact hv
    split at h
    · rename_i t ht
      have hop : o.op = .alloc t := by
        cases hq : o.op <;> simp [hq, isAlloc] at ht
        rw [ht]
      split at h
      · rename_i z hz
        obtain ⟨⟨hkz, hres⟩, hk⟩ := h
        refine ⟨_, hk, rfl, fun id x h => by simp only [Option.some.injEq, Prod.mk.injEq] at h; simp [h.1], ?_⟩
        intro s' ag ρ I w a next Q hC hR hn
        have hres' : s'.H[nid]? = some .res := by rw [ag.read nid (by simp)]; exact hres
        simp only [tzero, Option.map_eq_some_iff, Option.bind_eq_some_iff] at hz
        obtain ⟨zv, ⟨ti, h1, h2⟩, rfl⟩ := hz
        obtain ⟨g, cc⟩ := fill_conc hC hres' t (rel_cells' (rel_ofVal zv) hkz)
        have hrun : (execOp a.eval o).run P w = .ok (.value (.pointer (some ⟨w.heap.size, 0, none⟩))) (w.alloc (.cells zv.cells t)) := by
          simp [execOp, hop, Instr.alloc, zeroValue, run_typeInfo h1, h2, newVar, newRow]
        unfold Oper.wp
        rw [hrun]
        simp only [Array.toArray_toList] at g cc
        exact hn _ _ (applyE ⟨o.dst, .ptr nid 0, some (nid, .blk (ofVal zv).cells []), [nid]⟩ s') _ _ g cc ((hR.mono (hC.mono g)).put o.dst (v := .ptr nid 0) ⟨w.heap.size, by simp [bindR], rfl⟩) rfl
      · exact h.elim
    · split at h
      · rename_i c id x hs
        obtain ⟨hc, hk⟩ := h
        refine ⟨_, hk, rfl, fun id' x' h => by simp only [Option.some.injEq, Prod.mk.injEq] at h; simp [h.1], ?_⟩
        intro s' ag ρ I w a next Q hC hR hn
        have hrd : readsOf (evA G s.t) o.op = [] := by
          unfold astore at hs
          split at hs
          · rename_i hq; rw [hq]; rfl
          · simp at hs
        have hs' := astore_congr (ev' := evA G s'.t) (H' := s'.H) (fun x hx => ag.ev hx) hs (ag.read id (by simp))
        refine step1_sound (K := fun s2 => s2 = applyE ⟨o.dst, .tup [], some (id, x), [id]⟩ s') hC hR ?_ hn
        unfold step1
        simp only
        rw [hv' s' _ ag hrd, astore_eff hs']
        exact ⟨hc, rfl⟩
      · rename_i hs
        split at h
        · rename_i f args hcall
          obtain ⟨hgo, v, hf, hk⟩ := h
          refine ⟨_, hk, rfl, fun _ _ h => by simp at h, ?_⟩
          intro s' ag ρ I w a next Q hC hR hn
          have hcall' : acall o.op (evA G s'.t) = some (f, args) := by rw [acall_congr (fun x hx => ag.ev hx)]; exact hcall
          have hop : ∃ c, o.op = .call c := by
            unfold acall at hcall
            split at hcall
            · rename_i c hq; exact ⟨c, hq⟩
            · simp at hcall
          obtain ⟨c, hq⟩ := hop
          refine step1_sound (K := fun s2 => s2 = applyE ⟨o.dst, v, none, []⟩ s') hC hR ?_ hn
          unfold step1
          simp only
          rw [hv' s' _ ag (by rw [hq]; rfl), show aeff P o.op (evA G s'.t) s'.H = none by rw [hq]; rfl, hcall']
          exact ⟨hgo, ACall.of_f hf rfl⟩
        · exact h.elim

theorem dgstep_sound {ops : Array Oper} {nid : Nat} {o : Oper} {s : St} {K : DEff → Prop} (h : dgstep P G ops nid o s K) : ∃ e, K e ∧ DoesAt P G ops o e s := by
  have skip : ∀ (hy : ∀ s' rs, Agree G ops o rs s s' → ∀ ρ I w a, RelT ρ I w s'.t a → Region.wanted o (yielded ops a.tmps) = false), K ⟨o.dst, .tup [], none, []⟩ → ∃ e, K e ∧ DoesAt P G ops o e s := by
    intro hy hk
    refine ⟨_, hk, rfl, fun _ _ h => by simp at h, ?_⟩
    intro s' ag ρ I w a next Q hC hR hn
    rw [hy s' _ ag ρ I w a hR]
    simp only [Bool.false_eq_true, if_false]
    exact hn ρ I (applyE ⟨o.dst, .tup [], none, []⟩ s') _ w (Good.refl _ _ _ _) hC (hR.put _ rel_undef) rfl
  have take : dstep P G nid o s K → (∀ s' rs, Agree G ops o rs s s' → ∀ ρ I w a, RelT ρ I w s'.t a → Region.wanted o (yielded ops a.tmps) = true) → ∃ e, K e ∧ DoesAt P G ops o e s := by
    intro hd hy
    obtain ⟨e, h1, h2, h3, h4⟩ := dstep_sound (ops := ops) hd
    refine ⟨e, h1, h2, h3, ?_⟩
    intro s' ag ρ I w a next Q hC hR hn
    rw [hy s' _ ag ρ I w a hR]
    simp only [if_true]
    exact h4 s' ag ρ I w a next Q hC hR hn
  unfold dgstep at h
  split at h
  · rename_i hg
    exact take h fun s' rs ag ρ I w a hR => by unfold Region.wanted; rw [hg]
  · rename_i j want hg
    split at h
    · rename_i hd
      refine skip (fun s' rs ag ρ I w a hR => ?_) h
      unfold Region.wanted
      rw [hg]
      have : yielded ops a.tmps j = none := by unfold yielded; rw [hd]; rfl
      simp [this]
    · rename_i d hd
      have hlook : d ∈ o.looksAt ops := by
        unfold Oper.looksAt
        rw [List.mem_append]
        right
        rw [hg]
        simp [hd]
      split at h
      · rename_i b hb
        by_cases e : b = want
        · refine take (h.1 e) fun s' rs ag ρ I w a hR => ?_
          unfold Region.wanted
          rw [hg]
          simp only
          rw [yielded_of hR hd ((ag.look d hlook).trans hb), e]
          simp
        · have e' : b = !want := by cases b <;> cases want <;> simp_all
          refine skip (fun s' rs ag ρ I w a hR => ?_) (h.2 e')
          unfold Region.wanted
          rw [hg]
          simp only
          rw [yielded_of hR hd ((ag.look d hlook).trans hb)]
          simp [e]
      · rename_i l hl
        refine skip (fun s' rs ag ρ I w a hR => ?_) h
        unfold Region.wanted
        rw [hg]
        simp only
        rw [yielded_tup hR hd ((ag.look d hlook).trans hl)]
        simp
      · exact h.elim

end
end Go.Ab
