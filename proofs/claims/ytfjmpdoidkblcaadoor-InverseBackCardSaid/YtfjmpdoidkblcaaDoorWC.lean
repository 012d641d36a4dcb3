/- The abstract layer (third state), part C: what an operation does to a state, as a thing that can be reckoned; and that it holds wherever the state looks the same. -/
import Derived.Test.YtfjmpdoidkblcaaDoorWB
set_option linter.unusedSimpArgs false
set_option linter.unusedVariables false
namespace Go.V
open Go
noncomputable section

/-- What an operation comes to: a condition, a value, entries written; by cases. -/
inductive Eff where
  | one (c : Bool) (v : AV) (u : List (Nat × Ent))
  | br (b : Bool) (x y : Eff)
  | ck (b : Bool) (x : Eff)
  | bad
  deriving Inhabited

def Eff.go : Eff → (AV → List (Nat × Ent) → Prop) → Prop
  | .one c v u, K => cnd c (K v u)
  | .br b x y, K => ite2 b (x.go K) (y.go K)
  | .ck b x, K => cnd b (x.go K)
  | .bad, _ => False

def Eff.has : Eff → AV → List (Nat × Ent) → Prop
  | .one c v u, v', u' => c = true ∧ v' = v ∧ u' = u
  | .br b x y, v', u' => match b with
    | true => x.has v' u'
    | false => y.has v' u'
  | .ck b x, v', u' => b = true ∧ x.has v' u'
  | .bad, _, _ => False

theorem Eff.go_has : ∀ {E : Eff} {K : AV → List (Nat × Ent) → Prop}, E.go K → ∃ v u, E.has v u ∧ K v u
  | .one c v u, K, h => let ⟨h1, h2⟩ := cnd_iff.1 h; ⟨v, u, ⟨h1, rfl, rfl⟩, h2⟩
  | .ck b x, K, h => let ⟨h1, h2⟩ := cnd_iff.1 h; let ⟨v, u, h3, h4⟩ := Eff.go_has (E := x) h2; ⟨v, u, ⟨h1, h3⟩, h4⟩
  | .br true x y, K, h => Eff.go_has (E := x) h
  | .br false x y, K, h => Eff.go_has (E := y) h
  | .bad, K, h => h.elim

/-- The entry that a value points into. -/
def refId0 : AV → List Nat
  | .ptr id _ => [id]
  | .pix id _ _ _ => [id]
  | .sl id _ _ _ => [id]
  | _ => []
def refId : AV → List Nat
  | .ptr id _ => [id]
  | .pix id _ _ _ => [id]
  | .sl id _ _ _ => [id]
  | .fn _ a b => a.flatMap refId0 ++ b.flatMap refId0
  | _ => []
theorem refId0_sub {a : AV} {id : Nat} (h : id ∈ refId0 a) : id ∈ refId a := by cases a <;> simp_all [refId0, refId]
def refIds (ev : Operand → AV) (l : List Operand) : List Nat := l.flatMap fun x => refId (ev x)

/-- Numbers that a call may take for what it makes. -/
def callSlots : Nat := 3

def upTo (nid : Nat) : Nat → List Nat
  | 0 => []
  | n + 1 => nid :: upTo (nid + 1) n
/-- Which entries an operation's effect may hang on. -/
def readsE (ev : Operand → AV) (op : Op) (nid n : Nat) : List Nat :=
  match op with
  | .move _ => []
  | .assign _ => []
  | .pick _ _ _ => []
  | .extract _ _ => []
  | .fieldAddr _ _ _ => []
  | .indexAddr _ _ _ => []
  | .index _ _ _ => []
  | .field _ _ _ => []
  | .binOp _ _ _ _ _ => []
  | .unOp _ _ _ => []
  | .nilCheck _ => []
  | .makeFunc _ _ _ => []
  | .build _ _ => []
  | .load _ a => refId (ev a)
  | .store _ a _ => refId (ev a)
  | op => refIds ev op.operands.toList ++ upTo nid n

section
variable {P : Program} (G : Env P)

/-- An effect that holds of the model's own run. -/
def EffOk (ρ : Rho) (I : Imm) (H : Heap) (w : World) (res : Result Next) (v : AV) (u : List (Nat × Ent)) : Prop :=
  ∃ (x : Value) (w' : World), (res = .ok (.value x) w' ∨ (res = .ok .skip w' ∧ x = undef)) ∧ ∃ (ρ' : Rho) (I' : Imm), Good ρ I H w ρ' I' (updH H u) w' ∧ Conc G.g ρ' I' (updH H u) w' ∧ Mono ρ I w ρ' I' w' ∧ rel ρ' I' w' v x

/-- The slots that an operation may take. -/
def slots : Op → Nat
  | .alloc _ => 1
  | .box _ _ => 1
  | .buildSlice _ _ _ => 1
  | .makeSlice _ _ _ => 1
  | .convert _ d _ => match G.ty d with
    | some td => match td.kind with
      | .slice _ => 1
      | _ => 0
    | none => 0
  | .slice _ _ _ _ m => bif m.isSome then 1 else 0
  | .call c => match c.callee with
    | .value _ => callSlots
    | .builtin .append => 1
    | _ => 0
  | _ => 0

/-- Operations on slices, told apart. -/
structure ROps where
  f : Op → (Operand → AV) → Heap → Nat → Option Eff
  congr : ∀ (op : Op) (ev ev' : Operand → AV) (H H' : Heap) (nid : Nat), (∀ x ∈ op.operands, ev' x = ev x) → (∀ id ∈ readsE ev op nid (slots G op), H'[id]? = H[id]?) → f op ev' H' nid = f op ev H nid
  sound : ∀ (ρ : Rho) (I : Imm) (H : Heap) (w : World), Conc G.g ρ I H w → ∀ (ev : Operand → AV) (e : Operand → Value), (∀ x, rel ρ I w (ev x) (e x)) → ∀ (o : Oper) (nid : Nat) (E : Eff) (v : AV) (u : List (Nat × Ent)),
    f o.op ev H nid = some E → E.has v u → EffOk G ρ I H w ((execOp e o).run P w) v u

/-- Arguments as the callee sees them: what is lent is unwritten to it. -/
def lend1 (H : Heap) : AV → Option (Bool × AV × Bool)
  | .sl id off k len => match H[id]? with
    | some (.grow k' rows _) => some ((k == k' && off == 0) && leB len rows.length, .vec false k (rows.take len), true)
    | _ => match content8 H (.sl id off k len) with
      | some (c, l) => some (c, .vec8 false l, true)
      | none => none
  | a => some (true, a, false)
def lend (H : Heap) : List AV → Option (Bool × List AV × Bool)
  | [] => some (true, [], false)
  | a :: as => match lend1 H a with
    | some (c, x, b) => match lend H as with
      | some (d, xs, b') => some (c && d, x :: xs, b || b')
      | none => none
    | none => none

def outE (b : Bool) (H : Heap) (nid : Nat) : Out → Eff
  | .ret v H0 => .ck (leB H0.length callSlots && slotsOk H nid H0) (.ck (!b || (nvA v && H0.all nvE)) (.one true (renA (shift nid) v) (newsFrom (shift nid) nid H0)))
  | .alt d x y => .br d (outE b H nid x) (outE b H nid y)

/-- What is known of calls. -/
structure Ctr where
  C : FuncId → List AV → Option (Bool × Out)
  ok : ∀ f args pre out, C f args = some (pre, out) → pre = true → HCall G f args out

def callE (C : FuncId → List AV → Option (Bool × Out)) (f : FuncId) (args : List AV) (H : Heap) (nid : Nat) : Option Eff :=
  match lend H args with
  | some (c, args', b) => match C f args' with
    | some (pre, out) => some (.ck (G.go f) (.ck (pureL args') (.ck c (.ck pre (outE b H nid out)))))
    | none => none
  | none => none

/-- Operations that make or write memory, but for those on slices. -/
def amem (op : Op) (ev : Operand → AV) (H : Heap) (nid : Nat) : Option Eff :=
  match op with
  | .alloc t => match G.ty t with
    | some ti => match ti.zero with
      | some z => some (.one (known z && isRes H nid) (.ptr nid 0) [(nid, .blk z.cells [])])
      | none => none
    | none => none
  | .box _ x => some (.one (known (ev x) && isRes H nid) (.ptr nid 0) [(nid, .blk (ev x).cells [])])
  | .store t a x => match astore G (.store t a x) ev H with
    | some (c, id, e) => some (.one c (.tup []) [(id, e)])
    | none => none
  | _ => none

def eff (R : ROps G) (C : FuncId → List AV → Option (Bool × Out)) (op : Op) (ev : Operand → AV) (H : Heap) (nid : Nat) : Option Eff :=
  match aval0 G op ev H with
  | some (c, v) => some (.one c v [])
  | none => match amem G op ev H nid with
    | some E => some E
    | none => match R.f op ev H nid with
      | some E => some E
      | none => match acall op ev with
        | some (f, args) => callE G C f args H nid
        | none => none
end

section
variable {P : Program} {G : Env P} {ρ : Rho} {I : Imm} {H : Heap} {w : World}

theorem refId_load {ev : Operand → AV} {H H' : Heap} {a : Operand} (hr : ∀ id ∈ refId (ev a), H'[id]? = H[id]?) : (∀ ti, aload ti H' (ev a) = aload ti H (ev a)) ∧ content8 H' (ev a) = content8 H (ev a) ∧ lend1 H' (ev a) = lend1 H (ev a) := by
  cases h2 : ev a <;> rw [h2] at hr <;> simp only [refId, List.mem_singleton, forall_eq, List.not_mem_nil, false_implies, implies_true] at hr <;> simp [aload, cellsAt, cellsAtX, entCells, content8, lend1, *]

theorem map_ev_congr {ev ev' : Operand → AV} {l : List Operand} (h : ∀ x ∈ l, ev' x = ev x) : l.map ev' = l.map ev := List.map_congr_left h

theorem mem_refIds {ev : Operand → AV} {l : List Operand} {x : Operand} {id : Nat} (hx : x ∈ l) (h : id ∈ refId (ev x)) : id ∈ refIds ev l := List.mem_flatMap.2 ⟨x, hx, h⟩

theorem aval0_congr {op : Op} {ev ev' : Operand → AV} {H H' : Heap} {nid : Nat} (he : ∀ x ∈ op.operands, ev' x = ev x)
    (hr : ∀ id ∈ readsE ev op nid (slots G op), H'[id]? = H[id]?) : aval0 G op ev' H' = aval0 G op ev H := by
  cases op with
  | load t a =>
    have h1 := he a (by simp [Op.operands])
    simp only [aval0, h1]
    have := (refId_load (H := H) (H' := H') (ev := ev) (a := a) hr).1
    simp only [this]
  | convert t d x =>
    have h1 := he x (by simp [Op.operands])
    simp only [aval0, h1]
    have h8 := (refId_load (H := H) (H' := H') (ev := ev) (a := x) fun id hid => hr id (by simp only [readsE, Op.operands]; exact List.mem_append_left _ (mem_refIds (by simp) hid))).2.1
    have : ∀ ti td, aConvert G ti td H' (ev x) = aConvert G ti td H (ev x) := by
      intro ti td
      simp only [aConvert, h8]
    simp only [this]
  | call c =>
    have hargs : c.args.toList.map ev' = c.args.toList.map ev := map_ev_congr fun x hx => he x (by simp [Op.operands, Call.operands]; right; simpa using hx)
    simp only [aval0, hargs]
    split
    · rename_i fo hfo
      have := he fo (by simp [Op.operands, Call.operands, hfo])
      rw [this]
    · rfl
    · rfl
    · rfl
    · rfl
  | makeFunc fn first caps =>
    have h1 : first.toList.map ev' = first.toList.map ev := map_ev_congr fun x hx => he x (by simp [Op.operands]; left; simpa using hx)
    have h2 : caps.toList.map ev' = caps.toList.map ev := map_ev_congr fun x hx => he x (by simp [Op.operands]; right; simpa using hx)
    simp only [aval0, h1, h2]
  | build t parts =>
    have h1 : (parts.toList.map fun p => (p.1, ev' p.2)) = parts.toList.map fun p => (p.1, ev p.2) :=
      List.map_congr_left fun p hp => by rw [he p.2 (by simp [Op.operands]; exact ⟨p.1, by simpa using hp⟩)]
    simp only [aval0, h1]
  | move x => simp only [aval0, he x (by simp [Op.operands])]
  | assign x => simp only [aval0, he x (by simp [Op.operands])]
  | pick c a b => simp only [aval0, he c (by simp [Op.operands]), he a (by simp [Op.operands]), he b (by simp [Op.operands])]
  | extract t i => simp only [aval0, he t (by simp [Op.operands])]
  | fieldAddr s x f => simp only [aval0, he x (by simp [Op.operands])]
  | indexAddr t x i => simp only [aval0, he x (by simp [Op.operands]), he i (by simp [Op.operands])]
  | index t x i => simp only [aval0, he x (by simp [Op.operands]), he i (by simp [Op.operands])]
  | field t x f => simp only [aval0, he x (by simp [Op.operands])]
  | binOp op t x y ty => simp only [aval0, he x (by simp [Op.operands]), he y (by simp [Op.operands])]
  | unOp op t x => simp only [aval0, he x (by simp [Op.operands])]
  | nilCheck x => simp only [aval0, he x (by simp [Op.operands])]
  | _ => rfl

theorem acall_congr {op : Op} {ev ev' : Operand → AV} (he : ∀ x ∈ op.operands, ev' x = ev x) : acall op ev' = acall op ev := by
  cases op with
  | call c =>
    have hargs : c.args.toList.map ev' = c.args.toList.map ev := map_ev_congr fun x hx => he x (by simp [Op.operands, Call.operands]; right; simpa using hx)
    simp only [acall, hargs]
    split
    · rename_i fo hfo
      have := he fo (by simp [Op.operands, Call.operands, hfo])
      rw [this]
    · rfl
  | _ => rfl

theorem refA_lend {a : AV} {H H' : Heap} (hr : ∀ id ∈ refId0 a, H'[id]? = H[id]?) : lend1 H' a = lend1 H a := by
  cases a <;> simp only [refId0, List.mem_singleton, forall_eq, List.not_mem_nil, false_implies, implies_true] at hr <;> simp [lend1, content8, hr]

theorem lend_congr {H H' : Heap} : ∀ {args : List AV}, (∀ a ∈ args, ∀ id ∈ refId0 a, H'[id]? = H[id]?) → lend H' args = lend H args
  | [], _ => rfl
  | a :: as, h => by
    simp only [lend, refA_lend (h a (by simp)), lend_congr (args := as) fun x hx => h x (by simp [hx])]

theorem slotsOk_congr {H H' : Heap} : ∀ {H0 : Heap} {nid : Nat}, (∀ j, j < H0.length → H'[nid + j]? = H[nid + j]?) → slotsOk H' nid H0 = slotsOk H nid H0
  | [], _, _ => rfl
  | e :: r, nid, h => by
    have h0 : isRes H' nid = isRes H nid := by unfold isRes; rw [show H'[nid]? = H[nid]? from h 0 (by simp)]
    have h1 : slotsOk H' (nid + 1) r = slotsOk H (nid + 1) r := slotsOk_congr fun j hj => by
      have := h (j + 1) (by simpa using hj)
      rwa [show nid + (j + 1) = nid + 1 + j by omega] at this
    simp only [slotsOk, h0, h1]

theorem outE_congr {b : Bool} {H H' : Heap} {nid : Nat} (h : ∀ j, j < callSlots → H'[nid + j]? = H[nid + j]?) : ∀ (out : Out), outE b H' nid out = outE b H nid out
  | .ret v H0 => by
    simp only [outE]
    cases hl : leB H0.length callSlots
    · simp
    · rw [slotsOk_congr fun j hj => h j (by have := leB_iff.1 hl; omega)]
  | .alt d x y => by simp only [outE, outE_congr h x, outE_congr h y]

theorem callE_congr {C : FuncId → List AV → Option (Bool × Out)} {f : FuncId} {args : List AV} {H H' : Heap} {nid : Nat} (h1 : ∀ a ∈ args, ∀ id ∈ refId0 a, H'[id]? = H[id]?) (h2 : ∀ j, j < callSlots → H'[nid + j]? = H[nid + j]?) :
    callE G C f args H' nid = callE G C f args H nid := by
  simp only [callE, lend_congr h1, outE_congr h2]

theorem astore_id {op : Op} {ev : Operand → AV} {c : Bool} {id : Nat} {x : Ent} (h : astore G op ev H = some (c, id, x)) : ∃ t a y, op = .store t a y ∧ id ∈ refId (ev a) := by
  cases op with
  | store t a y =>
    refine ⟨t, a, y, rfl, ?_⟩
    simp only [astore] at h
    split at h
    · split at h
      · rename_i id' off k2
        split at h
        · split at h
          · simp only [Option.some.injEq, Prod.mk.injEq] at h
            obtain ⟨_, rfl, _⟩ := h; simp [k2, refId]
          · simp at h
        · simp at h
      · rename_i id' off n i k2
        split at h
        · split at h
          · split at h
            · simp only [Option.some.injEq, Prod.mk.injEq] at h
              obtain ⟨_, rfl, _⟩ := h; simp [k2, refId]
            · simp at h
          · simp at h
        · simp at h
      · simp at h
    · simp at h
  | _ => simp [astore] at h

theorem astore_congr {t : Nat} {a y : Operand} {ev ev' : Operand → AV} {H H' : Heap} (h1 : ev' a = ev a) (h2 : ev' y = ev y) (hr : ∀ id ∈ refId (ev a), H'[id]? = H[id]?) :
    astore G (.store t a y) ev' H' = astore G (.store t a y) ev H := by
  simp only [astore, h1, h2]
  cases hq : ev a <;> rw [hq] at hr <;> simp only [refId, List.mem_singleton, forall_eq, List.not_mem_nil, false_implies, implies_true] at hr <;> simp [hr]

theorem amem_congr {op : Op} {ev ev' : Operand → AV} {H H' : Heap} {nid : Nat} (he : ∀ x ∈ op.operands, ev' x = ev x)
    (hr : ∀ id ∈ readsE ev op nid (slots G op), H'[id]? = H[id]?) : amem G op ev' H' nid = amem G op ev H nid := by
  cases op with
  | alloc t => simp only [amem, isRes, hr nid (by simp [readsE, slots, upTo])]
  | box t x => simp only [amem, he x (by simp [Op.operands]), isRes, hr nid (by simp [readsE, slots, upTo])]
  | store t a x => simp only [amem, astore_congr (G := G) (he a (by simp [Op.operands])) (he x (by simp [Op.operands])) hr]
  | _ => rfl

theorem eff_congr {R : ROps G} {C : FuncId → List AV → Option (Bool × Out)} {op : Op} {ev ev' : Operand → AV} {H H' : Heap} {nid : Nat} (he : ∀ x ∈ op.operands, ev' x = ev x)
    (hr : ∀ id ∈ readsE ev op nid (slots G op), H'[id]? = H[id]?) : eff G R C op ev' H' nid = eff G R C op ev H nid := by
  unfold eff
  rw [aval0_congr he hr, amem_congr he hr, R.congr op ev ev' H H' nid he hr, acall_congr he]
  cases aval0 G op ev H with
  | some p => rfl
  | none => cases amem G op ev H nid with
    | some p => rfl
    | none => cases R.f op ev H nid with
      | some p => rfl
      | none =>
        cases hc : acall op ev with
        | none => rfl
        | some p =>
          obtain ⟨f, args⟩ := p
          simp only
          cases op with
          | call c =>
            refine callE_congr ?_ ?_
            · intro a ha id hid
              simp only [acall] at hc
              split at hc
              · rename_i fo hfo
                split at hc
                · rename_i f' first caps hfo'
                  simp only [Option.some.injEq, Prod.mk.injEq] at hc
                  obtain ⟨_, rfl⟩ := hc
                  have hm : ∀ x ∈ c.args.toList, id ∈ refId (ev x) → H'[id]? = H[id]? := fun x hx h => hr id (by
                    simp only [readsE]
                    exact List.mem_append_left _ (mem_refIds (by simp [Op.operands, Call.operands]; right; simpa using hx) h))
                  have hf : id ∈ refId (ev fo) → H'[id]? = H[id]? := fun h => hr id (by
                    simp only [readsE]
                    exact List.mem_append_left _ (mem_refIds (by simp [Op.operands, Call.operands, hfo]) h))
                  rw [hfo'] at hf
                  simp only [refId, List.mem_append, List.mem_flatMap] at hf
                  rcases List.mem_append.1 ha with h | h
                  · exact hf (.inl ⟨a, h, hid⟩)
                  · rcases List.mem_append.1 h with h | h
                    · obtain ⟨x, hx, rfl⟩ := List.mem_map.1 h
                      exact hm x hx (refId0_sub hid)
                    · exact hf (.inr ⟨a, h, hid⟩)
                · simp at hc
              · simp at hc
            · intro j hj
              refine hr _ ?_
              simp only [readsE]
              refine List.mem_append_right _ ?_
              simp only [acall] at hc
              split at hc
              · rename_i fo hfo
                simp only [slots, hfo]
                simp only [callSlots] at hj
                simp only [callSlots, upTo, List.mem_cons, List.not_mem_nil, or_false]
                omega
              · simp at hc
          | _ => simp [acall] at hc
end
end
end Go.V
