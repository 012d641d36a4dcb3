/- The abstract layer (third state), part Z: a part of an array that is written no more, told by its bytes. -/
import Derived.Test.YtcnnogimaikicaaDoorWS

set_option linter.unusedSimpArgs false
set_option linter.unusedVariables false
namespace Go.V
open Go
noncomputable section

def Ent.freeze (r : Nat × Nat) : Ent → Ent
  | .blk c f => .blk c (r :: f)
  | .grow8 l f => .grow8 l (r :: f)
  | .grow k rows f => .grow k rows (r :: f)
  | e => e
/-- What is written no more: as before, and these cells. -/
def andI (I : Imm) (b : Nat) (r : Nat × Nat) : Imm := fun x o => I x o ∨ (x = b ∧ r.1 ≤ o ∧ o < r.2)

section
variable {g : Nat → Option (List AV)} {ρ : Rho} {I : Imm} {H : Heap} {w : World}

theorem freeze_conc (c : Conc g ρ I H w) {id b : Nat} {e : Ent} (hid : H[id]? = some e) (hl : e.live = true) (hf : e.frz = []) (hb : ρ id = some (some b)) (r : Nat × Nat) :
    Good ρ I H w ρ (andI I b r) (H.set id (e.freeze r)) w ∧ Conc g ρ (andI I b r) (H.set id (e.freeze r)) w ∧ Mono ρ I w ρ (andI I b r) w := by
  have hfl : (e.freeze r).live = true := by cases e <;> simp_all [Ent.freeze, Ent.live]
  have hfz : (e.freeze r).frz = [r] := by cases e <;> simp_all [Ent.freeze, Ent.live, Ent.frz]
  have hfg : (e.freeze r).grows = e.grows := by cases e <;> rfl
  have hfc : (e.freeze r).cells = e.cells := by cases e <;> rfl
  have live : ∀ (k : Nat) (e3 : Ent), (H.set id (e.freeze r))[k]? = some e3 → e3.live = true → ∃ e4 : Ent, H[k]? = some e4 ∧ e4.live = true ∧ (∀ o, inFrz e4.frz o → inFrz e3.frz o) := by
    intro k e3 hk l3
    rcases set_cases hk with ⟨rfl, rfl⟩ | ⟨_, h⟩
    · exact ⟨e, hid, hl, fun o h => by rw [hf] at h; obtain ⟨_, h, _⟩ := h; simp at h⟩
    · exact ⟨e3, h, l3, fun _ h => h⟩
  have mutb : ∀ x o, Mut ρ (H.set id (e.freeze r)) x o → Mut ρ H x o := by
    rintro x o ⟨k, e3, h1, h2, h3, h4⟩
    obtain ⟨e4, k1, k2, k3⟩ := live k e3 h1 h2
    exact ⟨k, e4, k1, k2, h3, fun h => h4 (k3 o h)⟩
  have hm : ∀ o, Mut ρ H b o := fun o => ⟨id, e, hid, hl, hb, by rw [hf]; rintro ⟨_, h, _⟩; simp at h⟩
  have m : Mono ρ I w ρ (andI I b r) w := ⟨fun _ _ h => h, fun _ _ h => ⟨.inl h, rfl⟩, fun _ h => ⟨h, rfl⟩⟩
  refine ⟨⟨fun _ _ h => h, ?_, by simp, fun _ _ h => .inl h, ?_, rfl, rfl, rfl, Nat.le_refl _, fun _ _ _ _ => rfl, fun _ _ _ => rfl, fun _ _ => rfl, fun x o _ h => mutb x o h, ?_⟩, ⟨fun i h => by simpa using c.dom i h, ?_, c.blt, ?_, ?_, ?_, ?_, ?_⟩, m⟩
  · rintro i x _ ⟨e1, h1, h2⟩
    rcases set_cases h1 with ⟨rfl, rfl⟩ | ⟨_, h⟩
    · exact ⟨e, hid, by rwa [hfg] at h2⟩
    · exact ⟨e1, h, h2⟩
  · rintro x o _ (h | ⟨rfl, _⟩)
    · exact .inl h
    · exact .inr (hm o)
  · rintro x _ ⟨k, e3, h1, h2, h3⟩
    obtain ⟨e4, k1, k2, _⟩ := live k e3 h1 h2
    exact ⟨k, e4, k1, k2, h3⟩
  · intro i h
    rcases set_cases h with ⟨rfl, h'⟩ | ⟨_, h⟩
    · rw [← h'] at hfl; simp [Ent.live] at hfl
    · exact c.res i h
  · intro i j x e1 e2 hi l1 hj l2 r1 r2
    obtain ⟨e3, k1, k2, _⟩ := live i e1 hi l1
    obtain ⟨e4, k3, k4, _⟩ := live j e2 hj l2
    exact c.inj i j x e3 e4 k1 k2 k3 k4 r1 r2
  · intro i cs f h
    rcases set_cases h with ⟨rfl, h'⟩ | ⟨_, h⟩
    · cases e <;> simp only [Ent.freeze, Ent.blk.injEq, reduceCtorEq] at h'
      obtain ⟨rfl, _⟩ := h'
      obtain ⟨b1, el1, fr1, us, k1, k2, k3, k4⟩ := c.blk i _ _ hid
      exact ⟨b1, el1, fr1, us, k1, k2, RL_mono m _ _ k3, k4⟩
    · obtain ⟨b1, el1, fr1, us, k1, k2, k3, k4⟩ := c.blk i cs f h
      exact ⟨b1, el1, fr1, us, k1, k2, RL_mono m _ _ k3, k4⟩
  · intro i e1 h hg1
    have fin : ∀ e2 : Ent, H[i]? = some e2 → e2.grows = true → e2.cells = e1.cells → (e2.even → e1.even) → e1.even ∧ ((ρ i = some none ∧ szL e1.cells = 0) ∨ ∃ b' el fr cs rest, ρ i = some (some b') ∧ w.heap[b']? = some (.cells (List.toArray (cs ++ rest)) el fr) ∧ RL ρ (andI I b r) w e1.cells cs ∧ clear fr (cs ++ rest).length) := by
      intro e2 h2 g2 hc hev
      obtain ⟨k0, k⟩ := c.grow i e2 h2 g2
      rw [hc] at k
      refine ⟨hev k0, ?_⟩
      rcases k with k | ⟨b1, el1, fr1, us, rest, k1, k2, k3, k4⟩
      · exact .inl k
      · exact .inr ⟨b1, el1, fr1, us, rest, k1, k2, RL_mono m _ _ k3, k4⟩
    rcases set_cases h with ⟨rfl, rfl⟩ | ⟨_, h⟩
    · exact fin e hid (by rwa [hfg] at hg1) hfc.symm (fun h => by cases e <;> simp_all [Ent.freeze, Ent.even])
    · exact fin e1 h hg1 rfl (fun h => h)
  · rintro x o (hx | ⟨rfl, h1, h2⟩)
    · obtain ⟨k1, k2⟩ := c.imm x o hx
      exact ⟨k1, fun h => k2 (mutb x o h)⟩
    · refine ⟨c.blt id x hb, ?_⟩
      rintro ⟨k, e3, k1, k2, k3, k4⟩
      rcases set_cases k1 with ⟨rfl, rfl⟩ | ⟨hne, h⟩
      · exact k4 (by rw [hfz]; exact ⟨r, by simp, h1, h2⟩)
      · exact hne (c.inj k id x e3 e h k2 hid hl k3 hb)
  · intro gl cs h
    obtain ⟨us, k1, k2⟩ := c.glob gl cs h
    exact ⟨us, GL_mono m k1, k2.mono m.imm⟩
end

section
variable {P : Program} (G : Env P)
/-- The array that a slice is taken of. -/
def arrOf (ti : TI) : Option (Nat × Nat) := match ti.kind with
  | .arr n e => some (n, e)
  | .ptr a => match G.ty a with
    | some ta => match ta.kind with
      | .arr n e => some (n, e)
      | _ => none
    | none => none
  | _ => none
/-- A part of an array of bytes, that is written no more from now on. -/
def aFrz (op : Op) (ev : Operand → AV) (H : Heap) : Option Eff :=
  match op with
  | .slice t x lo hi none => match G.ty t, optI ev lo, optI ev hi, ev x with
    | some ti, some lo', some hi', .ptr id off => match arrOf G ti, H[id]? with
      | some (n, e), some (.blk c f) => match takeL (dropL c off) n, aSl G ti H (.ptr id off) lo' hi', G.ty e with
        | [.b8 m l], some (cc, _), some te => some (.ck ((te.size == 1 && m == n) && f.isEmpty) (.one cc (.vec8 false (sliceL lo' hi' l)) [(id, .blk c [(off + loN lo', off + hiN n hi')])]))
        | _, _, _ => none
      | _, _ => none
    | _, _, _, _ => none
  | _ => none
end
section
variable {P : Program} {G : Env P} {ρ : Rho} {I : Imm} {H : Heap} {w : World}

theorem aSl_arr {ti te : TI} {n e id off : Nat} {lo hi : Option Int} {cc : Bool} {v : AV} (ha : arrOf G ti = some (n, e)) (he : G.ty e = some te) (h : aSl G ti H (.ptr id off) lo hi = some (cc, v)) :
    v = .sl id (off + loN lo * te.size) te.size (hiN n hi - loN lo) ∧ (cc = true → sliceOk lo hi n = true) := by
  unfold arrOf at ha
  unfold aSl at h
  split at ha
  · rename_i n' e' hk
    simp only [Option.some.injEq, Prod.mk.injEq] at ha
    obtain ⟨rfl, rfl⟩ := ha
    rw [hk] at h
    simp only [he] at h
    split at h
    · simp only [Option.some.injEq, Prod.mk.injEq] at h
      obtain ⟨rfl, rfl⟩ := h
      exact ⟨rfl, fun h => by simp only [Bool.and_eq_true] at h; exact h.2⟩
    · simp at h
  · rename_i a hk
    split at ha
    · rename_i ta hta
      split at ha
      · rename_i n' e' hka
        simp only [Option.some.injEq, Prod.mk.injEq] at ha
        obtain ⟨rfl, rfl⟩ := ha
        rw [hk] at h
        simp only [hta, hka, he] at h
        split at h
        · simp only [Option.some.injEq, Prod.mk.injEq] at h
          obtain ⟨rfl, rfl⟩ := h
          exact ⟨rfl, fun h => by simp only [Bool.and_eq_true] at h; exact h.2⟩
        · simp at h
      · simp at ha
    · simp at ha
  · simp at ha

theorem EffOk.of_fin {o : Oper} {e : Operand → Value} {s : Sem Value} (he : ∀ (x : Value) (w' : World), s.run P w = .ok x w' → (execOp e o).run P w = .ok (.value x) w') {v : AV} {u : List (Nat × Ent)}
    (h : ∃ v' w' ρ' I', s.run P w = .ok v' w' ∧ Good ρ I H w ρ' I' (updH H u) w' ∧ Conc G.g ρ' I' (updH H u) w' ∧ Mono ρ I w ρ' I' w' ∧ rel ρ' I' w' v v') : EffOk G ρ I H w ((execOp e o).run P w) v u := by
  obtain ⟨v', w', ρ', I', h1, h2, h3, h4, h5⟩ := h
  exact ⟨v', w', .inl (he _ _ h1), ρ', I', h2, h3, h4, h5⟩

theorem aFrz_sound (c : Conc G.g ρ I H w) (ev : Operand → AV) (e : Operand → Value) (r : ∀ x, rel ρ I w (ev x) (e x)) (o : Oper) (E : Eff) (v : AV) (u : List (Nat × Ent)) (h : aFrz G o.op ev H = some E) (hh : E.has v u) :
    EffOk G ρ I H w ((execOp e o).run P w) v u := by
  unfold aFrz at h
  split at h
  · rename_i t x lo hi hop
    split at h
    · rename_i ti lo' hi' id off hti hlo hhi hx
      split at h
      · rename_i n el cs f harr hid
        split at h
        · rename_i m l cc v0 te hseg hsl hte
          simp only [Option.some.injEq] at h
          subst h
          obtain ⟨h1, h2, rfl, rfl⟩ := hh
          simp only [Bool.and_eq_true, beq_iff_eq, List.isEmpty_iff] at h1
          obtain ⟨⟨h1, rfl⟩, rfl⟩ := h1
          obtain ⟨rfl, hok⟩ := aSl_arr harr hte hsl
          have hok := hok h2
          have b1 := optI_BV (ρ := ρ) (I := I) (w := w) (e := e) r hlo
          have b2 := optI_BV (ρ := ρ) (I := I) (w := w) (e := e) r hhi
          obtain ⟨y, k1, k2⟩ := sl_sound c hti (by have := r x; rwa [hx] at this) b1 b2 hsl h2
          have hp := r x
          rw [hx] at hp
          obtain ⟨b, hb, hxe⟩ := rel_ptr.1 hp
          obtain ⟨b', el', fr, us, q1, q2, q3, q4⟩ := c.blk id cs [] hid
          rw [hb] at q1
          simp only [Option.some.injEq] at q1
          subst q1
          have q5 := RL_take _ _ m (RL_drop _ _ off q3)
          rw [hseg] at q5
          obtain ⟨ys, zs, e1, ⟨e2, e3⟩, e4⟩ := RL_cons.1 q5
          cases e4
          rw [List.append_nil] at e1
          subst e2
          obtain ⟨f1, f2, f3⟩ := freeze_conc c hid rfl rfl hb (off + loN lo', off + hiN m hi')
          refine EffOk.of_fin (fun y w' h => by simp [execOp, hop, h]) (s := Instr.sliceAt t (e x) (lo.map e) (hi.map e) none) ⟨y, w, ρ, _, k1, f1, f2, f3, rel_vec8.2 ?_⟩
          obtain ⟨o1, o2, _, _⟩ := sliceOk_spec hok
          have hl := length_sliceL (l := l) (lo := lo') (hi := hi') (by rw [e3]; exact hok)
          rw [e3] at hl
          rw [h1, Nat.mul_one] at k2
          rw [hl]
          rcases rel_sl.1 k2 with ⟨b2', cap, g1, rfl, g2, g3, g4⟩ | ⟨g1, a, rfl⟩
          · rw [hb] at g1
            simp only [Option.some.injEq] at g1
            subst g1
            refine ⟨_, cap, rfl, g2, by simp, .inr ⟨b, off + loN lo', rfl, g3, fun i z hz => ?_⟩⟩
            have hlen : (v8 (sliceL lo' hi' l)).length = hiN m hi' - loN lo' := by rw [length_v8, hl]
            have hi3 : i < hiN m hi' - loN lo' := by rw [← hlen]; exact (List.getElem?_eq_some_iff.1 hz).1
            refine ⟨?_, .inr ⟨rfl, by simp only []; omega, by simp only []; omega⟩⟩
            rw [cell_of_heap q2]
            have hz2 : (v8 l)[loN lo' + i]? = some z := by
              rw [v8_slice (by rw [e3]; exact hok), Nat.mul_one, Nat.mul_one, List.getElem?_take] at hz
              split at hz
              · rwa [List.getElem?_drop] at hz
              · simp at hz
            rw [← e1, List.getElem?_take] at hz2
            split at hz2
            · rw [List.getElem?_drop] at hz2
              rw [Nat.add_assoc]; exact hz2
            · simp at hz2
          · refine ⟨a, 0, ?_, by omega, by simp, .inl g1⟩
            rw [g1]
        · simp at h
      · simp at h
    · simp at h
  · simp at h

theorem aFrz_congr (op : Op) (ev ev' : Operand → AV) (H H' : Heap) (nid : Nat) (he : ∀ x ∈ op.operands, ev' x = ev x) (hr : ∀ id ∈ readsE ev op nid (slots G op), H'[id]? = H[id]?) : aFrz G op ev' H' = aFrz G op ev H := by
  have opt : ∀ o : Option Operand, (∀ x ∈ o, ev' x = ev x) → optI ev' o = optI ev o := by
    intro o ho
    cases o with
    | none => rfl
    | some x => simp only [optI, ho x rfl]
  cases op with
  | slice t x lo hi mx =>
    cases mx with
    | some m => rfl
    | none =>
      have hx : ev' x = ev x := he x (by simp [Op.operands])
      have hlo := opt lo fun y hy => he y (by simp [Op.operands]; rcases lo with _ | z <;> simp_all)
      have hhi := opt hi fun y hy => he y (by simp [Op.operands]; rcases hi with _ | z <;> simp_all)
      have hs : ∀ id ∈ refId (ev x), H'[id]? = H[id]? := fun id hid => hr id (by simp only [readsE]; exact List.mem_append_left _ (mem_refIds (by simp [Op.operands]) hid))
      simp only [aFrz, hx, hlo, hhi]
      split
      · rename_i ti lo' hi' id off h1 h2 h3 h4
        rw [hs id (by rw [h4]; simp [refId])]
        have := aSl_congr (G := G) (ti := ti) (x := .ptr id off) (lo := lo') (hi := hi') (H := H) (H' := H') (by rw [← h4]; exact hs)
        rw [this]
      · rfl
  | _ => rfl
end
/-- Operations on slices; parts of arrays of bytes are written no more. -/
def ROps.frz {P : Program} (G : Env P) : ROps G where
  f := fun op ev H nid => match aFrz G op ev H with
    | some E => some E
    | none => slOps G op ev H nid
  congr := fun op ev ev' H H' nid he hr => by rw [aFrz_congr op ev ev' H H' nid he hr, slOps_congr op ev ev' H H' nid he hr]
  sound := fun _ _ _ _ c ev e r o nid E v u h hh => by
    split at h
    · rename_i E' hE
      simp only [Option.some.injEq] at h
      subst h
      exact aFrz_sound c ev e r o E' v u hE hh
    · exact slOps_sound c ev e r o nid E v u h hh
end
end Go.V
