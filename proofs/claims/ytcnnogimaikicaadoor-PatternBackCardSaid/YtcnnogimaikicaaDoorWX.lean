/- The abstract layer (third state), part X: bytes and rows that are written no more from the beginning; arguments of calls that are written no more. -/
import Derived.Test.YtcnnogimaikicaaDoorWY

set_option linter.unusedSimpArgs false
set_option linter.unusedVariables false
namespace Go.V
open Go
noncomputable section

section
variable {g : Nat → Option (List AV)} {ρ : Rho} {I : Imm} {H : Heap} {w : World}
/-- A new block of which some is written no more, and that nobody owns. -/
theorem froz_new (c : Conc g ρ I H w) {w' : World} (hsz : w.heap.size ≤ w'.heap.size) (hold : ∀ b, b < w.heap.size → w'.heap[b]? = w.heap[b]?) (J : Imm) (hJ : ∀ b o, J b o → w.heap.size ≤ b ∧ b < w'.heap.size)
    (hos : w'.os = w.os) (htape : w'.tape = w.tape) (hout : w'.output = w.output) :
    Good ρ I H w ρ (fun b o => I b o ∨ J b o) H w' ∧ Conc g ρ (fun b o => I b o ∨ J b o) H w' ∧ Mono ρ I w ρ (fun b o => I b o ∨ J b o) w' := by
  have gd : Good ρ I H w ρ (fun b o => I b o ∨ J b o) H w' :=
    ⟨fun _ _ h => h, fun _ _ _ h => h, Nat.le_refl _, fun _ _ h => .inl h, fun b o hb h => h.elim .inl fun h => by have := (hJ b o h).1; omega, hos, htape, hout, hsz,
      fun b off h _ => by simp only [World.cell?, hold b h], fun b h _ => hold b h, fun b h => by unfold bsz; rw [hold b h], fun _ _ _ h => h, fun _ _ h => h⟩
  have m := c.mono gd fun _ _ h => h
  refine ⟨gd, ⟨c.dom, c.res, fun id b h => by have := c.blt id b h; omega, c.inj, ?_, ?_, ?_, ?_⟩, m⟩
  · intro id cs f h
    obtain ⟨b, el, fr, us, k1, k2, k3, k4⟩ := c.blk id cs f h
    exact ⟨b, el, fr, us, k1, by rw [hold b (c.blt id b k1)]; exact k2, RL_mono m _ _ k3, k4⟩
  · intro id e1 h he
    obtain ⟨q, h'⟩ := c.grow id e1 h he
    refine ⟨q, ?_⟩
    rcases h' with ⟨k1, k2⟩ | ⟨b, el, fr, us, rest, k1, k2, k3, k4⟩
    · exact .inl ⟨k1, k2⟩
    · exact .inr ⟨b, el, fr, us, rest, k1, by rw [hold b (c.blt id b k1)]; exact k2, RL_mono m _ _ k3, k4⟩
  · intro b o hb
    rcases hb with hb | hb
    · obtain ⟨q1, q2⟩ := c.imm b o hb
      exact ⟨by omega, q2⟩
    · obtain ⟨q1, q2⟩ := hJ b o hb
      refine ⟨q2, ?_⟩
      rintro ⟨i, e, _, _, k3, _⟩
      have := c.blt i b k3
      omega
  · intro n cs h
    obtain ⟨vs, k1, k2⟩ := c.glob n cs h
    exact ⟨vs, GL_mono m k1, k2.mono m.imm⟩
end

section
variable {g : Nat → Option (List AV)} {ρ : Rho} {I : Imm} {H : Heap} {w : World}
/-- A cell that is written no more, by its address. -/
theorem frz_ptr (c : Conc g ρ I H w) {id off : Nat} {cs : List AV} {f : List (Nat × Nat)} (hid : H[id]? = some (.blk cs f)) (hf : frzFree f 0 (szL cs) = true) :
    FrzOk g ρ I H w [(id, .blk cs ((0, szL cs) :: f))] fun I' => ∀ v, (∃ b, ρ id = some (some b) ∧ v = .pointer (some ⟨b, off, none⟩)) → ∃ vs, RL ρ I' w cs vs ∧ vpR I' w off vs v := by
  obtain ⟨f1, f2, f3⟩ := freeze_any c hid rfl (0, szL cs) (fun o h1 h2 => frz_out hf o h1 (by simp only [Nat.zero_add]; exact h2)) (fun _ _ h => by simp at h)
  refine ⟨_, f1, f2, f3, ?_⟩
  rintro v ⟨b, h1, rfl⟩
  obtain ⟨b', el, fr, us, g1, g2, g3, g4⟩ := c.blk id cs f hid
  rw [g1] at h1
  simp only [Option.some.injEq] at h1
  subst h1
  refine ⟨us, RL_mono f3 _ _ g3, b', 0, by rw [Nat.zero_add], fun i x hx => ?_⟩
  have hi := (List.getElem?_eq_some_iff.1 hx).1
  rw [RL_len _ _ g3] at hi
  refine ⟨?_, .inr ⟨g1, Nat.zero_le _, by simpa using hi⟩⟩
  rw [Nat.zero_add, cell_of_heap g2]
  exact hx
end

mutual
/-- A value, of which what it points into is written no more: on a condition. -/
def coldA (H : Heap) : AV → Bool × AV × List (Nat × Ent)
  | .sl id off k len => match H[id]? with
    | some (.grow8 l f) => (frzFree f off len && (k == 1 && leB (off + len) l.length), .vec8 false ((l.drop off).take len), [(id, .grow8 l ((off, off + len) :: f))])
    | some (.grow k' rows f) => (frzFree f 0 (len * k) && ((k == k' && off == 0) && len == rows.length), .vec false k rows, [(id, .grow k' rows ((0, len * k) :: f))])
    | _ => (true, .sl id off k len, [])
  | .slv _ k n f => (true, .vecr false k n f, [])
  | .ptr id off => match H[id]? with
    | some (.blk c f) => (frzFree f 0 (szL c), .vp c off, [(id, .blk c ((0, szL c) :: f))])
    | _ => (true, .ptr id off, [])
  | .agg l => match coldL H l with
    | (c, l', u) => (c, .agg l', u)
  | a => (true, a, [])
def coldL (H : Heap) : List AV → Bool × List AV × List (Nat × Ent)
  | [] => (true, [], [])
  | a :: as => match coldA H a with
    | (c, a', u) => match coldL (updH H u) as with
      | (c', as', u') => (c && c', a' :: as', u ++ u')
end

theorem coldA_ag (H : Heap) (a : AV) : isAg (coldA H a).2.1 = isAg a := by
  cases a <;> simp only [coldA] <;> try rfl
  all_goals (split <;> rfl)

section
variable {g : Nat → Option (List AV)} {ρ : Rho} {w : World}
mutual
theorem coldA_sound : ∀ (a : AV) (I : Imm) (H : Heap), Conc g ρ I H w → (coldA H a).1 = true → FrzOk g ρ I H w (coldA H a).2.2 fun I' => ∀ xs, R ρ I w a xs → R ρ I' w (coldA H a).2.1 xs
  | .sl id off k len, I, H, c, hc => by
    unfold coldA at hc ⊢
    split at hc
    · rename_i l f hid
      simp only [Bool.and_eq_true, beq_iff_eq] at hc
      obtain ⟨hfr, rfl, hle⟩ := hc
      simp only [hid]
      obtain ⟨I', f1, f2, f3, f4⟩ := frz_sl8 c hid hfr (leB_iff.1 hle)
      refine ⟨I', f1, f2, f3, ?_⟩
      rintro xs ⟨v, rfl, hv⟩
      exact ⟨v, rfl, f4 v hv⟩
    · rename_i k' rows f hid
      simp only [Bool.and_eq_true, beq_iff_eq] at hc
      obtain ⟨hfr, ⟨rfl, rfl⟩, hle⟩ := hc
      simp only [hid]
      obtain ⟨I', f1, f2, f3, f4⟩ := frz_slr c hid hfr hle
      refine ⟨I', f1, f2, f3, ?_⟩
      rintro xs ⟨v, rfl, hv⟩
      exact ⟨v, rfl, f4 v hv⟩
    · exact FrzOk.none c fun xs h => h
  | .slv id k n f, I, H, c, _ => FrzOk.none c fun xs ⟨v, h0, h1, ⟨vs, h2, h3, h4⟩, _⟩ => ⟨v, h0, h1, vs, h2, h3, h4⟩
  | .ptr id off, I, H, c, hc => by
    unfold coldA at hc ⊢
    split at hc
    · rename_i cs f hid
      simp only [hid]
      obtain ⟨I', f1, f2, f3, f4⟩ := frz_ptr (off := off) c hid hc
      refine ⟨I', f1, f2, f3, ?_⟩
      rintro xs ⟨v, rfl, hv⟩
      exact ⟨v, rfl, f4 v hv⟩
    · exact FrzOk.none c fun xs h => h
  | .agg l, I, H, c, hc => by
    obtain ⟨I', f1, f2, f3, f4⟩ := coldL_sound l I H c hc
    exact ⟨I', f1, f2, f3, fun xs h => f4 xs h⟩
  | .any, I, H, c, _ | .raw _, I, H, c, _ | .int _ _, I, H, c, _ | .u8 _, I, H, c, _ | .u32 _, I, H, c, _ | .u64 _, I, H, c, _ | .bool _, I, H, c, _ | .str _, I, H, c, _ | .b8 _ _, I, H, c, _ | .w32 _ _, I, H, c, _ | .w64 _ _, I, H, c, _ | .n64 _ _, I, H, c, _
  | .pix _ _ _ _, I, H, c, _ | .vec8 _ _, I, H, c, _ | .vec _ _ _, I, H, c, _ | .vecr _ _ _ _, I, H, c, _ | .vp _ _, I, H, c, _ | .vpx _ _ _ _, I, H, c, _ | .fn _ _ _, I, H, c, _ | .tup _, I, H, c, _ => FrzOk.none c fun xs h => h
theorem coldL_sound : ∀ (l : List AV) (I : Imm) (H : Heap), Conc g ρ I H w → (coldL H l).1 = true → FrzOk g ρ I H w (coldL H l).2.2 fun I' => ∀ xs, RL ρ I w l xs → RL ρ I' w (coldL H l).2.1 xs
  | [], I, H, c, _ => FrzOk.none c fun xs h => h
  | a :: as, I, H, c, hc => by
    have hc2 : (coldA H a).1 = true ∧ (coldL (updH H (coldA H a).2.2) as).1 = true := by simpa [coldL] using hc
    obtain ⟨I1, f1, f2, f3, f4⟩ := coldA_sound a I H c hc2.1
    obtain ⟨I2, g1, g2, g3, g4⟩ := coldL_sound as I1 (updH H (coldA H a).2.2) f2 hc2.2
    refine ⟨I2, ?_, ?_, f3.trans' g3, ?_⟩
    · show Good ρ I H w ρ I2 (updH H ((coldA H a).2.2 ++ (coldL (updH H (coldA H a).2.2) as).2.2)) w
      rw [updH_append]; exact f1.trans g1
    · show Conc g ρ I2 (updH H ((coldA H a).2.2 ++ (coldL (updH H (coldA H a).2.2) as).2.2)) w
      rw [updH_append]; exact g2
    · rintro xs ⟨ys, zs, rfl, h1, h2⟩
      exact ⟨ys, zs, rfl, R_mono g3 _ _ (f4 ys h1), g4 zs (RL_mono f3 _ _ h2)⟩
end

theorem coldL_rv : ∀ (l : List AV) (I : Imm) (H : Heap), Conc g ρ I H w → (coldL H l).1 = true → FrzOk g ρ I H w (coldL H l).2.2 fun I' => ∀ vs, RV ρ I w l vs → RV ρ I' w (coldL H l).2.1 vs
  | [], I, H, c, _ => FrzOk.none c fun xs h => h
  | a :: as, I, H, c, hc => by
    have hc2 : (coldA H a).1 = true ∧ (coldL (updH H (coldA H a).2.2) as).1 = true := by simpa [coldL] using hc
    obtain ⟨I1, f1, f2, f3, f4⟩ := coldA_sound a I H c hc2.1
    obtain ⟨I2, g1, g2, g3, g4⟩ := coldL_rv as I1 (updH H (coldA H a).2.2) f2 hc2.2
    refine ⟨I2, ?_, ?_, f3.trans' g3, ?_⟩
    · show Good ρ I H w ρ I2 (updH H ((coldA H a).2.2 ++ (coldL (updH H (coldA H a).2.2) as).2.2)) w
      rw [updH_append]; exact f1.trans g1
    · show Conc g ρ I2 (updH H ((coldA H a).2.2 ++ (coldL (updH H (coldA H a).2.2) as).2.2)) w
      rw [updH_append]; exact g2
    · intro vs h
      obtain ⟨x, xs, rfl, h1, h2⟩ := RV_cons.1 h
      exact RV_cons.2 ⟨x, xs, rfl, rel_mono g3 (rel_of_R (coldA_ag H a) f4 h1), g4 xs (RV_mono f3 _ _ h2)⟩
end

mutual
theorem coldA_congr : ∀ (a : AV) {H H' : Heap}, (∀ id ∈ refD a, H'[id]? = H[id]?) → coldA H' a = coldA H a
  | .sl id off k len, H, H', hr => by
    have := hr id (by simp [refD])
    simp only [coldA, this]
  | .slv id k n f, H, H', _ => rfl
  | .ptr id off, H, H', hr => by
    have := hr id (by simp [refD])
    simp only [coldA, this]
  | .agg l, H, H', hr => by simp only [coldA, coldL_congr l (by simpa [refD] using hr)]
  | .any, _, _, _ | .raw _, _, _, _ | .int _ _, _, _, _ | .u8 _, _, _, _ | .u32 _, _, _, _ | .u64 _, _, _, _ | .bool _, _, _, _ | .str _, _, _, _ | .b8 _ _, _, _, _ | .w32 _ _, _, _, _ | .w64 _ _, _, _, _ | .n64 _ _, _, _, _
  | .pix _ _ _ _, _, _, _ | .vec8 _ _, _, _, _ | .vec _ _ _, _, _, _ | .vecr _ _ _ _, _, _, _ | .vp _ _, _, _, _ | .vpx _ _ _ _, _, _, _ | .fn _ _ _, _, _, _ | .tup _, _, _, _ => rfl
theorem coldL_congr : ∀ (l : List AV) {H H' : Heap}, (∀ id ∈ refDL l, H'[id]? = H[id]?) → coldL H' l = coldL H l
  | [], _, _, _ => rfl
  | a :: as, H, H', hr => by
    have h1 := coldA_congr a fun id h => hr id (by simp [refDL, h])
    have h2 : coldL (updH H' (coldA H a).2.2) as = coldL (updH H (coldA H a).2.2) as := coldL_congr as fun id h => updH_point _ (hr id (by simp [refDL, h]))
    simp only [coldL, h1, h2]
end
mutual
theorem coldA_refs : ∀ (a : AV) (H : Heap) (id : Nat), id ∈ refD (coldA H a).2.1 → id ∈ refD a
  | .sl id off k len, H, x, h => by
    unfold coldA at h
    split at h
    · simp [refD] at h
    · simp [refD] at h
    · exact h
  | .slv id k n f, H, x, h => by simp [coldA, refD] at h
  | .ptr id off, H, x, h => by
    unfold coldA at h
    split at h
    · simp [refD] at h
    · exact h
  | .agg l, H, x, h => by
    simp only [coldA, refD] at h ⊢
    exact coldL_refs l H x h
  | .any, _, _, h | .raw _, _, _, h | .int _ _, _, _, h | .u8 _, _, _, h | .u32 _, _, _, h | .u64 _, _, _, h | .bool _, _, _, h | .str _, _, _, h | .b8 _ _, _, _, h | .w32 _ _, _, _, h | .w64 _ _, _, _, h | .n64 _ _, _, _, h
  | .pix _ _ _ _, _, _, h | .vec8 _ _, _, _, h | .vec _ _ _, _, _, h | .vecr _ _ _ _, _, _, h | .vp _ _, _, _, h | .vpx _ _ _ _, _, _, h | .fn _ _ _, _, _, h | .tup _, _, _, h => h
theorem coldL_refs : ∀ (l : List AV) (H : Heap) (id : Nat), id ∈ refDL (coldL H l).2.1 → id ∈ refDL l
  | [], _, _, h => h
  | a :: as, H, x, h => by
    simp only [coldL, refDL, List.mem_append] at h ⊢
    rcases h with h | h
    · exact .inl (coldA_refs a H x h)
    · exact .inr (coldL_refs as _ x h)
end
theorem mem_refDL {id : Nat} : ∀ {l : List AV}, id ∈ refDL l ↔ ∃ a ∈ l, id ∈ refD a
  | [] => by simp [refDL]
  | a :: as => by simp [refDL, mem_refDL (l := as)]

section
variable {P : Program} (G : Env P)
/-- New rows: what their parts point into is written no more. -/
def coldBuild (op : Op) (ev : Operand → AV) (H : Heap) (nid : Nat) : Option Eff :=
  match op with
  | .buildSlice t len parts => match coldL H (parts.toList.map fun p => ev p.2) with
    | (c, vs, u) => match aBuildS G t len (updH H u) nid ((parts.toList.map fun p => p.1).zip vs) with
      | some E => some (.ck c (E.pre u))
      | none => none
  | _ => none
/-- A text's bytes, that nobody writes. -/
def coldConv (op : Op) (ev : Operand → AV) : Option Eff :=
  match op with
  | .convert s d x => match G.ty s, G.ty d, ev x with
    | some ts, some td, .str l => match ts.kind, td.kind with
      | .string, .slice e => match G.ty e with
        | some te => match te.kind with
          | .int .u8 => some (.ck (te.size == 1) (.one true (.vec8 false l) []))
          | _ => none
        | none => none
      | _, _ => none
    | _, _, _ => none
  | _ => none
end

theorem coldL_len : ∀ (l : List AV) (H : Heap), (coldL H l).2.1.length = l.length
  | [], _ => rfl
  | a :: as, H => by simp only [coldL, List.length_cons, coldL_len as]
section
variable {P : Program} {G : Env P} {ρ : Rho} {I : Imm} {H : Heap} {w : World}
theorem coldBuild_run (c : Conc G.g ρ I H w) {ev : Operand → AV} {e : Operand → Value} (r : ∀ x, rel ρ I w (ev x) (e x)) {t len nid : Nat} {parts : Array (Nat × Operand)} {vs : List AV} {u0 u1 : List (Nat × Ent)} {E : Eff} {v : AV}
    (hf : coldL H (parts.toList.map fun p => ev p.2) = (true, vs, u0)) (hE : aBuildS G t len (updH H u0) nid ((parts.toList.map fun p => p.1).zip vs) = some E) (hh : E.has v u1) :
    ∃ v' w' ρ' I', (Instr.buildSlice t len (parts.map fun p => (p.1, e p.2))).run P w = .ok v' w' ∧ Good ρ I H w ρ' I' (updH H (u0 ++ u1)) w' ∧ Conc G.g ρ' I' (updH H (u0 ++ u1)) w' ∧ Mono ρ I w ρ' I' w' ∧ rel ρ' I' w' v v' := by
  obtain ⟨I1, f1, f2, f3, f4⟩ := coldL_rv (g := G.g) (ρ := ρ) (w := w) (parts.toList.map fun p => ev p.2) I H c (by rw [hf])
  have hlen := coldL_len (parts.toList.map fun p => ev p.2) H
  rw [hf] at f1 f2 f4 hlen
  simp only [List.length_map] at hlen
  have hrv : RV ρ I w (parts.toList.map fun p => ev p.2) (parts.toList.map fun p => e p.2) := by
    refine RV_iff.2 ⟨by simp, fun i a x ha hx => ?_⟩
    rw [List.getElem?_map] at ha hx
    cases hp : parts.toList[i]? with
    | none => simp [hp] at ha
    | some p =>
      simp only [hp, Option.map_some, Option.some.injEq] at ha hx
      subst ha; subst hx
      exact r p.2
  have h2 := f4 _ hrv
  have hvp : (parts.map fun p => (p.1, e p.2)).toList = parts.toList.map fun p => (p.1, e p.2) := by simp
  have hi : ((parts.toList.map fun p => p.1).zip vs).map (·.1) = (parts.map fun p => (p.1, e p.2)).toList.map (·.1) := by
    rw [hvp, List.map_map, List.map_fst_zip (by simp [hlen])]
    rfl
  have hr : RV ρ I1 w (((parts.toList.map fun p => p.1).zip vs).map (·.2)) ((parts.map fun p => (p.1, e p.2)).toList.map (·.2)) := by
    rw [hvp, List.map_map, List.map_snd_zip (by simp [hlen])]
    exact h2
  obtain ⟨v', w', ρ', k1, k2, k3, k4, k5⟩ := aBuildS_sound f2 hi hr hE hh
  refine ⟨v', w', ρ', I1, k1, ?_, ?_, f3.trans' k4, k5⟩
  · rw [updH_append]; exact f1.trans k2
  · rw [updH_append]; exact k3

theorem coldBuild_sound (c : Conc G.g ρ I H w) (ev : Operand → AV) (e : Operand → Value) (r : ∀ x, rel ρ I w (ev x) (e x)) (o : Oper) (nid : Nat) (E : Eff) (v : AV) (u : List (Nat × Ent)) (h : coldBuild G o.op ev H nid = some E) (hh : E.has v u) :
    EffOk G ρ I H w ((execOp e o).run P w) v u := by
  unfold coldBuild at h
  split at h
  · rename_i t len parts hop
    split at h
    rename_i cc vs u0 hf
    split at h
    · rename_i E' hE
      simp only [Option.some.injEq] at h
      subst h
      obtain ⟨hcc, hh⟩ := hh
      subst hcc
      obtain ⟨u1, rfl, hh'⟩ := Eff.pre_has hh
      have key := coldBuild_run (t := t) (len := len) (nid := nid) (parts := parts) c r hf hE hh'
      have run : ∀ (y : Value) (w' : World), (Instr.buildSlice t len (parts.map fun p => (p.1, e p.2))).run P w = .ok y w' → (execOp e o).run P w = .ok (.value y) w' := by
        intro y w' h
        simp only [execOp, hop, Sem.run_bind, h, Result.andThen_ok]
        rfl
      exact EffOk.of_fin run key
    · simp at h
  · simp at h

theorem coldConv_sound (c : Conc G.g ρ I H w) (ev : Operand → AV) (e : Operand → Value) (r : ∀ x, rel ρ I w (ev x) (e x)) (o : Oper) (E : Eff) (v : AV) (u : List (Nat × Ent)) (h : coldConv G o.op ev = some E) (hh : E.has v u) :
    EffOk G ρ I H w ((execOp e o).run P w) v u := by
  unfold coldConv at h
  split at h
  case h_2 => cases h
  rename_i s d x hop
  split at h
  case h_2 => cases h
  rename_i ts td l hts htd hx
  obtain ⟨js, ds, _, s2, _, _, s5, _⟩ := ty_ok hts
  obtain ⟨jd, dd, _, d2, _, _, d5, _⟩ := ty_ok htd
  split at h
  case h_2 => cases h
  rename_i e' hks hkd
  rw [hks] at s5
  rw [hkd] at d5
  obtain rfl := TK.of_string s5
  obtain rfl := TK.of_slice d5
  split at h
  case h_2 => cases h
  rename_i te hte
  obtain ⟨je, de, _, e2, _, _, e5, _⟩ := ty_ok hte
  split at h
  case h_2 => cases h
  rename_i hke
  rw [hke] at e5
  obtain rfl := TK.of_int e5
  simp only [Option.some.injEq] at h
  subst h
  obtain ⟨_, _, rfl, rfl⟩ := hh
  have hv : e x = .string ⟨l.toArray⟩ := by
    have := r x
    rw [hx] at this
    exact rel_str.1 this
  have hrun := Lib.run_convert_string_bytes (P := P) w s d e' ⟨l.toArray⟩ s2 d2 e2
  have hcs : Lib.bytesCells w e' ⟨l.toArray⟩ = (v8 l ++ (Array.replicate (grownCap w l.length 0 e' - l.length) (Value.int .u8 0)).toList).toArray := by
    simp [Lib.bytesCells, v8, ByteArray.size]
  have hnew := Lib.bytesWorld_at_new w e' ⟨l.toArray⟩
  rw [hcs] at hnew
  have hge := grownCap_ge w l.length 0 e'
  have hsz := Lib.bytesWorld_size w e' ⟨l.toArray⟩
  obtain ⟨g1, g2, g3⟩ := froz_new (w' := Lib.bytesWorld w e' ⟨l.toArray⟩) c (by omega) (fun b hb => Lib.bytesWorld_at_old _ _ _ b hb) (fun b o => b = w.heap.size) (fun b o h => by omega) rfl rfl rfl
  refine ⟨.slice (some ⟨w.heap.size, 0, none⟩) l.length (grownCap w l.length 0 e'), _, .inl ?_, ρ, _, g1, g2, g3, rel_vec8.2 ⟨some ⟨w.heap.size, 0, none⟩, grownCap w l.length 0 e', rfl, hge, by simp, .inr ⟨w.heap.size, 0, rfl, by omega, fun i y hy => ⟨?_, .inr rfl⟩⟩⟩⟩
  · simp only [execOp, hop, hv, Sem.run_bind, hrun, Result.andThen_ok]
    simp [ByteArray.size]
  · rw [Nat.zero_add, cell_of_heap hnew, List.getElem?_append_left (List.getElem?_eq_some_iff.1 hy).1]
    exact hy

theorem coldBuild_congr (op : Op) (ev ev' : Operand → AV) (H H' : Heap) (nid : Nat) (he : ∀ x ∈ op.operands, ev' x = ev x) (hr : ∀ id ∈ readsE ev op nid (slots G op), H'[id]? = H[id]?) : coldBuild G op ev' H' nid = coldBuild G op ev H nid := by
  cases op with
  | buildSlice t len parts =>
    have h0 : H'[nid]? = H[nid]? := hr nid (by simp [readsE, slots, upTo])
    have hp : (parts.toList.map fun p => ev' p.2) = parts.toList.map fun p => ev p.2 := by
      apply List.map_congr_left
      intro p hp
      rw [he p.2 (by simp only [Op.operands, List.mem_toArray, List.mem_map]; exact ⟨p, hp, rfl⟩)]
    have hd : ∀ id ∈ refDL (parts.toList.map fun p => ev p.2), H'[id]? = H[id]? := by
      intro id h
      obtain ⟨a, h1, h2⟩ := mem_refDL.1 h
      obtain ⟨p, h3, rfl⟩ := List.mem_map.1 h1
      refine hr id ?_
      simp only [readsE]
      exact List.mem_append_left _ (mem_refIds (x := p.2) (by simp only [Op.operands, List.mem_map]; exact ⟨p, h3, rfl⟩) (refD_sub h2))
    have hz := coldL_congr (parts.toList.map fun p => ev p.2) hd
    have h0' : isRes (updH H' (coldL H (parts.toList.map fun p => ev p.2)).2.2) nid = isRes (updH H (coldL H (parts.toList.map fun p => ev p.2)).2.2) nid := isRes_congr (updH_point _ h0)
    simp only [coldBuild, hp, hz, aBuildS, h0']
  | _ => rfl
theorem coldConv_congr (op : Op) (ev ev' : Operand → AV) (he : ∀ x ∈ op.operands, ev' x = ev x) : coldConv G op ev' = coldConv G op ev := by
  cases op with
  | convert s d x => simp only [coldConv, he x (by simp [Op.operands])]
  | _ => rfl
end

section
variable {P : Program} (G : Env P)
/-- Nothing at all? -/
def nilV : AV → Bool
  | .vec8 _ l => l.isEmpty
  | .vec _ _ l => l.isEmpty
  | _ => false
def isSl : AV → Bool
  | .vec8 _ _ => true
  | .vec _ _ _ => true
  | .vecr _ _ _ _ => true
  | .slv _ _ _ _ => true
  | .sl _ _ _ _ => true
  | _ => false
/-- An append of nothing gives the same slice. -/
def aAppZ (t tx : Nat) (s x : AV) : Option Eff :=
  bif nilV x && isSl s then (match G.ty t, G.ty tx with
  | some ti, some tix => match ti.kind, tix.kind with
    | .slice e, .slice _ => match G.ty e with
      | some _ => some (.one true s [])
      | none => none
    | _, _ => none
  | _, _ => none) else none
def zeroOps (op : Op) (ev : Operand → AV) : Option Eff :=
  match op with
  | .call c => match c.callee with
    | .builtin .append => match c.args.toList, c.argTypes.toList with
      | [s, x], [t, tx] => aAppZ G t tx (ev s) (ev x)
      | _, _ => none
    | _ => none
  | _ => none
end
section
variable {P : Program} {G : Env P} {ρ : Rho} {I : Imm} {H : Heap} {w : World}
theorem isSl_sl {s : AV} (h : isSl s = true) {v : Value} (r : rel ρ I w s v) : ∃ a len cap, v = .slice a len cap ∧ len ≤ cap := by
  cases s <;> simp only [isSl, Bool.false_eq_true] at h
  · obtain h | ⟨h, a, rfl⟩ := rel_sl.1 r
    · obtain ⟨b, cap, _, rfl, h3, _⟩ := h
      exact ⟨_, _, _, rfl, h3⟩
    · exact ⟨_, _, _, rfl, Nat.le_refl _⟩
  · obtain ⟨a, cap, rfl, h2, _⟩ := rel_vec8.1 r
    exact ⟨_, _, _, rfl, h2⟩
  · obtain ⟨_, _, _, a, cap, rfl, h2, _⟩ := rel_vec.1 r
    exact ⟨_, _, _, rfl, h2⟩
  · obtain ⟨_, _, _, _, a, cap, rfl, h2, _⟩ := rel_vecr.1 r
    exact ⟨_, _, _, rfl, h2⟩
  · obtain ⟨_, _, _, _, a, cap, rfl, h2, _⟩ := rel_vecr.1 (rel_slv.1 r).1
    exact ⟨_, _, _, rfl, h2⟩
theorem nilV_nil {x : AV} (h : nilV x = true) {v : Value} (r : rel ρ I w x v) : ∃ a cap, v = .slice a 0 cap := by
  cases x <;> simp only [nilV, Bool.false_eq_true] at h
  · obtain ⟨a, cap, rfl, _⟩ := rel_vec8.1 r
    rw [List.isEmpty_iff.1 h]
    exact ⟨_, _, rfl⟩
  · obtain ⟨_, _, _, a, cap, rfl, _⟩ := rel_vec.1 r
    rw [List.isEmpty_iff.1 h]
    exact ⟨_, _, rfl⟩
theorem aAppZ_sound (c : Conc G.g ρ I H w) {t tx ty : Nat} {s x : AV} {vs vx : Value} (rs : rel ρ I w s vs) (rx : rel ρ I w x vx) {E : Eff} {v : AV} {u : List (Nat × Ent)} (h : aAppZ G t tx s x = some E) (hh : E.has v u) : AppOk' P G.g ρ I H w t tx ty vs vx v u := by
  unfold aAppZ at h
  cases hc : (nilV x && isSl s) with
  | false => rw [hc] at h; simp at h
  | true =>
    rw [hc] at h
    simp only [cond_true] at h
    simp only [Bool.and_eq_true] at hc
    split at h
    · rename_i ti tix hti htix
      obtain ⟨j, d, _, q2, _, _, q5, _⟩ := ty_ok hti
      obtain ⟨jx, dx, _, x2, _, _, x5, _⟩ := ty_ok htix
      split at h
      · rename_i e e' hk hkx
        rw [hk] at q5
        obtain rfl := TK.of_slice q5
        rw [hkx] at x5
        obtain rfl := TK.of_slice x5
        split at h
        · rename_i te hte
          obtain ⟨je, de, e1, _⟩ := ty_ok hte
          simp only [Option.some.injEq] at h
          subst h
          obtain ⟨_, rfl, rfl⟩ := hh
          obtain ⟨a, len, cap, rfl, hle⟩ := isSl_sl hc.2 rs
          obtain ⟨a', cap', rfl⟩ := nilV_nil hc.1 rx
          have hsrc : Src P je.size tx (.slice a' 0 cap') 0 [] w := src_of x2 (by simp) (.inl rfl) (by simp)
          exact ⟨_, w, ρ, I, run_append_zero (ty := ty) q2 e1 hle hsrc, Good.refl _ _ _ _, c, Mono.refl', rs⟩
        · simp at h
      · simp at h
    · simp at h
theorem zeroOps_sound (c : Conc G.g ρ I H w) (ev : Operand → AV) (e : Operand → Value) (r : ∀ x, rel ρ I w (ev x) (e x)) (o : Oper) (E : Eff) (v : AV) (u : List (Nat × Ent)) (h : zeroOps G o.op ev = some E) (hh : E.has v u) :
    EffOk G ρ I H w ((execOp e o).run P w) v u := by
  unfold zeroOps at h
  split at h
  · rename_i cl hop
    split at h
    · rename_i hfo
      split at h
      · rename_i s x t tx ha ht
        have hargs : cl.args.map e = #[e s, e x] := by
          apply Array.toList_inj.1
          simp [ha]
        have hat : cl.argTypes = #[t, tx] := by
          apply Array.toList_inj.1
          simp [ht]
        refine EffOk.of_fin (s := Builtin.append_ #[t, tx] o.type #[e s, e x]) (fun y w' h => ?_) (aAppZ_sound c (r s) (r x) h hh)
        rw [run_call_builtin hop hfo, hargs, hat]
        simp [builtin, h]
      · simp at h
    · simp at h
  · simp at h
theorem zeroOps_congr (op : Op) (ev ev' : Operand → AV) (he : ∀ x ∈ op.operands, ev' x = ev x) : zeroOps G op ev' = zeroOps G op ev := by
  cases op with
  | call c =>
    have hm : ∀ x ∈ c.args.toList, ev' x = ev x := fun x hx =>
      he x (by simp [Op.operands, Call.operands]; right; simpa using hx)
    simp only [zeroOps]
    split
    · split
      · rename_i s x t tx ha ht
        rw [hm s (by rw [ha]; simp), hm x (by rw [ha]; simp)]
      · rfl
    · rfl
  | _ => rfl
end

/-- Operations: bytes of texts, parts of new rows, and arguments of calls are written no more. 'R': the other ones. -/
def ROps.cold {P : Program} {G : Env P} (R : ROps G) : ROps G where
  f := fun op ev H nid => match rowOps G op ev H nid with
    | some E => some E
    | none => match coldConv G op ev with
      | some E => some E
      | none => match coldBuild G op ev H nid with
        | some E => some E
        | none => match R.f op ev H nid with
          | some E => some E
          | none => zeroOps G op ev
  congr := fun op ev ev' H H' nid he hr => by rw [rowOps_congr op ev ev' H H' nid he hr, coldConv_congr op ev ev' he, coldBuild_congr op ev ev' H H' nid he hr, R.congr op ev ev' H H' nid he hr, zeroOps_congr op ev ev' he]
  sound := fun ρ I H w c ev e r o nid E v u h hh => by
    split at h
    · rename_i E' hE
      simp only [Option.some.injEq] at h
      subst h
      exact rowOps_sound c ev e r o nid E' v u hE hh
    · split at h
      · rename_i E' hE
        simp only [Option.some.injEq] at h
        subst h
        exact coldConv_sound c ev e r o E' v u hE hh
      · split at h
        · rename_i E' hE
          simp only [Option.some.injEq] at h
          subst h
          exact coldBuild_sound c ev e r o nid E' v u hE hh
        · split at h
          · rename_i E' hE
            simp only [Option.some.injEq] at h
            subst h
            exact R.sound ρ I H w c ev e r o nid E' v u hE hh
          · exact zeroOps_sound c ev e r o E v u h hh
  pre := fun H args => some (coldL H args)
  preC := fun H H' args h => by
    rw [coldL_congr args fun id hid => by
      obtain ⟨a, h1, h2⟩ := mem_refDL.1 hid
      exact h a h1 id h2]
  preR := fun H args p args' u h a ha id hid => by
    simp only [Option.some.injEq] at h
    have := coldL_refs args H id (by rw [h]; exact mem_refDL.2 ⟨a, ha, refD_of0 hid⟩)
    exact mem_refDL.1 this
  preS := fun ρ I H w c args args' u h => by
    simp only [Option.some.injEq] at h
    obtain ⟨I', f1, f2, f3, f4⟩ := coldL_rv (g := G.g) (ρ := ρ) (w := w) args I H c (by rw [h])
    rw [h] at f1 f2 f4
    exact ⟨I', f1, f2, f3, f4⟩
/-- .. where parts of arrays are owned. -/
def ROps.cold0 {P : Program} (G : Env P) : ROps G := (ROps.std G).cold
/-- .. where they are written no more. -/
def ROps.coldF {P : Program} (G : Env P) : ROps G := (ROps.frz G).cold
end
end Go.V
