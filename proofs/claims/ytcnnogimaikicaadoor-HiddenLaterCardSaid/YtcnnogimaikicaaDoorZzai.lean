import Derived.Test.YtcnnogimaikicaaDoorZzae
import Derived.Test.YtcnnogimaikicaaDoorZzag
import Derived.Test.YtcnnogimaikicaaDoorZzah
import Derived.Test.YtcnnogimaikicaaDoorZzab
set_option linter.unusedSimpArgs false
set_option linter.unusedVariables false
namespace Go.V
open Go
noncomputable section
section
variable {P : Program} {G : Env P}
def Ctr.or (T T' : Ctr G) : Ctr G := ⟨fun f args => match T.C f args with
  | some r => some r
  | none => T'.C f args, fun f args pre out h hp => by
  cases h1 : T.C f args with
  | some r => rw [h1] at h; simp only [Option.some.injEq] at h; subst h; exact T.ok f args pre out h1 hp
  | none => rw [h1] at h; exact T'.ok f args pre out h hp⟩
end
section
variable {P : Program} {G : Env P}
end
def yesF (p : Prop) : Bool := @decide p (Classical.propDecidable p)
def yes : Prop → Bool := (sealed yesF).val
theorem yes_iff {p : Prop} : yes p = true ↔ p := by
 rw [yes, (sealed yesF).property]; unfold yesF; exact @decide_eq_true_iff p (Classical.propDecidable p)
end
noncomputable section
def coldT (H : Heap) : AV → Bool × AV × List (Nat × Ent)
 | .tup l => match coldL H l with
  | (c, l', u) => (c, .tup l', u)
 | a => coldA H a
section
variable {g : Nat → Option (List AV)} {ρ : Rho} {w : World}
theorem coldT_sound (v : AV) (I : Imm) (H : Heap) (c : Conc g ρ I H w) (hc : (coldT H v).1 = true) : FrzOk g ρ I H w (coldT H v).2.2 fun I' => ∀ x, rel ρ I w v x → rel ρ I' w (coldT H v).2.1 x := by
 have other : ∀ a, coldT H a = coldA H a → (coldT H a).1 = true → FrzOk g ρ I H w (coldT H a).2.2 fun I' => ∀ x, rel ρ I w a x → rel ρ I' w (coldT H a).2.1 x := by
  intro a h h1
  rw [h] at h1 ⊢
  obtain ⟨I', f1, f2, f3, f4⟩ := coldA_sound a I H c h1
  exact ⟨I', f1, f2, f3, fun x r => rel_of_R (coldA_ag H a) f4 r⟩
 cases v with
 | tup l =>
  have hc' : (coldL H l).1 = true := hc
  obtain ⟨I', f1, f2, f3, f4⟩ := coldL_rv l I H c hc'
  refine ⟨I', f1, f2, f3, fun x r => ?_⟩
  obtain ⟨cs, h1, h2⟩ := rel_tup.1 r
  exact rel_tup.2 ⟨cs, h1, f4 _ h2⟩
 | _ => exact other _ rfl hc
end
def okOut (out : Out) (v : AV) (H : Heap) : Prop := out.has v H ∨ ∃ v' v'' u, coldT H v = (true, v', u) ∧ leV v' v'' ∧ pureA v'' = true ∧ out.has v'' []
section
variable {P : Program} {G : Env P} {R : ROps G} {T : Ctr G}
theorem HCall.of_walkC (L : FuncId → Nat → LPlan) (n : Nat) {f : FuncId} {args : List AV} {out : Out} (hp : pureL args = true) (ho : out.okB = true) (h : walk G R T.C L n f args (okOut out)) : HCall G f args out := by
 refine ⟨hp, ho, fun ρ I w vs c r => (ACall.of_walk h ρ I w vs c r).mono ?_⟩
 rintro e w' ⟨x, rfl, ρ', I', v, H', gd, c', hr, hh⟩
 rcases hh with hh | ⟨v', v'', u, h1, h2, h3, h4⟩
 ·exact ⟨x, rfl, ρ', I', v, H', gd, c', hr, hh⟩
 ·obtain ⟨I2, f1, f2, f3, f4⟩ := coldT_sound v I' H' c' (by rw [h1])
  rw [h1] at f1 f2 f4
  obtain ⟨c2, g2⟩ := cut_conc f2 0 (fun e he => by simp at he)
  exact ⟨x, rfl, cutR 0 ρ', I2, v'', [], g2 (gd.trans f1) (fun id h => absurd (c.dom id h) (by simp)) (Nat.le_refl _), c2, rel_pure h3 (h2 _ _ _ _ (f4 _ hr)), h4⟩
end
theorem okOut.here {out : Out} {v : AV} {H : Heap} (h : out.has v H) : okOut out v H := .inl h
theorem okOut.ret {v : AV} {H : Heap} : okOut (.ret v H) v H := .inl ⟨rfl, rfl⟩
theorem okOut.le {out : Out} {v v' : AV} {H : Heap} (hv : pureA v = true) (hc : coldT H v = (true, v, [])) (hle : leV v v') (hp : pureA v' = true) (h : out.has v' []) : okOut out v H := .inr ⟨v, v', [], hc, hle, hp, h⟩
theorem okOut.cold {out : Out} {v v' v'' : AV} {H : Heap} {u : List (Nat × Ent)} (hc : coldT H v = (true, v', u)) (hle : leV v' v'') (hp : pureA v'' = true) (h : out.has v'' []) : okOut out v H := .inr ⟨v', v'', u, hc, hle, hp, h⟩
theorem okOut.alt {b : Bool} {x y : Out} {v : AV} {H : Heap} (h1 : b = true → okOut x v H) (h2 : b = false → okOut y v H) : okOut (.alt b x y) v H := by
 cases b with
 | true => exact h1 rfl
 | false => exact h2 rfl
end
theorem leV_rows {full : Bool} {k : Nat} (L : List (List AV)) (f : Nat → List AV) (hf : ∀ i, i < L.length → f i = L.getD i []) (ho : ∀ i, i < L.length → okL (f i) = true) : leV (.vec full k (L.map AV.agg)) (.vecr full k L.length f) := by
 intro ρ I w v h
 obtain ⟨hsz, vs, hr, hv⟩ := rel_vec.1 h
 rw [List.length_map] at hv
 have hlen : vs.length = L.length * k := by
  have : ∀ (rows : List AV) (us : List Value), (∀ a ∈ rows, szA a = k) → RL ρ I w rows us → us.length = rows.length * k := by
   intro rows
   induction rows with
   | nil => intro us _ h; cases h; simp
   | cons a rs ih =>
    intro us hk h
    obtain ⟨ys, zs, rfl, h1, h2⟩ := RL_cons.1 h
    rw [List.length_append, R_len a ys h1, hk a (by simp), ih zs (fun b hb => hk b (by simp [hb])) h2, List.length_cons, Nat.add_mul, Nat.one_mul, Nat.add_comm]
  have := this _ _ hsz hr
  rwa [List.length_map] at this
 refine rel_vecr.2 ⟨ho, vs, hlen, fun i hi => ?_, hv⟩
 obtain ⟨ys, q1, q2, q3, _⟩ := RL_rows hsz hr (i := i) (a := .agg L[i]) (by simp [hi])
 have hy : ys.length = k := by
  have h1 := R_len _ _ q1
  have h2 := hsz (.agg L[i]) (by simp)
  omega
 have he : (vs.drop (i * k)).take k = ys := by
  apply List.ext_getElem?
  intro j
  rw [List.getElem?_take, List.getElem?_drop]
  split
  ·rename_i hj
   rw [List.getElem?_eq_getElem (l := ys) (by omega)]
   exact q3 j _ (List.getElem?_eq_getElem (by omega))
  ·rw [List.getElem?_eq_none (by omega)]
 rw [he, hf i hi, List.getD_eq_getElem?_getD, List.getElem?_eq_getElem hi]
 exact q1
noncomputable section
def okG (v0 v : AV) (H : Heap) : Prop := ∃ v' u, coldT H v = (true, v', u) ∧ leV v' v0
theorem okG.mk {v0 v v' : AV} {H : Heap} {u : List (Nat × Ent)} (h : coldT H v = (true, v', u)) (hle : leV v' v0) : okG v0 v H := ⟨v', u, h, hle⟩
section
variable {P : Program} (G : Env P) (R : ROps G) (C : FuncId → List AV → Option (Bool × Out))
def walkH (L : FuncId → Nat → LPlan) (n : Nat) (f : FuncId) (args : List AV) (H : Heap) (K : AV → Heap → Prop) : Prop :=
 match P.funcs[f]? with
 | some fn => match fn.body with
  | some c => fL (args ++ List.replicate (fn.ntmps - args.length) (.tup [])) fun t => aw3 G R C (cinl G R C L n) (L f) c (aend G fn K) ⟨t, H⟩
  | none => False
 | none => False
end
section
variable {P : Program} {G : Env P} {R : ROps G} {T : Ctr G}
theorem GCall.of_walk (L : FuncId → Nat → LPlan) (d : Nat) {f : FuncId} {k n : Nat} {fr : Nat → List AV} {rest : List AV} {v : AV} (hp : pureL rest = true) (hv : pureA v = true)
  (h : walkH G R T.C L d f (.slv 0 k n fr :: rest) [.tail k n] (okG v)) : GCall G f (.slv 0 k n fr :: rest) v := by
 refine ⟨hv, k, n, fr, rest, rfl, hp, ?_⟩
 unfold walkH at h
 split at h
 ·rename_i fn hf
  split at h
  ·rename_i c hb
   have ha : ACall G f (.slv 0 k n fr :: rest) [.tail k n] (okG v) := body_sound hf hb (aw3_sound (cinl_sound L d) (L f) c (by
    simp only [fL_eq] at h
    exact h))
   intro ρ I w vs hc hr
   refine (ha ρ I w vs hc hr).mono ?_
   rintro e w' ⟨x, rfl, ρ', I', v1, H', g, c', hx, v', u, h1, h2⟩
   obtain ⟨I2, f1, f2, f3, f4⟩ := coldT_sound v1 I' H' c' (by rw [h1])
   rw [h1] at f1 f2 f4
   exact ⟨x, rfl, ρ', I2, v, _, g.trans f1, f2, h2 _ _ _ _ (f4 _ hx), rfl⟩
  ·exact h.elim
 ·exact h.elim
def Ctr.addG (T : Ctr G) (k : Nat) (c : List AV → Option (Bool × AV)) (ok : ∀ args pre v, c args = some (pre, v) → pre = true → GCall G k args v) : Ctr G where
 C := fun f args => bif f == k then (match args with
  | [.tup [], .tup a] => (match c a with
   | some (pre, v) => some (pre, .ret v [])
   | none => none)
  | _ => T.C f args) else T.C f args
 ok := fun f args pre out h hp => by
  cases hb : f == k with
  | true =>
   rw [hb] at h
   have : f = k := by simpa using hb
   subst this
   simp only [cond_true] at h
   split at h
   ·rename_i a
    split at h
    ·rename_i p v hc
     simp only [Option.some.injEq, Prod.mk.injEq] at h
     obtain ⟨rfl, rfl⟩ := h
     exact .inr ⟨v, a, rfl, rfl, ok a _ v hc hp⟩
    ·simp at h
   ·exact T.ok f args pre out h hp
  | false => rw [hb] at h; exact T.ok f args pre out h hp
theorem GCall.rows {f : FuncId} {k n : Nat} {fr gr : Nat → List AV} {rest : List AV} {v : AV} (h : GCall G f (.slv 0 k n gr :: rest) v) (hr : ∀ i, i < n → leR (fr i) (gr i)) : GCall G f (.slv 0 k n fr :: rest) v := by
 obtain ⟨hv, k', n', gr', rest', he, hp, hc⟩ := h
 simp only [List.cons.injEq, AV.slv.injEq, true_and] at he
 obtain ⟨⟨rfl, rfl, rfl⟩, rfl⟩ := he
 refine ⟨hv, k, n, fr, rest, rfl, hp, fun ρ I w vs c r => hc ρ I w vs c ?_⟩
 obtain ⟨x, xs, rfl, k1, k2⟩ := RV_cons.1 r
 obtain ⟨j1, j2⟩ := rel_slv.1 k1
 exact RV_cons.2 ⟨x, xs, rfl, rel_slv.2 ⟨leV_vecr id hr _ _ _ _ j1, j2⟩, k2⟩
end
end
noncomputable section
section
variable {P : Program} (G : Env P)
def litBuild (op : Op) (ev : Operand → AV) : Option Eff :=
 match op with
 | .buildSlice t len parts => match G.ty t with
  | some ti => match ti.kind with
   | .slice e => match G.ty e with
    | some te => match te.zero with
     | some z => match te.kind with
      | .int .i64 => bif len == 0 then none else match afill (aplaceE te.size) (List.replicate len z) (parts.toList.map fun p => (p.1, ev p.2)) with
       | some (c, rows) => some (.ck (elOk te z && (rows.length == len && leB (len * te.size) 16777216)) (.ck (rows.all fun r => szA r == te.size) (.one c (.vec true te.size rows) [])))
       | none => none
      | _ => none
     | none => none
    | none => none
   | _ => none
  | none => none
 | _ => none
end
section
variable {P : Program} {G : Env P} {ρ : Rho} {I : Imm} {H : Heap} {w : World}
theorem litBuild_sound (c : Conc G.g ρ I H w) (ev : Operand → AV) (e : Operand → Value) (r : ∀ x, rel ρ I w (ev x) (e x)) (o : Oper) (E : Eff) (v : AV) (u : List (Nat × Ent)) (h : litBuild G o.op ev = some E) (hh : E.has v u) :
  EffOk G ρ I H w ((execOp e o).run P w) v u := by
 unfold litBuild at h
 split at h
 case h_2 => cases h
 rename_i t len parts hop
 split at h
 case h_2 => cases h
 rename_i ti hti
 obtain ⟨jt, d, _, q2, _, _, q5, _⟩ := ty_ok hti
 split at h
 case h_2 => cases h
 rename_i el hk
 rw [hk] at q5
 obtain rfl := TK.of_slice q5
 split at h
 case h_2 => cases h
 rename_i te hte
 split at h
 case h_2 => cases h
 rename_i z hz
 split at h
 case h_2 => cases h
 cases hl : len == 0 with
 | true => rw [hl] at h; simp at h
 | false =>
  rw [hl] at h
  simp only [cond_false] at h
  split at h
  case h_2 => cases h
  rename_i cc rows hfill
  simp only [Option.some.injEq] at h
  subst h
  obtain ⟨h1, h2, hcc, rfl, rfl⟩ := hh
  simp only [Bool.and_eq_true, beq_iff_eq] at h1
  obtain ⟨hok, hlen, hle⟩ := h1
  have hl0 : len ≠ 0 := by simpa using hl
  obtain ⟨j, zv, hj, hjs, hjb, hb0, hs0, hjz, hzs, hzr, hzR⟩ := el_info hte hz hok
  have hle := leB_iff.1 hle
  have hz0 : RL ρ I w (List.replicate len z) ((Array.range (len * j.size)).map (zv.cells[·% zv.cells.size]!)).toList := by
   rw [← hzs, made_list zv.cells (by omega) len]
   exact RL_replicate (hzR ρ I w) len
  have hi : (parts.toList.map fun p => (p.1, ev p.2)).map (·.1) = (parts.map fun p => (p.1, e p.2)).toList.map (·.1) := by simp
  have hr : RV ρ I w ((parts.toList.map fun p => (p.1, ev p.2)).map (·.2)) ((parts.map fun p => (p.1, e p.2)).toList.map (·.2)) := by
   refine RV_iff.2 ⟨by simp, fun i a x ha hx => ?_⟩
   simp only [List.map_map, Array.toList_map, List.getElem?_map] at ha hx
   cases hp : parts.toList[i]? with
   | none => simp [hp] at ha
   | some p =>
    simp only [hp, Option.map_some, Option.some.injEq] at ha hx
    subst ha; subst hx
    exact r p.2
  obtain ⟨out, o1, o2⟩ := afill_sound (place' := fun i => some (i * j.size, j.size)) hi hr (fun p _ q hq => by simpa [aplaceE, hjs] using hq) hz0 hfill hcc
  have hrun := run_buildSlice (P := P) w t el len (parts.map fun p => (p.1, e p.2)) out j zv q2 hj hjz (by rw [hjs]; omega) (by rw [Nat.mul_eq_zero]; omega) o1
  have hnew := alloc_new w (.cells out el)
  obtain ⟨g1, g2, g3⟩ := froz_new (w' := w.alloc (.cells out el)) c (by simp) (fun b hb => alloc_old w _ hb) (fun b o => b = w.heap.size) (fun b o h => by subst h; simp) rfl rfl rfl
  have hev : ∀ a ∈ rows, szA a = te.size := fun a ha => by
   rw [List.all_eq_true] at h2
   simpa using h2 a ha
  have run : (execOp e o).run P w = .ok (.value (.slice (some ⟨w.heap.size, 0, none⟩) len len)) (w.alloc (.cells out el)) := by
   simp only [execOp, hop, Sem.run_bind, hrun, Result.andThen_ok]
   rfl
  refine ⟨_, _, .inl run, ρ, _, g1, g2, g3, rel_vec.2 ⟨hev, out.toList, RL_mono g3 _ _ o2, some ⟨w.heap.size, 0, none⟩, len, by rw [hlen], by omega, fun _ => by omega, .inr ⟨w.heap.size, 0, rfl, by simp, fun i x hx => ?_⟩⟩⟩
  refine ⟨?_, .inr rfl⟩
  rw [Nat.zero_add, cell_of_heap (by rw [hnew])]
  exact hx
theorem litBuild_congr (op : Op) (ev ev' : Operand → AV) (he : ∀ x ∈ op.operands, ev' x = ev x) : litBuild G op ev' = litBuild G op ev := by
 cases op with
 | buildSlice t len parts =>
  have hp : (parts.toList.map fun p => (p.1, ev' p.2)) = parts.toList.map fun p => (p.1, ev p.2) := by
   apply List.map_congr_left
   intro p hp
   rw [he p.2 (by simp only [Op.operands, List.mem_toArray, List.mem_map]; exact ⟨p, hp, rfl⟩)]
  simp only [litBuild, hp]
 | _ => rfl
end
def ROps.lit {P : Program} {G : Env P} (R : ROps G) : ROps G where
 f := fun op ev H nid => match litBuild G op ev with
  | some E => some E
  | none => match R.f op ev H nid with
   | some E => some E
   | none => zeroOps G op ev
 congr := fun op ev ev' H H' nid he hr => by rw [litBuild_congr op ev ev' he, R.congr op ev ev' H H' nid he hr, zeroOps_congr op ev ev' he]
 sound := fun ρ I H w c ev e r o nid E v u h hh => by
  split at h
  ·rename_i E' hE
   simp only [Option.some.injEq] at h
   subst h
   exact litBuild_sound c ev e r o E' v u hE hh
  ·split at h
   ·rename_i E' hE
    simp only [Option.some.injEq] at h
    subst h
    exact R.sound ρ I H w c ev e r o nid E' v u hE hh
   ·exact zeroOps_sound c ev e r o E v u h hh
 pre := R.pre
 preC := R.preC
 preR := R.preR
 preS := R.preS
mutual
def inA (H : Heap) : AV → Bool × AV × List (Nat × Ent)
 | .vec full k rows => match coldL H rows with
  | (c, rows', u) => (c && rows'.all (fun a => szA a == k), .vec full k rows', u)
 | .agg l => match inL H l with
  | (c, l', u) => (c, .agg l', u)
 | a => (true, a, [])
def inL (H : Heap) : List AV → Bool × List AV × List (Nat × Ent)
 | [] => (true, [], [])
 | a :: as => match inA H a with
  | (c, a', u) => match inL (updH H u) as with
   | (c', as', u') => (c && c', a' :: as', u ++ u')
end
theorem inA_ag (H : Heap) (a : AV) : isAg (inA H a).2.1 = isAg a := by cases a <;> rfl
section
variable {P : Program} {G : Env P} {g : Nat → Option (List AV)} {ρ : Rho} {w : World}
mutual
theorem inA_sound : ∀ (a : AV) (I : Imm) (H : Heap), Conc g ρ I H w → (inA H a).1 = true → FrzOk g ρ I H w (inA H a).2.2 fun I' => ∀ xs, R ρ I w a xs → R ρ I' w (inA H a).2.1 xs
 | .vec full k rows, I, H, c, hc => by
  have hc2 : (coldL H rows).1 = true ∧ ((coldL H rows).2.1.all fun a => szA a == k) = true := by simpa [inA] using hc
  obtain ⟨I', f1, f2, f3, f4⟩ := coldL_sound rows I H c hc2.1
  refine ⟨I', f1, f2, f3, ?_⟩
  rintro xs ⟨v, rfl, h1, vs, h2, h3⟩
  refine ⟨v, rfl, fun a ha => by have := List.all_eq_true.1 hc2.2 a ha; simpa using this, vs, f4 vs h2, ?_⟩
  have := h3.mono f3
  rwa [show (coldL H rows).2.1.length = rows.length from coldL_len rows H]
 | .agg l, I, H, c, hc => by
  obtain ⟨I', f1, f2, f3, f4⟩ := inL_sound l I H c hc
  exact ⟨I', f1, f2, f3, fun xs h => f4 xs h⟩
 | .sl _ _ _ _, I, H, c, _ | .slv _ _ _ _, I, H, c, _ | .ptr _ _, I, H, c, _ | .any, I, H, c, _ | .raw _, I, H, c, _ | .int _ _, I, H, c, _ | .u8 _, I, H, c, _ | .u32 _, I, H, c, _ | .u64 _, I, H, c, _ | .bool _, I, H, c, _ | .str _, I, H, c, _ | .b8 _ _, I, H, c, _ | .w32 _ _, I, H, c, _ | .w64 _ _, I, H, c, _ | .n64 _ _, I, H, c, _
 | .pix _ _ _ _, I, H, c, _ | .vec8 _ _, I, H, c, _ | .vecr _ _ _ _, I, H, c, _ | .vp _ _, I, H, c, _ | .vpx _ _ _ _, I, H, c, _ | .fn _ _ _, I, H, c, _ | .tup _, I, H, c, _ => FrzOk.none c fun xs h => h
theorem inL_sound : ∀ (l : List AV) (I : Imm) (H : Heap), Conc g ρ I H w → (inL H l).1 = true → FrzOk g ρ I H w (inL H l).2.2 fun I' => ∀ xs, RL ρ I w l xs → RL ρ I' w (inL H l).2.1 xs
 | [], I, H, c, _ => FrzOk.none c fun xs h => h
 | a :: as, I, H, c, hc => by
  have hc2 : (inA H a).1 = true ∧ (inL (updH H (inA H a).2.2) as).1 = true := by simpa [inL] using hc
  obtain ⟨I1, f1, f2, f3, f4⟩ := inA_sound a I H c hc2.1
  obtain ⟨I2, g1, g2, g3, g4⟩ := inL_sound as I1 (updH H (inA H a).2.2) f2 hc2.2
  refine ⟨I2, ?_, ?_, f3.trans' g3, ?_⟩
  ·show Good ρ I H w ρ I2 (updH H ((inA H a).2.2 ++ (inL (updH H (inA H a).2.2) as).2.2)) w
   rw [updH_append]; exact f1.trans g1
  ·show Conc g ρ I2 (updH H ((inA H a).2.2 ++ (inL (updH H (inA H a).2.2) as).2.2)) w
   rw [updH_append]; exact g2
  ·rintro xs ⟨ys, zs, rfl, h1, h2⟩
   exact ⟨ys, zs, rfl, R_mono g3 _ _ (f4 ys h1), g4 zs (RL_mono f3 _ _ h2)⟩
end
theorem inL_rv : ∀ (l : List AV) (I : Imm) (H : Heap), Conc g ρ I H w → (inL H l).1 = true → FrzOk g ρ I H w (inL H l).2.2 fun I' => ∀ vs, RV ρ I w l vs → RV ρ I' w (inL H l).2.1 vs
 | [], I, H, c, _ => FrzOk.none c fun xs h => h
 | a :: as, I, H, c, hc => by
  have hc2 : (inA H a).1 = true ∧ (inL (updH H (inA H a).2.2) as).1 = true := by simpa [inL] using hc
  obtain ⟨I1, f1, f2, f3, f4⟩ := inA_sound a I H c hc2.1
  obtain ⟨I2, g1, g2, g3, g4⟩ := inL_rv as I1 (updH H (inA H a).2.2) f2 hc2.2
  refine ⟨I2, ?_, ?_, f3.trans' g3, ?_⟩
  ·show Good ρ I H w ρ I2 (updH H ((inA H a).2.2 ++ (inL (updH H (inA H a).2.2) as).2.2)) w
   rw [updH_append]; exact f1.trans g1
  ·show Conc g ρ I2 (updH H ((inA H a).2.2 ++ (inL (updH H (inA H a).2.2) as).2.2)) w
   rw [updH_append]; exact g2
  ·intro vs h
   obtain ⟨x, xs, rfl, h1, h2⟩ := RV_cons.1 h
   exact RV_cons.2 ⟨x, xs, rfl, rel_mono g3 (rel_of_R (inA_ag H a) f4 h1), g4 xs (RV_mono f3 _ _ h2)⟩
end
def inT (H : Heap) : AV → Bool × AV × List (Nat × Ent)
 | .tup l => match inL H l with
  | (c, l', u) => (c, .tup l', u)
 | a => inA H a
def deepT (H : Heap) (v : AV) : Bool × AV × List (Nat × Ent) := match coldT H v with
 | (c1, v1, u1) => match inT (updH H u1) v1 with
  | (c2, v2, u2) => (c1 && c2, v2, u1 ++ u2)
section
variable {g : Nat → Option (List AV)} {ρ : Rho} {w : World}
theorem inT_sound (v : AV) (I : Imm) (H : Heap) (c : Conc g ρ I H w) (hc : (inT H v).1 = true) : FrzOk g ρ I H w (inT H v).2.2 fun I' => ∀ x, rel ρ I w v x → rel ρ I' w (inT H v).2.1 x := by
 have other : ∀ a, inT H a = inA H a → (inT H a).1 = true → FrzOk g ρ I H w (inT H a).2.2 fun I' => ∀ x, rel ρ I w a x → rel ρ I' w (inT H a).2.1 x := by
  intro a h h1
  rw [h] at h1 ⊢
  obtain ⟨I', f1, f2, f3, f4⟩ := inA_sound a I H c h1
  exact ⟨I', f1, f2, f3, fun x r => rel_of_R (inA_ag H a) f4 r⟩
 cases v with
 | tup l =>
  have hc' : (inL H l).1 = true := hc
  obtain ⟨I', f1, f2, f3, f4⟩ := inL_rv l I H c hc'
  refine ⟨I', f1, f2, f3, fun x r => ?_⟩
  obtain ⟨cs, h1, h2⟩ := rel_tup.1 r
  exact rel_tup.2 ⟨cs, h1, f4 _ h2⟩
 | _ => exact other _ rfl hc
theorem deepT_sound (v : AV) (I : Imm) (H : Heap) (c : Conc g ρ I H w) (hc : (deepT H v).1 = true) : FrzOk g ρ I H w (deepT H v).2.2 fun I' => ∀ x, rel ρ I w v x → rel ρ I' w (deepT H v).2.1 x := by
 have hc2 : (coldT H v).1 = true ∧ (inT (updH H (coldT H v).2.2) (coldT H v).2.1).1 = true := by simpa [deepT] using hc
 obtain ⟨I1, f1, f2, f3, f4⟩ := coldT_sound v I H c hc2.1
 obtain ⟨I2, g1, g2, g3, g4⟩ := inT_sound (coldT H v).2.1 I1 (updH H (coldT H v).2.2) f2 hc2.2
 refine ⟨I2, ?_, ?_, f3.trans' g3, fun x r => g4 x (f4 x r)⟩
 ·show Good ρ I H w ρ I2 (updH H ((coldT H v).2.2 ++ (inT (updH H (coldT H v).2.2) (coldT H v).2.1).2.2)) w
  rw [updH_append]; exact f1.trans g1
 ·show Conc g ρ I2 (updH H ((coldT H v).2.2 ++ (inT (updH H (coldT H v).2.2) (coldT H v).2.1).2.2)) w
  rw [updH_append]; exact g2
end
def leafB (q : AV → Bool) (v : AV) (H : Heap) : Prop := (deepT H v).1 = true ∧ q (deepT H v).2.1 = true
def wAll {α : Type} (W : α → Prop) : List α → Prop
 | [] => True
 | a :: r => W a ∧ wAll W r
def tAll {α : Type} : List α → Prop
 | [] => True
 | _ :: r => (true = true ∧ true = true) ∧ tAll r
theorem tAll_ok {α : Type} : ∀ l : List α, tAll l
 | [] => trivial
 | _ :: r => ⟨⟨rfl, rfl⟩, tAll_ok r⟩
theorem wAll_mem {α : Type} {W : α → Prop} : ∀ {l : List α}, wAll W l → ∀ a ∈ l, W a
 | _ :: _, h, a, ha => by
  rcases List.mem_cons.1 ha with rfl | ha
  ·exact h.1
  ·exact wAll_mem h.2 a ha
theorem wAll_of {α : Type} {W : α → Prop} {l : List α} (h : wAll W l = tAll l) : ∀ a ∈ l, W a := wAll_mem (h.symm ▸ tAll_ok l)
section
variable {P : Program} {G : Env P} {R : ROps G} {T : Ctr G}
theorem ACall.of_walkH {L : FuncId → Nat → LPlan} {n : Nat} {f : FuncId} {args : List AV} {H : Heap} {K : AV → Heap → Prop} (h : walkH G R T.C L n f args H K) : ACall G f args H K := by
 unfold walkH at h
 split at h
 ·rename_i fn hf
  split at h
  ·rename_i c hb
   exact body_sound hf hb (aw3_sound (cinl_sound L n) (L f) c (by
    simp only [fL_eq] at h
    exact h))
  ·exact h.elim
 ·exact h.elim
theorem HCall.of_walkB (L : FuncId → Nat → LPlan) (n : Nat) {f : FuncId} {args : List AV} {q : AV → Bool} {w0 : AV} (hp : pureL args = true) (h : walkH G R T.C L n f args [] (leafB q)) (hq : ∀ x, q x = true → leV x w0) (hw : pureA w0 = true) :
  HCall G f args (.ret w0 []) := by
 refine ⟨hp, by simp [Out.okB, refsA_pure _ hw], fun ρ I w vs c r => (ACall.of_walkH h ρ I w vs c r).mono ?_⟩
 rintro e w' ⟨x, rfl, ρ', I', v, H', gd, c', hr, h1, h2⟩
 obtain ⟨I2, f1, f2, f3, f4⟩ := deepT_sound v I' H' c' h1
 obtain ⟨c2, g2⟩ := cut_conc f2 0 (fun e he => by simp at he)
 exact ⟨x, rfl, cutR 0 ρ', I2, w0, [], g2 (gd.trans f1) (fun id h => absurd (c.dom id h) (by simp)) (Nat.le_refl _), c2, rel_pure hw (hq _ h2 _ _ _ _ (f4 _ hr)), ⟨rfl, rfl⟩⟩
end
end
end Go.V
namespace Go.Tm
open Go Go.V
inductive Tm where
 | mk (kind id other : Int) (args : List Tm)
 deriving Inhabited
namespace Tm
def kind : Tm → Int | .mk k _ _ _ => k
def id : Tm → Int | .mk _ i _ _ => i
def other : Tm → Int | .mk _ _ o _ => o
def args : Tm → List Tm | .mk _ _ _ a => a
end Tm
def tm0 : Tm := .mk 0 0 0 []
mutual
def tmC : Tm → List AV
 | .mk k i o as => [.int .i64 k, .int .i64 i, .int .i64 o, .vecr false 4 as.length (tmL as)]
def tmL : List Tm → Nat → List AV
 | [], _ => []
 | a :: _, 0 => tmC a
 | _ :: as, n + 1 => tmL as n
end
noncomputable def tmG : List Tm → Nat → List AV := (sealed tmL).val
theorem tmG_eq : tmG = tmL := by rw [tmG, (sealed tmL).property]
noncomputable def tmK (t : Tm) : List AV := [.int .i64 t.kind, .int .i64 t.id, .int .i64 t.other, .vecr false 4 t.args.length (tmG t.args)]
noncomputable def tmF (as : List Tm) (i : Nat) : List AV := [.int .i64 (as.getD i tm0).kind, .int .i64 (as.getD i tm0).id, .int .i64 (as.getD i tm0).other, .vecr false 4 (as.getD i tm0).args.length (tmG (as.getD i tm0).args)]
theorem tmK_eq (t : Tm) : tmK t = tmC t := by cases t; rw [tmK, tmG_eq, tmC]; rfl
theorem tmF_eq (as : List Tm) (i : Nat) : tmF as i = tmK (as.getD i tm0) := rfl
theorem tmL_get : ∀ {as : List Tm} {i : Nat}, i < as.length → tmL as i = tmK (as.getD i tm0)
 | a :: as, 0, _ => by rw [tmL, ← tmK_eq]; rfl
 | a :: as, n + 1, h => by
  rw [tmL, tmL_get (as := as) (i := n) (by simpa using h)]; rfl
theorem tmG_get {as : List Tm} {i : Nat} (h : i < as.length) : tmG as i = tmF as i := by rw [tmG_eq, tmL_get h]; rfl
mutual
def rdA : AV → List Tm
 | .vecr _ _ n f => (List.range n).map fun i => rdL (f i)
 | .vec _ _ l => rdR l
 | _ => []
def rdL : List AV → Tm
 | [] => tm0
 | a :: l => rd1 (rdI a) l
def rd1 (k : Int) : List AV → Tm
 | [] => tm0
 | a :: l => rd2 k (rdI a) l
def rd2 (k i : Int) : List AV → Tm
 | [] => tm0
 | a :: l => rd3 k i (rdI a) l
def rd3 (k i o : Int) : List AV → Tm
 | [] => tm0
 | a :: _ => .mk k i o (rdA a)
def rdI : AV → Int
 | .int _ k => k
 | _ => 0
def rdR : List AV → List Tm
 | [] => []
 | a :: l => rdG a :: rdR l
def rdG : AV → Tm
 | .agg cs => rdL cs
 | _ => tm0
end
end Go.Tm
namespace Go.Tm
open Go Go.V
mutual
def okT : AV → Bool
 | .vecr _ k n f => k == 4 && (leB n 1000 && (List.range n).all fun i => okC (f i))
 | .vec _ k l => k == 4 && (leB l.length 1000 && okR l)
 | .vec8 b l => b && l.isEmpty
 | _ => false
def okC : List AV → Bool
 | [] => false
 | a :: l => okI a && okC1 l
def okC1 : List AV → Bool
 | [] => false
 | a :: l => okI a && okC2 l
def okC2 : List AV → Bool
 | [] => false
 | a :: l => okI a && okC3 l
def okC3 : List AV → Bool
 | [] => false
 | a :: l => okT a && okE l
def okE : List AV → Bool
 | [] => true
 | _ :: _ => false
def okI : AV → Bool
 | .int .i64 _ => true
 | _ => false
def okR : List AV → Bool
 | [] => true
 | a :: l => okG1 a && okR l
def okG1 : AV → Bool
 | .agg cs => okC cs
 | _ => false
end
theorem okI_eq {a : AV} (h : okI a = true) : a = .int .i64 (rdI a) := by
 cases a with
 | int k n => cases k <;> first | rfl | simp [okI] at h
 | _ => simp [okI] at h
theorem okL_tmK (t : Tm) : okL (tmK t) = true := rfl
theorem leR_leV {a b : AV} {as bs : List AV} (ha : isAg a = false) (ha2 : a ≠ .any) (ha3 : szA a = 1) (hb : isAg b = false) (hb2 : b ≠ .any) (hok : okL [b] = true) (h : leV a b) (hr : leR as bs) : leR (a :: as) (b :: bs) := by
 refine leR.mk ?_ fun ρ I w vs r => ?_
 ·have h1 := okL_pure hr.ok; have h2 := okL_one hr.ok
  have h3 := okL_pure hok; have h4 := okL_one hok
  simp only [pureL, oneL, Bool.and_true] at h3 h4
  simp only [okL, pureL, oneL, h1, h2, h3, h4, Bool.and_self]
 ·obtain ⟨ys, zs, rfl, q, r2⟩ := RL_cons.1 r
  have hl := R_len a ys q
  rw [ha3] at hl
  obtain ⟨v, rfl⟩ : ∃ v, ys = [v] := by
   cases ys with
   | nil => simp at hl
   | cons v t => cases t with
    | nil => exact ⟨v, rfl⟩
    | cons _ _ => simp at hl
  have h1 : rel ρ I w a v := (valOf_ag ha2).2 (by rw [ha]; exact q)
  have h2 := (valOf_ag hb2).1 (h ρ I w v h1)
  rw [hb] at h2
  exact RL_cons.2 ⟨[v], zs, rfl, h2, hr.rl _ _ _ _ r2⟩
theorem okT_ag {x : AV} (h : okT x = true) : isAg x = false ∧ x ≠ .any ∧ szA x = 1 := by
 cases x <;> first | (simp [okT] at h; done) | exact ⟨rfl, nofun, rfl⟩
mutual
theorem okT_pure : ∀ (x : AV), okT x = true → pureA x = true
 | .vecr b k n f, h => rfl
 | .vec b k l, h => by
  simp only [okT, Bool.and_eq_true] at h
  exact okR_pure l h.2.2
 | .vec8 b l, h => rfl
 | .any, h => by simp [okT] at h
 | .raw _, h => by simp [okT] at h
 | .int _ _, h => by simp [okT] at h
 | .u8 _, h => by simp [okT] at h
 | .u32 _, h => by simp [okT] at h
 | .u64 _, h => by simp [okT] at h
 | .bool _, h => by simp [okT] at h
 | .str _, h => by simp [okT] at h
 | .b8 _ _, h => by simp [okT] at h
 | .w32 _ _, h => by simp [okT] at h
 | .w64 _ _, h => by simp [okT] at h
 | .n64 _ _, h => by simp [okT] at h
 | .ptr _ _, h => by simp [okT] at h
 | .pix _ _ _ _, h => by simp [okT] at h
 | .sl _ _ _ _, h => by simp [okT] at h
 | .slv _ _ _ _, h => by simp [okT] at h
 | .vp _ _, h => by simp [okT] at h
 | .vpx _ _ _ _, h => by simp [okT] at h
 | .fn _ _ _, h => by simp [okT] at h
 | .agg _, h => by simp [okT] at h
 | .tup _, h => by simp [okT] at h
theorem okC_ok : ∀ (cs : List AV), okC cs = true → okL cs = true
 | [a, b, c, x], h => by
  simp only [okC, okC1, okC2, okC3, Bool.and_eq_true] at h
  obtain ⟨h1, h2, h3, h4, h5⟩ := h
  rw [okI_eq h1, okI_eq h2, okI_eq h3]
  have hp := okT_pure x h4
  have ho : oneA x = true := by cases x <;> first | rfl | simp [okT] at h4
  simp [okL, pureL, pureA, oneL, oneA, hp, ho]
 | [], h => by simp [okC] at h
 | [_], h => by simp [okC, okC1] at h
 | [_, _], h => by simp [okC, okC1, okC2] at h
 | [_, _, _], h => by simp [okC, okC1, okC2, okC3] at h
 | _ :: _ :: _ :: _ :: _ :: _, h => by simp [okC, okC1, okC2, okC3, okE] at h
theorem okR_pure : ∀ (l : List AV), okR l = true → pureL l = true
 | [], _ => rfl
 | a :: l, h => by
  simp only [okR, Bool.and_eq_true] at h
  have h2 := okR_pure l h.2
  have h1 := okG_pure a h.1
  simp [pureL, h1, h2]
theorem okG_pure : ∀ (a : AV), okG1 a = true → pureA a = true
 | .agg cs, h => by
  have := okC_ok cs (by simpa [okG1] using h)
  simpa [pureA] using okL_pure this
 | .vecr _ _ _ _, h => by simp [okG1] at h
 | .vec _ _ _, h => by simp [okG1] at h
 | .vec8 _ _, h => by simp [okG1] at h
 | .any, h => by simp [okG1] at h
 | .raw _, h => by simp [okG1] at h
 | .int _ _, h => by simp [okG1] at h
 | .u8 _, h => by simp [okG1] at h
 | .u32 _, h => by simp [okG1] at h
 | .u64 _, h => by simp [okG1] at h
 | .bool _, h => by simp [okG1] at h
 | .str _, h => by simp [okG1] at h
 | .b8 _ _, h => by simp [okG1] at h
 | .w32 _ _, h => by simp [okG1] at h
 | .w64 _ _, h => by simp [okG1] at h
 | .n64 _ _, h => by simp [okG1] at h
 | .ptr _ _, h => by simp [okG1] at h
 | .pix _ _ _ _, h => by simp [okG1] at h
 | .sl _ _ _ _, h => by simp [okG1] at h
 | .slv _ _ _ _, h => by simp [okG1] at h
 | .vp _ _, h => by simp [okG1] at h
 | .vpx _ _ _ _, h => by simp [okG1] at h
 | .fn _ _ _, h => by simp [okG1] at h
 | .tup _, h => by simp [okG1] at h
end
mutual
theorem okT_le : ∀ (x : AV), okT x = true → leV x (.vecr false 4 (rdA x).length (tmF (rdA x)))
 | .vecr b k n f, h => by
  simp only [okT, Bool.and_eq_true, beq_iff_eq, List.all_eq_true] at h
  obtain ⟨rfl, _, h⟩ := h
  have hl : (rdA (.vecr b 4 n f)).length = n := by rw [rdA, List.length_map, List.length_range]
  rw [hl]
  refine leV_vecr (by simp) fun i hi => ?_
  have hg : (rdA (.vecr b 4 n f)).getD i tm0 = rdL (f i) := by
   rw [rdA, List.getD_eq_getElem?_getD, List.getElem?_map, List.getElem?_range hi]; rfl
  rw [tmF_eq, hg]
  exact okC_le (f i) (h i (List.mem_range.2 hi))
 | .vec b k l, h => by
  simp only [okT, Bool.and_eq_true, beq_iff_eq] at h
  obtain ⟨rfl, _, h⟩ := h
  obtain ⟨L, rfl, h1, h2⟩ := okR_all l h
  have e : rdA (.vec b 4 (L.map AV.agg)) = L.map rdL := by rw [rdA]; exact h1
  rw [e, List.length_map]
  intro ρ I w v r
  refine leV_vecr (f := fun i => L.getD i []) (full := false) (full' := b) (by simp) (fun i hi => ?_) _ _ _ _ (leV_rows L (fun i => L.getD i []) (fun _ _ => rfl) (fun i hi => ?_) _ _ _ _ r)
  ·rw [tmF_eq, List.getD_eq_getElem?_getD, List.getD_eq_getElem?_getD, List.getElem?_map, List.getElem?_eq_getElem hi]
   exact (h2 _ (List.getElem_mem hi)).2
  ·rw [List.getD_eq_getElem?_getD, List.getElem?_eq_getElem hi]
   exact (h2 _ (List.getElem_mem hi)).1
 | .vec8 b l, h => by
  simp only [okT, Bool.and_eq_true] at h
  have e : rdA (.vec8 b l) = [] := by simp [rdA]
  rw [e]
  exact leV_nil (by cases b <;> simp_all [nilS])
 | .any, h => by simp [okT] at h
 | .raw _, h => by simp [okT] at h
 | .int _ _, h => by simp [okT] at h
 | .u8 _, h => by simp [okT] at h
 | .u32 _, h => by simp [okT] at h
 | .u64 _, h => by simp [okT] at h
 | .bool _, h => by simp [okT] at h
 | .str _, h => by simp [okT] at h
 | .b8 _ _, h => by simp [okT] at h
 | .w32 _ _, h => by simp [okT] at h
 | .w64 _ _, h => by simp [okT] at h
 | .n64 _ _, h => by simp [okT] at h
 | .ptr _ _, h => by simp [okT] at h
 | .pix _ _ _ _, h => by simp [okT] at h
 | .sl _ _ _ _, h => by simp [okT] at h
 | .slv _ _ _ _, h => by simp [okT] at h
 | .vp _ _, h => by simp [okT] at h
 | .vpx _ _ _ _, h => by simp [okT] at h
 | .fn _ _ _, h => by simp [okT] at h
 | .agg _, h => by simp [okT] at h
 | .tup _, h => by simp [okT] at h
theorem okC_le : ∀ (cs : List AV), okC cs = true → leR cs (tmK (rdL cs))
 | [a, b, c, x], h => by
  simp only [okC, okC1, okC2, okC3, Bool.and_eq_true] at h
  obtain ⟨h1, h2, h3, h4, h5⟩ := h
  rw [okI_eq h1, okI_eq h2, okI_eq h3]
  obtain ⟨q1, q2, q3⟩ := okT_ag h4
  have hx := okT_le x h4
  have e : tmK (rdL [.int .i64 (rdI a), .int .i64 (rdI b), .int .i64 (rdI c), x]) = [.int .i64 (rdI a), .int .i64 (rdI b), .int .i64 (rdI c), .vecr false 4 (rdA x).length (tmG (rdA x))] := rfl
  rw [e]
  refine leR_same rfl (leR_same rfl (leR_same rfl (leR_leV q1 q2 q3 rfl (by simp) rfl (fun ρ I w v r => ?_) leR_end)))
  exact leV_vecr (f := tmF (rdA x)) (by simp) (fun i hi => by rw [tmG_get hi]; exact leR.refl (okL_tmK _)) _ _ _ _ (hx _ _ _ _ r)
 | [], h => by simp [okC] at h
 | [_], h => by simp [okC, okC1] at h
 | [_, _], h => by simp [okC, okC1, okC2] at h
 | [_, _, _], h => by simp [okC, okC1, okC2, okC3] at h
 | _ :: _ :: _ :: _ :: _ :: _, h => by simp [okC, okC1, okC2, okC3, okE] at h
theorem okR_all : ∀ (l : List AV), okR l = true → ∃ L : List (List AV), l = L.map AV.agg ∧ rdR l = L.map rdL ∧ ∀ cs ∈ L, okL cs = true ∧ leR cs (tmK (rdL cs))
 | [], _ => ⟨[], rfl, by rw [rdR]; rfl, fun _ h => absurd h (by simp)⟩
 | .agg cs :: l, h => by
  simp only [okR, okG1, Bool.and_eq_true] at h
  obtain ⟨L, h1, h2, h3⟩ := okR_all l h.2
  have k1 := okC_ok cs h.1
  have k2 := okC_le cs h.1
  refine ⟨cs :: L, by rw [h1]; rfl, by rw [rdR, h2, rdG]; rfl, ?_⟩
  intro c hc
  rcases List.mem_cons.1 hc with hc | hc
  ·rw [hc]; exact ⟨k1, k2⟩
  ·exact h3 c hc
 | .vecr _ _ _ _ :: _, h => by simp [okR, okG1] at h
 | .vec _ _ _ :: _, h => by simp [okR, okG1] at h
 | .vec8 _ _ :: _, h => by simp [okR, okG1] at h
 | .any :: _, h => by simp [okR, okG1] at h
 | .raw _ :: _, h => by simp [okR, okG1] at h
 | .int _ _ :: _, h => by simp [okR, okG1] at h
 | .u8 _ :: _, h => by simp [okR, okG1] at h
 | .u32 _ :: _, h => by simp [okR, okG1] at h
 | .u64 _ :: _, h => by simp [okR, okG1] at h
 | .bool _ :: _, h => by simp [okR, okG1] at h
 | .str _ :: _, h => by simp [okR, okG1] at h
 | .b8 _ _ :: _, h => by simp [okR, okG1] at h
 | .w32 _ _ :: _, h => by simp [okR, okG1] at h
 | .w64 _ _ :: _, h => by simp [okR, okG1] at h
 | .n64 _ _ :: _, h => by simp [okR, okG1] at h
 | .ptr _ _ :: _, h => by simp [okR, okG1] at h
 | .pix _ _ _ _ :: _, h => by simp [okR, okG1] at h
 | .sl _ _ _ _ :: _, h => by simp [okR, okG1] at h
 | .slv _ _ _ _ :: _, h => by simp [okR, okG1] at h
 | .vp _ _ :: _, h => by simp [okR, okG1] at h
 | .vpx _ _ _ _ :: _, h => by simp [okR, okG1] at h
 | .fn _ _ _ :: _, h => by simp [okR, okG1] at h
 | .tup _ :: _, h => by simp [okR, okG1] at h
end
mutual
def smT : Tm → Bool
 | .mk _ _ _ es => leB es.length 1000 && smL es
def smL : List Tm → Bool
 | [] => true
 | a :: es => smT a && smL es
end
theorem smL_iff {es : List Tm} : smL es = true ↔ ∀ t ∈ es, smT t = true := by
 induction es with
 | nil => simp [smL]
 | cons a es ih => simp [smL, ih]
theorem smT_iff {t : Tm} : smT t = true ↔ t.args.length ≤ 1000 ∧ smL t.args = true := by
 cases t; simp [smT, Tm.args, leB_iff]
mutual
theorem okC_tmC : ∀ t : Tm, smT t = true → okC (tmC t) = true
 | .mk k i o es, h => by
  simp only [smT, Bool.and_eq_true] at h
  simp only [tmC, okC, okC1, okC2, okC3, okE, okI, okT, beq_self_eq_true, Bool.true_and, Bool.and_true, Bool.and_eq_true, List.all_eq_true, List.mem_range]
  exact ⟨h.1, okC_tmL es h.2⟩
theorem okC_tmL : ∀ (es : List Tm), smL es = true → ∀ (i : Nat), i < es.length → okC (tmL es i) = true
 | a :: es, h, 0, _ => by
  simp only [smL, Bool.and_eq_true] at h
  rw [tmL]; exact okC_tmC a h.1
 | a :: es, h, n + 1, hn => by
  simp only [smL, Bool.and_eq_true] at h
  rw [tmL]; exact okC_tmL es h.2 n (by simpa using hn)
end
mutual
theorem sm_okT : ∀ x : AV, okT x = true → (rdA x).length ≤ 1000 ∧ smL (rdA x) = true
 | .vecr b k n f, h => by
  simp only [okT, Bool.and_eq_true, List.all_eq_true, List.mem_range] at h
  obtain ⟨_, h1, h2⟩ := h
  refine ⟨by rw [rdA, List.length_map, List.length_range]; exact leB_iff.1 h1, ?_⟩
  rw [rdA, smL_iff]
  intro t ht
  obtain ⟨i, hi, rfl⟩ := List.mem_map.1 ht
  exact sm_okC (f i) (h2 i (List.mem_range.1 hi))
 | .vec b k l, h => by
  simp only [okT, Bool.and_eq_true] at h
  obtain ⟨_, h1, h2⟩ := h
  have := sm_okR l h2
  rw [rdA]
  exact ⟨by rw [this.1]; exact leB_iff.1 h1, this.2⟩
 | .vec8 b l, h => by
  have e : rdA (.vec8 b l) = [] := by simp [rdA]
  rw [e]; exact ⟨by simp, rfl⟩
 | .any, h => by simp [okT] at h
 | .raw _, h => by simp [okT] at h
 | .int _ _, h => by simp [okT] at h
 | .u8 _, h => by simp [okT] at h
 | .u32 _, h => by simp [okT] at h
 | .u64 _, h => by simp [okT] at h
 | .bool _, h => by simp [okT] at h
 | .str _, h => by simp [okT] at h
 | .b8 _ _, h => by simp [okT] at h
 | .w32 _ _, h => by simp [okT] at h
 | .w64 _ _, h => by simp [okT] at h
 | .n64 _ _, h => by simp [okT] at h
 | .ptr _ _, h => by simp [okT] at h
 | .pix _ _ _ _, h => by simp [okT] at h
 | .sl _ _ _ _, h => by simp [okT] at h
 | .slv _ _ _ _, h => by simp [okT] at h
 | .vp _ _, h => by simp [okT] at h
 | .vpx _ _ _ _, h => by simp [okT] at h
 | .fn _ _ _, h => by simp [okT] at h
 | .agg _, h => by simp [okT] at h
 | .tup _, h => by simp [okT] at h
theorem sm_okC : ∀ cs : List AV, okC cs = true → smT (rdL cs) = true
 | [a, b, c, x], h => by
  simp only [okC, okC1, okC2, okC3, Bool.and_eq_true] at h
  obtain ⟨_, _, _, h4, _⟩ := h
  have := sm_okT x h4
  simp only [rdL, rd1, rd2, rd3, smT, leB_of this.1, this.2, Bool.and_self]
 | [], h => by simp [okC] at h
 | [_], h => by simp [okC, okC1] at h
 | [_, _], h => by simp [okC, okC1, okC2] at h
 | [_, _, _], h => by simp [okC, okC1, okC2, okC3] at h
 | _ :: _ :: _ :: _ :: _ :: _, h => by simp [okC, okC1, okC2, okC3, okE] at h
theorem sm_okR : ∀ l : List AV, okR l = true → (rdR l).length = l.length ∧ smL (rdR l) = true
 | [], _ => by rw [rdR]; exact ⟨rfl, rfl⟩
 | a :: l, h => by
  simp only [okR, Bool.and_eq_true] at h
  have h2 := sm_okR l h.2
  have h1 := sm_okG a h.1
  rw [rdR]
  simp only [List.length_cons, h2.1, smL, h1, h2.2, Bool.and_self, and_self]
theorem sm_okG : ∀ a : AV, okG1 a = true → smT (rdG a) = true
 | .agg cs, h => by
  rw [rdG]; exact sm_okC cs (by simpa [okG1] using h)
 | .vecr _ _ _ _, h => by simp [okG1] at h
 | .vec _ _ _, h => by simp [okG1] at h
 | .vec8 _ _, h => by simp [okG1] at h
 | .any, h => by simp [okG1] at h
 | .raw _, h => by simp [okG1] at h
 | .int _ _, h => by simp [okG1] at h
 | .u8 _, h => by simp [okG1] at h
 | .u32 _, h => by simp [okG1] at h
 | .u64 _, h => by simp [okG1] at h
 | .bool _, h => by simp [okG1] at h
 | .str _, h => by simp [okG1] at h
 | .b8 _ _, h => by simp [okG1] at h
 | .w32 _ _, h => by simp [okG1] at h
 | .w64 _ _, h => by simp [okG1] at h
 | .n64 _ _, h => by simp [okG1] at h
 | .ptr _ _, h => by simp [okG1] at h
 | .pix _ _ _ _, h => by simp [okG1] at h
 | .sl _ _ _ _, h => by simp [okG1] at h
 | .slv _ _ _ _, h => by simp [okG1] at h
 | .vp _ _, h => by simp [okG1] at h
 | .vpx _ _ _ _, h => by simp [okG1] at h
 | .fn _ _ _, h => by simp [okG1] at h
 | .tup _, h => by simp [okG1] at h
end
theorem map_range {α β : Type} (f : α → β) (d : α) (l : List α) (g : Nat → β) (h : ∀ i, i < l.length → g i = f (l.getD i d)) : (List.range l.length).map g = l.map f := by
 apply List.ext_getElem
 ·simp
 ·intro i h1 h2
  have hi : i < l.length := by simpa using h2
  rw [List.getElem_map, List.getElem_range, List.getElem_map, h i hi, List.getD_eq_getElem?_getD, List.getElem?_eq_getElem hi, Option.getD_some]
mutual
theorem rdL_tmC : ∀ t : Tm, rdL (tmC t) = t
 | .mk k i o as => by
  simp only [tmC, rdL, rd1, rd2, rd3, rdI, rdA]
  congr 1
  have := map_range (fun x => x) tm0 as (fun i => rdL (tmL as i)) fun i hi => rdL_tmL as i hi
  rw [this, List.map_id']
theorem rdL_tmL : ∀ (as : List Tm) (i : Nat), i < as.length → rdL (tmL as i) = as.getD i tm0
 | a :: as, 0, _ => by rw [tmL]; exact rdL_tmC a
 | a :: as, n + 1, h => by rw [tmL, rdL_tmL as n (by simpa using h)]; rfl
end
noncomputable def okCS : List AV → Bool := (sealed okC).val
theorem okCS_eq : okCS = okC := by rw [okCS, (sealed okC).property]
noncomputable def rdCS : List AV → Tm := (sealed rdL).val
theorem rdCS_eq : rdCS = rdL := by rw [rdCS, (sealed rdL).property]
noncomputable def okTS : AV → Bool := (sealed okT).val
theorem okTS_eq : okTS = okT := by rw [okTS, (sealed okT).property]
noncomputable def rdTS : AV → List Tm := (sealed rdA).val
theorem rdTS_eq : rdTS = rdA := by rw [rdTS, (sealed rdA).property]
noncomputable def tmK1 (t : Tm) : List AV := [.int .i64 t.kind, .int .i64 t.id, .int .i64 t.other, .vecr false 4 t.args.length (tmF t.args)]
theorem leR_K1 (t : Tm) : leR (tmK t) (tmK1 t) :=
 leR_same rfl (leR_same rfl (leR_same rfl (leR_vecr (c := 0) (by simp) (fun i hi => by rw [tmG_get hi]; exact leR.refl (okL_tmK _)) leR_end)))
theorem leR_K (t : Tm) : leR (tmK1 t) (tmK t) :=
 leR_same rfl (leR_same rfl (leR_same rfl (leR_vecr (c := 0) (by simp) (fun i hi => by rw [tmG_get hi]; exact leR.refl (okL_tmK _)) leR_end)))
theorem okCS_K {t : Tm} (h : smT t = true) : okCS (tmK t) = true := by rw [okCS_eq, tmK_eq]; exact okC_tmC t h
theorem rdCS_K (t : Tm) : rdCS (tmK t) = t := by rw [rdCS_eq, tmK_eq]; exact rdL_tmC t
theorem okT_rows {b : Bool} {n : Nat} {f : Nat → List AV} (hn : n ≤ 1000) (h : ∀ i, i < n → okC (f i) = true) : okT (.vecr b 4 n f) = true := by
 simp only [okT, beq_self_eq_true, Bool.true_and, Bool.and_eq_true, List.all_eq_true, List.mem_range]; exact ⟨leB_of hn, h⟩
theorem rdT_rows {b : Bool} {n : Nat} {f : Nat → List AV} (es : List Tm) (hn : n = es.length) (h : ∀ i, i < n → rdL (f i) = es.getD i tm0) : rdA (.vecr b 4 n f) = es := by
 subst hn
 rw [rdA, map_range (fun x => x) tm0 es _ h, List.map_id']
theorem okC_K {t : Tm} (h : smT t = true) : okC (tmK t) = true := by rw [tmK_eq]; exact okC_tmC t h
theorem rdL_K (t : Tm) : rdL (tmK t) = t := by rw [tmK_eq]; exact rdL_tmC t
theorem sm_get {es : List Tm} (h : smL es = true) {i : Nat} (hi : i < es.length) : smT (es.getD i tm0) = true := by
 rw [List.getD_eq_getElem?_getD, List.getElem?_eq_getElem hi]; exact smL_iff.1 h _ (List.getElem_mem hi)
theorem okTS_F {b : Bool} {es : List Tm} (hn : es.length ≤ 1000) (h : smL es = true) : okTS (.vecr b 4 es.length (tmF es)) = true := by
 rw [okTS_eq]; exact okT_rows hn fun i hi => okC_K (sm_get h hi)
theorem rdTS_F {b : Bool} (es : List Tm) : rdTS (.vecr b 4 es.length (tmF es)) = es := by
 rw [rdTS_eq]; exact rdT_rows es rfl fun i _ => rdL_K _
theorem okCS_F {es : List Tm} {i : Nat} (h : smT (es.getD i tm0) = true) : okCS [.int .i64 (es.getD i tm0).kind, .int .i64 (es.getD i tm0).id, .int .i64 (es.getD i tm0).other, .vecr false 4 (es.getD i tm0).args.length (tmG (es.getD i tm0).args)] = true := okCS_K h
theorem rdCS_F (es : List Tm) (i : Nat) : rdCS [.int .i64 (es.getD i tm0).kind, .int .i64 (es.getD i tm0).id, .int .i64 (es.getD i tm0).other, .vecr false 4 (es.getD i tm0).args.length (tmG (es.getD i tm0).args)] = es.getD i tm0 := rdCS_K _
theorem okCS_K1 {t : Tm} (h : smT t = true) : okCS [.int .i64 t.kind, .int .i64 t.id, .int .i64 t.other, .vecr false 4 t.args.length (tmF t.args)] = true := by
 rw [okCS_eq]
 obtain ⟨h1, h2⟩ := smT_iff.1 h
 have := okTS_F (b := false) h1 h2
 rw [okTS_eq] at this
 simp only [okC, okC1, okC2, okC3, okE, okI, this, Bool.and_self]
theorem rdCS_K1 (t : Tm) : rdCS [.int .i64 t.kind, .int .i64 t.id, .int .i64 t.other, .vecr false 4 t.args.length (tmF t.args)] = t := by
 rw [rdCS_eq]
 show Tm.mk t.kind t.id t.other (rdA _) = t
 have := rdTS_F (b := false) t.args
 rw [rdTS_eq] at this
 rw [this]; cases t; rfl
theorem sm_cs {cs : List AV} (h : okCS cs = true) : smT (rdCS cs) = true := by
 rw [okCS_eq] at h; rw [rdCS_eq]; exact sm_okC cs h
theorem sm_ts {x : AV} (h : okTS x = true) : (rdTS x).length ≤ 1000 ∧ smL (rdTS x) = true := by
 rw [okTS_eq] at h; rw [rdTS_eq]; exact sm_okT x h
theorem arg_K1 {cs : List AV} (h : okCS cs = true) : leV (.agg cs) (.agg (tmK1 (rdCS cs))) := by
 rw [okCS_eq] at h
 rw [rdCS_eq]
 exact leV_agg ((okC_le cs h).trans (leR_K1 _))
theorem arg_F {x : AV} (h : okTS x = true) : leV x (.vecr false 4 (rdTS x).length (tmF (rdTS x))) := by
 rw [okTS_eq] at h
 rw [rdTS_eq]
 exact okT_le x h
theorem cs_pure {cs : List AV} (h : okCS cs = true) : pureL cs = true := by
 rw [okCS_eq] at h; exact okL_pure (okC_ok cs h)
theorem ts_pure {x : AV} (h : okTS x = true) : pureA x = true := by
 rw [okTS_eq] at h; exact okT_pure x h
mutual
def sizeT : Tm → Int → Int
 | .mk _ _ _ as, d => bif ltI 40 d then 301 else sizeL as (d + 1) 1
def sizeL : List Tm → Int → Int → Int
 | [], _, n => n
 | a :: as, d, n => bif ltI 300 n then n else sizeL as d (n + sizeT a d)
end
noncomputable def sizeS : Tm → Int → Int := (sealed sizeT).val
theorem sizeS_eq : sizeS = sizeT := by rw [sizeS, (sealed sizeT).property]
def argsN (k : Int) : Nat := if k = 4 then 2 else if k = 5 then 1 else if k = 6 then 2 else if k = 7 then 3 else 0
def okF (k i o : Int) (n : Nat) : Bool := (n == argsN k) && (decide (0 ≤ i) && (decide (0 ≤ o) && (if k = 3 then decide (i ≤ o) else if k = 1 ∨ k = 2 ∨ k = 6 then o == 0 else wr .i64 (i + o) == 0)))
mutual
def formT : Tm → Int
 | .mk k i o as => if k < 1 ∨ 7 < k then 2 else bif okF k i o as.length then formL as else 3
def formL : List Tm → Int
 | [] => 0
 | a :: as => if formT a = 0 then formL as else formT a
end
noncomputable def formS : Tm → Int := (sealed formT).val
theorem formS_eq : formS = formT := by rw [formS, (sealed formT).property]
def atomT (n : Int) : Tm := .mk 1 n 0 []
def pubT (n : Int) : Tm := .mk 2 n 0 []
noncomputable def hasT (B : List Tm) (t : Tm) : Bool := yes (t ∈ B)
noncomputable def pubK (B : List Tm) (n : Int) : Bool := hasT B (atomT n) || hasT B (pubT n)
mutual
noncomputable def makesT (B : List Tm) : Tm → Bool
 | .mk k i o as => hasT B (.mk k i o as) || (if k = 1 then false else if k = 2 then hasT B (atomT i) else if k = 3 then (hasT B (atomT i) && pubK B o) || (hasT B (atomT o) && pubK B i) else makesL B as)
noncomputable def makesL (B : List Tm) : List Tm → Bool
 | [] => true
 | a :: as => makesT B a && makesL B as
end
noncomputable def makesS : List Tm → Tm → Bool := (sealed makesT).val
theorem makesS_eq : makesS = makesT := by rw [makesS, (sealed makesT).property]
noncomputable def openT (B : List Tm) (t : Tm) : List Tm := if t.kind = 4 then t.args else if t.kind = 7 ∧ makesT B (t.args.getD 0 tm0) = true then t.args.drop 2 else []
noncomputable def openS : List Tm → Tm → List Tm := (sealed openT).val
theorem openS_eq : openS = openT := by rw [openS, (sealed openT).property]
theorem getD_mem {as : List Tm} {i : Nat} (h : i < as.length) : as.getD i tm0 ∈ as := by
 rw [List.getD_eq_getElem?_getD, List.getElem?_eq_getElem h]; exact List.getElem_mem h
theorem drop_cons {as : List Tm} {i : Nat} (h : i < as.length) : as.drop i = as.getD i tm0 :: as.drop (i + 1) := by
 rw [List.getD_eq_getElem?_getD, List.getElem?_eq_getElem h]; exact List.drop_eq_getElem_cons h
mutual
def tmSz : Tm → Nat
 | .mk _ _ _ es => 1 + tmSzL es
def tmSzL : List Tm → Nat
 | [] => 0
 | a :: es => tmSz a + tmSzL es
end
theorem tmSz_pos (t : Tm) : 0 < tmSz t := by cases t; rw [tmSz]; omega
theorem tmSzL_mem {es : List Tm} {u : Tm} (h : u ∈ es) : tmSz u ≤ tmSzL es := by
 induction es with
 | nil => simp at h
 | cons a es ih =>
  rw [tmSzL]
  rcases List.mem_cons.1 h with rfl | h
  ·omega
  ·have := ih h; omega
theorem tmSz_arg {t u : Tm} (h : u ∈ t.args) : tmSz u < tmSz t := by
 cases t with
 | mk k i o es => have := tmSzL_mem (show u ∈ es from h); rw [tmSz]; omega
theorem tm_eta (t : Tm) : t = .mk t.kind t.id t.other t.args := by cases t; rfl
mutual
theorem sizeT_bd : ∀ (t : Tm) (d : Int), 0 < d → d < 42 → 0 < sizeT t d ∧ sizeT t d ≤ 301 + 300 * (41 - d)
 | .mk k i o as, d, h1, h2 => by
  rw [sizeT]
  cases h : ltI 40 d with
  | true => exact ⟨by show (0 : Int) < 301; decide, by show (301 : Int) ≤ _; omega⟩
  | false =>
   have h3 : ¬ 40 < d := fun e => by rw [(ltI_iff _ _).2 e] at h; cases h
   have := sizeL_bd as (d + 1) 1 (by omega) (by omega) (by omega) (by omega)
   rw [cond_false]
   omega
theorem sizeL_bd : ∀ (as : List Tm) (d n : Int), 0 < d → d < 42 → 0 < n → n ≤ 601 + 300 * (41 - d) → 0 < sizeL as d n ∧ sizeL as d n ≤ 601 + 300 * (41 - d)
 | [], d, n, _, _, h3, h4 => by rw [sizeL]; exact ⟨h3, h4⟩
 | a :: as, d, n, h1, h2, h3, h4 => by
  rw [sizeL]
  cases h : ltI 300 n with
  | true => exact ⟨h3, h4⟩
  | false =>
   have h5 : ¬ 300 < n := fun e => by rw [(ltI_iff _ _).2 e] at h; cases h
   have hb := sizeT_bd a d h1 h2
   rw [cond_false]
   exact sizeL_bd as d _ h1 h2 (by omega) (by omega)
end
theorem yes_of {p : Prop} (h : p) : yes p = true := yes_iff.2 h
theorem yes_no {p : Prop} (h : ¬ p) : yes p = false := by
 cases hb : yes p with
 | false => rfl
 | true => exact absurd (yes_iff.1 hb) h
def szsL : List Tm → Int → Bool
 | [], _ => false
 | a :: l, n => bif ltI 300 (n + sizeT a 1) then true else szsL l (n + sizeT a 1)
def faultT (l : List Tm) : Int := bif szsL l 0 then 1 else formL l
noncomputable def faultS : List Tm → Int := (sealed faultT).val
theorem faultS_eq : faultS = faultT := by rw [faultS, (sealed faultT).property]
def checkT (t : Tm) : Int := bif ltI 300 (sizeT t 1) then 1 else formT t
noncomputable def checkS : Tm → Int := (sealed checkT).val
theorem checkS_eq : checkS = checkT := by rw [checkS, (sealed checkT).property]
noncomputable def nextT (B : List Tm) : Option Tm := (B.flatMap (openT B)).find? fun x => !(yes (x ∈ B))
noncomputable def fullF : Nat → List Tm → List Tm
 | 0, B => B
 | k + 1, B => match nextT B with
  | none => B
  | some x => fullF k (B ++ [x])
noncomputable def fullT (B : List Tm) : List Tm := fullF (tmSzL B) B
noncomputable def fullS : List Tm → List Tm := (sealed fullT).val
theorem fullS_eq : fullS = fullT := by rw [fullS, (sealed fullT).property]
def okB (B : List Tm) : Prop := smL B = true ∧ ∀ t ∈ B, formT t = 0
def FullInv (B0 B : List Tm) (k : Nat) : Prop := B.length + k ≤ 1000 ∧ okB B ∧ nextT (fullF k B) = none ∧ fullF k B = fullT B0
def fullOk (B : List Tm) : Prop := B.length + tmSzL B ≤ 1000 ∧ okB B
mutual
def subs : Tm → List Tm
 | .mk k i o es => .mk k i o es :: subsL es
def subsL : List Tm → List Tm
 | [] => []
 | a :: es => subs a ++ subsL es
end
mutual
theorem subs_len : ∀ t : Tm, (subs t).length = tmSz t
 | .mk k i o es => by rw [subs, List.length_cons, subsL_len es, tmSz]; omega
theorem subsL_len : ∀ es : List Tm, (subsL es).length = tmSzL es
 | [] => by rw [subsL, tmSzL]; rfl
 | a :: es => by rw [subsL, List.length_append, subs_len a, subsL_len es, tmSzL]
end
theorem subs_self (t : Tm) : t ∈ subs t := by cases t; rw [subs]; exact List.mem_cons_self ..
theorem mem_subsL {es : List Tm} {t : Tm} (h : t ∈ es) : t ∈ subsL es := by
 induction es with
 | nil => simp at h
 | cons a es ih =>
  rw [subsL, List.mem_append]
  rcases List.mem_cons.1 h with rfl | h
  ·exact .inl (subs_self _)
  ·exact .inr (ih h)
mutual
theorem subs_arg : ∀ (s t a : Tm), t ∈ subs s → a ∈ t.args → a ∈ subs s
 | .mk k i o es, t, a, h, ha => by
  rw [subs] at h ⊢
  rcases List.mem_cons.1 h with rfl | h
  ·exact List.mem_cons_of_mem _ (mem_subsL ha)
  ·exact List.mem_cons_of_mem _ (subsL_arg es t a h ha)
theorem subsL_arg : ∀ (es : List Tm) (t a : Tm), t ∈ subsL es → a ∈ t.args → a ∈ subsL es
 | [], t, a, h, _ => by rw [subsL] at h; simp at h
 | s :: es, t, a, h, ha => by
  rw [subsL, List.mem_append] at h ⊢
  rcases h with h | h
  ·exact .inl (subs_arg s t a h ha)
  ·exact .inr (subsL_arg es t a h ha)
end
theorem open_arg {B : List Tm} {t x : Tm} (h : x ∈ openT B t) : x ∈ t.args := by
 unfold openT at h
 split at h
 ·exact h
 ·split at h
  ·exact List.mem_of_mem_drop h
  ·simp at h
theorem nextT_iff {B : List Tm} {x : Tm} (h : nextT B = some x) : x ∉ B ∧ ∃ t ∈ B, x ∈ openT B t := by
 unfold nextT at h
 have h1 := List.find?_some h
 have h2 := List.mem_of_find?_eq_some h
 obtain ⟨t, h3, h4⟩ := List.mem_flatMap.1 h2
 exact ⟨fun e => by rw [yes_of e] at h1; simp at h1, t, h3, h4⟩
theorem nextT_none {B : List Tm} : nextT B = none ↔ ∀ t ∈ B, ∀ x ∈ openT B t, x ∈ B := by
 unfold nextT
 rw [List.find?_eq_none]
 constructor
 ·intro h t ht x hx
  have := h x (List.mem_flatMap.2 ⟨t, ht, hx⟩)
  exact yes_iff.1 (by simpa using this)
 ·intro h x hx
  obtain ⟨t, ht, hx⟩ := List.mem_flatMap.1 hx
  rw [yes_of (h t ht x hx)]; simp
theorem find_at {α : Type} {p : α → Bool} {l r : List α} {x : α} (hl : ∀ y ∈ l, p y = false) (hx : p x = true) : (l ++ x :: r).find? p = some x := by
 rw [List.find?_append]
 have : l.find? p = none := List.find?_eq_none.2 fun y hy => by rw [hl y hy]; simp
 rw [this, List.find?_cons, hx]; rfl
theorem nextT_at {B : List Tm} {i j : Nat} (hi : i < B.length) (hj : j < (openT B (B.getD i tm0)).length) (h1 : ∀ k, k < i → ∀ x, x ∈ openT B (B.getD k tm0) → x ∈ B) (h2 : ∀ k, k < j → (openT B (B.getD i tm0)).getD k tm0 ∈ B)
  (h3 : (openT B (B.getD i tm0)).getD j tm0 ∉ B) : nextT B = some ((openT B (B.getD i tm0)).getD j tm0) := by
 generalize hL : openT B (B.getD i tm0) = L at *
 have eB : B = B.take i ++ B.getD i tm0 :: B.drop (i + 1) := by
  conv => lhs; rw [← List.take_append_drop i B, drop_cons hi]
 have eL : L = L.take j ++ L.getD j tm0 :: L.drop (j + 1) := by
  conv => lhs; rw [← List.take_append_drop j L, drop_cons hj]
 have e : B.flatMap (openT B) = ((B.take i).flatMap (openT B) ++ L.take j) ++ L.getD j tm0 :: (L.drop (j + 1) ++ (B.drop (i + 1)).flatMap (openT B)) := by
  conv => lhs; arg 2; rw [eB]
  rw [List.flatMap_append, List.flatMap_cons, hL]
  conv => lhs; arg 2; arg 1; rw [eL]
  simp only [List.append_assoc, List.cons_append]
 unfold nextT
 rw [e]
 refine find_at (fun y hy => ?_) ?_
 ·have hy2 : y ∈ B := by
   rcases List.mem_append.1 hy with hy | hy
   ·obtain ⟨t, ht, hy⟩ := List.mem_flatMap.1 hy
    obtain ⟨k, hk, rfl⟩ := List.getElem_of_mem ht
    rw [List.length_take] at hk
    have hk' : k < i := by omega
    refine h1 k hk' y ?_
    rw [List.getD_eq_getElem?_getD, List.getElem?_eq_getElem (by omega), Option.getD_some]
    rwa [List.getElem_take] at hy
   ·obtain ⟨k, hk, rfl⟩ := List.getElem_of_mem hy
    rw [List.length_take] at hk
    have := h2 k (by omega)
    rw [List.getD_eq_getElem?_getD, List.getElem?_eq_getElem (by omega), Option.getD_some] at this
    rwa [List.getElem_take]
  rw [yes_of hy2]; rfl
 ·rw [yes_no h3]; rfl
theorem filter_lt {α : Type} {p q : α → Bool} (h : ∀ x, q x = true → p x = true) : ∀ {U : List α} {x : α}, x ∈ U → p x = true → q x = false → (U.filter q).length < (U.filter p).length
 | a :: U, x, hx, hp, hq => by
  have le : (U.filter q).length ≤ (U.filter p).length := by
   clear hx hp hq
   induction U with
   | nil => simp
   | cons b U ih =>
    rw [List.filter_cons, List.filter_cons]
    cases h1 : q b with
    | true => rw [h b h1]; simpa using ih
    | false => cases p b <;> simp <;> omega
  rw [List.filter_cons, List.filter_cons]
  rcases List.mem_cons.1 hx with rfl | hx
  ·rw [hp, hq]; simp; omega
  ·have ih := filter_lt h hx hp hq
   cases h1 : q a with
   | true => rw [h a h1]; simpa using ih
   | false => cases p a <;> simp <;> omega
theorem full_end {U : List Tm} (hU : ∀ t a, t ∈ U → a ∈ t.args → a ∈ U) : ∀ (k : Nat) (B : List Tm), (∀ t ∈ B, t ∈ U) → (U.filter fun u => !(yes (u ∈ B))).length ≤ k → nextT (fullF k B) = none := by
 intro k
 induction k with
 | zero =>
  intro B hB hk
  rw [fullF]
  cases hn : nextT B with
  | none => rfl
  | some x =>
   obtain ⟨h1, t, h2, h3⟩ := nextT_iff hn
   have hx := hU t x (hB t h2) (open_arg h3)
   have : x ∈ U.filter fun u => !(yes (u ∈ B)) := List.mem_filter.2 ⟨hx, by rw [yes_no h1]; rfl⟩
   have := List.length_pos_of_mem this
   omega
 | succ k ih =>
  intro B hB hk
  rw [fullF]
  cases hn : nextT B with
  | none => exact hn
  | some x =>
   obtain ⟨h1, t, h2, h3⟩ := nextT_iff hn
   have hx := hU t x (hB t h2) (open_arg h3)
   refine ih _ (fun u hu => ?_) ?_
   ·rcases List.mem_append.1 hu with hu | hu
    ·exact hB u hu
    ·rw [List.mem_singleton] at hu; rw [hu]; exact hx
   ·have := filter_lt (p := fun u => !(yes (u ∈ B))) (q := fun u => !(yes (u ∈ B ++ [x]))) (fun u hu => by
     have hu : u ∉ B ++ [x] := fun e => by rw [yes_of e] at hu; simp at hu
     rw [yes_no fun e => hu (List.mem_append_left _ e)]; rfl) hx (by rw [yes_no h1]; rfl) (by rw [yes_of (List.mem_append_right _ (List.mem_singleton.2 rfl))]; rfl)
    omega
theorem full_start {B : List Tm} (h : fullOk B) : FullInv B B (tmSzL B) := by
 refine ⟨h.1, h.2, ?_, rfl⟩
 refine full_end (U := subsL B) (fun t a => subsL_arg B t a) _ _ (fun t ht => mem_subsL ht) ?_
 rw [← subsL_len]
 exact List.length_filter_le _ _
theorem formL_mem {es : List Tm} (h : formL es = 0) : ∀ a ∈ es, formT a = 0 := by
 induction es with
 | nil => intro a ha; simp at ha
 | cons b es ih =>
  rw [formL] at h
  by_cases hb : formT b = 0
  ·rw [if_pos hb] at h
   intro a ha
   rcases List.mem_cons.1 ha with rfl | ha
   ·exact hb
   ·exact ih h a ha
  ·rw [if_neg hb] at h; exact absurd h hb
theorem form_spec {t : Tm} (h : formT t = 0) : (1 ≤ t.kind ∧ t.kind ≤ 7) ∧ t.args.length = argsN t.kind ∧ formL t.args = 0 := by
 cases t with
 | mk k i o es =>
  rw [formT] at h
  split at h
  ·omega
  ·rename_i hk
   cases hb : okF k i o es.length with
   | false => rw [hb] at h; simp at h
   | true =>
    rw [hb] at h
    simp only [okF, Bool.and_eq_true, beq_iff_eq] at hb
    exact ⟨by simp only [Tm.kind]; omega, hb.1, h⟩
theorem okB_arg {t x : Tm} (hs : smT t = true) (hf : formT t = 0) (hx : x ∈ t.args) : smT x = true ∧ formT x = 0 :=
 ⟨smL_iff.1 (smT_iff.1 hs).2 x hx, formL_mem (form_spec hf).2.2 x hx⟩
theorem okB_add {B : List Tm} {x : Tm} (h : okB B) (hx : smT x = true ∧ formT x = 0) : okB (B ++ [x]) := by
 refine ⟨smL_iff.2 fun t ht => ?_, fun t ht => ?_⟩
 all_goals
  rcases List.mem_append.1 ht with ht | ht
 ·exact smL_iff.1 h.1 t ht
 ·rw [List.mem_singleton] at ht; rw [ht]; exact hx.1
 ·exact h.2 t ht
 ·rw [List.mem_singleton] at ht; rw [ht]; exact hx.2
theorem full_step {B0 B : List Tm} {k : Nat} {x : Tm} (h : FullInv B0 B k) (hn : nextT B = some x) : ∃ k', k = k' + 1 ∧ FullInv B0 (B ++ [x]) k' := by
 obtain ⟨h1, h2, h3, h4⟩ := h
 cases k with
 | zero => rw [fullF] at h3; rw [hn] at h3; cases h3
 | succ k =>
  obtain ⟨_, t, ht, hx⟩ := nextT_iff hn
  have hx := okB_arg (smL_iff.1 h2.1 t ht) (h2.2 t ht) (open_arg hx)
  rw [fullF, hn] at h3 h4
  exact ⟨k, rfl, by rw [List.length_append, List.length_singleton]; omega, okB_add h2 hx, h3, h4⟩
theorem full_done {B0 B : List Tm} {k : Nat} (h : FullInv B0 B k) (hn : nextT B = none) : fullT B0 = B := by
 obtain ⟨h1, h2, h3, h4⟩ := h
 rw [← h4]
 cases k with
 | zero => rw [fullF]
 | succ k => rw [fullF, hn]
theorem full_inv {B0 : List Tm} : ∀ (k : Nat) (B : List Tm), FullInv B0 B k → okB (fullF k B) ∧ (fullF k B).length ≤ 1000 := by
 intro k
 induction k with
 | zero => intro B h; rw [fullF]; exact ⟨h.2.1, by have := h.1; omega⟩
 | succ k ih =>
  intro B h
  rw [fullF]
  cases hn : nextT B with
  | none =>
   show okB B ∧ B.length ≤ 1000
   exact ⟨h.2.1, by have := h.1; omega⟩
  | some x =>
   obtain ⟨k', hk, h'⟩ := full_step h hn
   obtain rfl : k = k' := by omega
   exact ih _ h'
theorem full_ok {B : List Tm} (h : fullOk B) : okB (fullT B) ∧ (fullT B).length ≤ 1000 := full_inv _ _ (full_start h)
theorem full_closed {B : List Tm} (h : fullOk B) : ∀ t ∈ fullT B, ∀ x ∈ openT (fullT B) t, x ∈ fullT B := nextT_none.1 (full_start h).2.2.1
noncomputable def knowsT (L : List Tm) (t : Tm) : Bool × Int := bif faultT L == 0 then (bif checkT t == 0 then (makesT (fullT L) t, 0) else (false, checkT t)) else (false, faultT L)
noncomputable def knowsS : List Tm → Tm → Bool × Int := (sealed knowsT).val
theorem knowsS_eq : knowsS = knowsT := by rw [knowsS, (sealed knowsT).property]
theorem sizeL_ge : ∀ (es : List Tm) (d n : Int), 0 < d → d < 42 → n ≤ sizeL es d n
 | [], d, n, _, _ => by rw [sizeL]; omega
 | a :: es, d, n, h1, h2 => by
  rw [sizeL]
  cases h : ltI 300 n with
  | true => rw [cond_true]; omega
  | false =>
   rw [cond_false]
   have := (sizeT_bd a d h1 h2).1
   have := sizeL_ge es d (n + sizeT a d) h1 h2
   omega
mutual
theorem sizeT_sz : ∀ (t : Tm) (d : Int), 0 < d → d < 42 → sizeT t d ≤ 300 → sizeT t d = tmSz t
 | .mk k i o es, d, h1, h2, h => by
  rw [sizeT] at h ⊢
  cases hd : ltI 40 d with
  | true => rw [hd] at h; rw [cond_true] at h; omega
  | false =>
   rw [hd, cond_false] at h
   have h3 : ¬ 40 < d := fun e => by rw [(ltI_iff _ _).2 e] at hd; cases hd
   have := sizeL_sz es (d + 1) 1 (by omega) (by omega) (by omega) h
   rw [cond_false, this, tmSz]; omega
theorem sizeL_sz : ∀ (es : List Tm) (d n : Int), 0 < d → d < 42 → 0 ≤ n → sizeL es d n ≤ 300 → sizeL es d n = n + tmSzL es
 | [], d, n, _, _, _, _ => by rw [sizeL, tmSzL]; omega
 | a :: es, d, n, h1, h2, h0, h => by
  rw [sizeL] at h ⊢
  cases hn : ltI 300 n with
  | true =>
   have := (ltI_iff _ _).1 hn
   rw [hn, cond_true] at h; omega
  | false =>
   rw [hn, cond_false] at h
   have hge := sizeL_ge es d (n + sizeT a d) h1 h2
   have hb := (sizeT_bd a d h1 h2).1
   have := sizeT_sz a d h1 h2 (by omega)
   rw [cond_false, sizeL_sz es d _ h1 h2 (by omega) h, this, tmSzL]; omega
end
theorem szsL_sz : ∀ (L : List Tm) (n : Int), 0 ≤ n → n ≤ 300 → szsL L n = false → n + tmSzL L ≤ 300
 | [], n, _, h, _ => by rw [tmSzL]; omega
 | a :: L, n, h0, hn, h => by
  rw [szsL] at h
  cases hb : ltI 300 (n + sizeT a 1) with
  | true => rw [hb] at h; cases h
  | false =>
   rw [hb, cond_false] at h
   have h3 : ¬ 300 < n + sizeT a 1 := fun e => by rw [(ltI_iff _ _).2 e] at hb; cases hb
   have hpos := (sizeT_bd a 1 (by omega) (by omega)).1
   have := sizeT_sz a 1 (by omega) (by omega) (by omega)
   have := szsL_sz L _ (by omega) (by omega) h
   rw [tmSzL]; omega
theorem tmSzL_len : ∀ L : List Tm, L.length ≤ tmSzL L
 | [] => by rw [tmSzL]; simp
 | a :: L => by have := tmSzL_len L; have := tmSz_pos a; rw [tmSzL, List.length_cons]; omega
theorem fault_ok {L : List Tm} (hs : smL L = true) (h : faultT L = 0) : fullOk L := by
 unfold faultT at h
 cases hz : szsL L 0 with
 | true => rw [hz] at h; simp at h
 | false =>
  rw [hz] at h
  have h1 := szsL_sz L 0 (by omega) (by omega) hz
  have h2 := tmSzL_len L
  exact ⟨by omega, hs, formL_mem h⟩
end Go.Tm
namespace Go.V
open Go
theorem leV_vec {full : Bool} {k : Nat} {rows : List AV} (ho : ∀ i, i < rows.length → okL (rowF rows i) = true) : leV (.vec full k rows) (.vecr full k rows.length (rowF rows)) := by
 intro ρ I w v h
 obtain ⟨hsz, vs, hr, hv⟩ := rel_vec.1 h
 obtain ⟨h1, h2⟩ := RL_rowF hsz hr
 obtain ⟨h3, h4⟩ := rows_of_RL h2 h1
 exact rel_vecr.2 ⟨ho, vs, h3, h4, hv⟩
theorem leV.trans {a b c : AV} (h : leV a b) (g : leV b c) : leV a c := fun _ _ _ _ r => g _ _ _ _ (h _ _ _ _ r)
end Go.V
namespace Go.Pat
open Go Go.V
theorem map_range {α β : Type} (f : α → β) (d : α) (l : List α) (g : Nat → β) (h : ∀ i, i < l.length → g i = f (l.getD i d)) : (List.range l.length).map g = l.map f := by
 apply List.ext_getElem
 ·simp
 ·intro i h1 h2
  have hi : i < l.length := by simpa using h2
  rw [List.getElem_map, List.getElem_range, List.getElem_map, h i hi, List.getD_eq_getElem?_getD, List.getElem?_eq_getElem hi, Option.getD_some]
def intF (l : List Int) (i : Nat) : List AV := [.int .i64 (l.getD i 0)]
def vI (l : List Int) : AV := .vecr false 1 l.length (intF l)
def trF (ts : List (List Int)) (i : Nat) : List AV := [.vecr false 1 (ts.getD i []).length (intF (ts.getD i []))]
def vT (ts : List (List Int)) : AV := .vecr false 1 ts.length (trF ts)
def iv : AV → Int
 | .int _ k => k
 | _ => 0
def iok : AV → Bool
 | .int .i64 _ => true
 | _ => false
theorem iok_eq {a : AV} (h : iok a = true) : a = .int .i64 (iv a) := by
 cases a with
 | int k n => cases k <;> first | rfl | simp [iok] at h
 | _ => simp [iok] at h
def iv1 : List AV → Int
 | a :: _ => iv a
 | [] => 0
def iok1 : List AV → Bool
 | [a] => iok a
 | _ => false
theorem iok1_eq {l : List AV} (h : iok1 l = true) : l = [.int .i64 (iv1 l)] := by
 match l, h with
 | [a], h => rw [iok_eq (a := a) h]; rfl
def rdIs : AV → List Int
 | .vecr _ _ n f => (List.range n).map fun i => iv1 (f i)
 | .vec _ _ l => l.map fun a => iv1 a.cells
 | _ => []
def okIs : AV → Bool
 | .vecr _ k n f => k == 1 && (List.range n).all fun i => iok1 (f i)
 | .vec _ k l => k == 1 && l.all fun a => iok1 a.cells
 | .vec8 b l => b && l.isEmpty
 | _ => false
theorem okL_int (l : List Int) (i : Nat) : okL (intF l i) = true := rfl
theorem okIs_le {x : AV} (h : okIs x = true) : leV x (vI (rdIs x)) := by
 cases x with
 | vecr b k n f =>
  simp only [okIs, Bool.and_eq_true, beq_iff_eq, List.all_eq_true] at h
  obtain ⟨rfl, h⟩ := h
  have hl : (rdIs (.vecr b 1 n f)).length = n := by rw [rdIs, List.length_map, List.length_range]
  unfold vI
  rw [hl]
  refine leV_vecr (by simp) fun i hi => leR.of_eq (okL_int _ _) ?_
  rw [iok1_eq (h i (List.mem_range.2 hi))]
  unfold intF
  rw [rdIs, List.getD_eq_getElem?_getD, List.getElem?_map, List.getElem?_range hi]; rfl
 | vec b k l =>
  simp only [okIs, Bool.and_eq_true, beq_iff_eq, List.all_eq_true] at h
  obtain ⟨rfl, h⟩ := h
  have hr : ∀ i, i < l.length → rowF l i = intF (l.map fun a => iv1 a.cells) i := by
   intro i hi
   have := iok1_eq (h l[i] (List.getElem_mem hi))
   unfold rowF intF
   rw [List.getD_eq_getElem?_getD, List.getD_eq_getElem?_getD, List.getElem?_map, List.getElem?_eq_getElem hi]
   simp only [Option.getD_some, Option.map_some]
   exact this
  have e : (rdIs (.vec b 1 l)) = l.map fun a => iv1 a.cells := rfl
  rw [e]
  unfold vI
  rw [List.length_map]
  refine (leV_vec fun i hi => by rw [hr i hi]; rfl).trans (leV_vecr (by simp) fun i hi => leR.of_eq (okL_int _ _) (hr i hi))
 | vec8 b l =>
  simp only [okIs, Bool.and_eq_true] at h
  exact leV_nil (by cases b <;> simp_all [nilS])
 | _ => simp [okIs] at h
theorem rdIs_vI (l : List Int) : rdIs (vI l) = l := by
 unfold vI
 have := map_range (fun x => x) 0 l (fun i => iv1 (intF l i)) fun i _ => rfl
 rw [rdIs, this, List.map_id']
theorem okIs_vI (l : List Int) : okIs (vI l) = true := by
 unfold vI
 simp only [okIs, beq_self_eq_true, Bool.true_and, List.all_eq_true]
 exact fun i _ => rfl
def rd1 : List AV → List Int
 | a :: _ => rdIs a
 | [] => []
def ok1 : List AV → Bool
 | [a] => okIs a
 | _ => false
def rdTs : AV → List (List Int)
 | .vecr _ _ n f => (List.range n).map fun i => rd1 (f i)
 | .vec _ _ l => l.map rdIs
 | _ => []
def okTs : AV → Bool
 | .vecr _ k n f => k == 1 && (List.range n).all fun i => ok1 (f i)
 | .vec _ k l => k == 1 && l.all okIs
 | .vec8 b l => b && l.isEmpty
 | _ => false
theorem okIs_ag {x : AV} (h : okIs x = true) : isAg x = false ∧ x ≠ .any ∧ szA x = 1 ∧ x.cells = [x] := by
 cases x <;> first | (simp [okIs] at h; done) | exact ⟨rfl, nofun, rfl, rfl⟩
theorem okIs_pure {x : AV} (h : okIs x = true) : pureA x = true := by
 cases x with
 | vec b k l =>
  simp only [okIs, Bool.and_eq_true, List.all_eq_true] at h
  have key : ∀ m : List AV, (∀ a ∈ m, iok1 a.cells = true) → pureL m = true := by
   intro m
   induction m with
   | nil => intro _; rfl
   | cons a m ih =>
    intro h
    have h1 := iok1_eq (h a (by simp))
    have h2 : pureA a = true := by
     cases a with
     | agg l => simp only [AV.cells] at h1; rw [h1]; rfl
     | _ => simp only [AV.cells, List.cons.injEq, and_true] at h1; rw [h1]; rfl
    rw [pureL, ih (fun b hb => h b (by simp [hb])), h2]; rfl
  exact key l h.2
 | _ => first | rfl | simp [okIs] at h
theorem leR_one {x : AV} {l : List Int} (h : okIs x = true) (hl : rdIs x = l) : leR [x] [.vecr false 1 l.length (intF l)] := by
 subst hl
 obtain ⟨h1, h2, h3, _⟩ := okIs_ag h
 exact Go.Tm.leR_leV h1 h2 h3 rfl (by simp) rfl (okIs_le h) leR_end
theorem okTs_le {x : AV} (h : okTs x = true) : leV x (vT (rdTs x)) := by
 cases x with
 | vecr b k n f =>
  simp only [okTs, Bool.and_eq_true, beq_iff_eq, List.all_eq_true] at h
  obtain ⟨rfl, h⟩ := h
  have hl : (rdTs (.vecr b 1 n f)).length = n := by rw [rdTs, List.length_map, List.length_range]
  unfold vT
  rw [hl]
  refine leV_vecr (by simp) fun i hi => ?_
  have h1 := h i (List.mem_range.2 hi)
  have e : (rdTs (.vecr b 1 n f)).getD i [] = rd1 (f i) := by
   rw [rdTs, List.getD_eq_getElem?_getD, List.getElem?_map, List.getElem?_range hi]; rfl
  unfold trF
  rw [e]
  match hf : f i, h1 with
  | [a], h1 => exact leR_one h1 rfl
 | vec b k l =>
  simp only [okTs, Bool.and_eq_true, beq_iff_eq, List.all_eq_true] at h
  obtain ⟨rfl, h⟩ := h
  have hr : ∀ i, i < l.length → leR (rowF l i) (trF (l.map rdIs) i) := by
   intro i hi
   have h1 := h l[i] (List.getElem_mem hi)
   have e1 : rowF l i = [l[i]] := by
    unfold rowF
    rw [List.getD_eq_getElem?_getD, List.getElem?_eq_getElem hi]
    exact (okIs_ag h1).2.2.2
   have e2 : (l.map rdIs).getD i [] = rdIs l[i] := by
    rw [List.getD_eq_getElem?_getD, List.getElem?_map, List.getElem?_eq_getElem hi]; rfl
   unfold trF
   rw [e1, e2]
   exact leR_one h1 rfl
  have e : (rdTs (.vec b 1 l)) = l.map rdIs := rfl
  rw [e]
  unfold vT
  rw [List.length_map]
  intro ρ I w v r
  obtain ⟨hsz, vs, hrl, hv⟩ := rel_vec.1 r
  obtain ⟨h1, h2⟩ := RL_rowF hsz hrl
  obtain ⟨h3, h4⟩ := rows_of_RL h2 h1
  exact rel_vecr.2 ⟨fun i _ => rfl, vs, h3, fun i hi => (hr i hi).rl _ _ _ _ (h4 i hi), hv.imp fun a => fun ⟨c, k1, k2, k3, k4⟩ => ⟨c, k1, k2, fun h => (by cases h), k4⟩⟩
 | vec8 b l =>
  simp only [okTs, Bool.and_eq_true] at h
  exact leV_nil (by cases b <;> simp_all [nilS])
 | _ => simp [okTs] at h
theorem RL_imp {ρ : Rho} {I : Imm} {w : World} {α : Type} (f g : α → AV) : ∀ (l : List α) (_ : ∀ a ∈ l, ∀ xs, R ρ I w (f a) xs → R ρ I w (g a) xs) (vs : List Value), RL ρ I w (l.map f) vs → RL ρ I w (l.map g) vs
 | [], _, _, h => h
 | a :: l, hi, vs, h => by
  obtain ⟨ys, zs, rfl, h1, h2⟩ := RL_cons.1 h
  exact RL_cons.2 ⟨ys, zs, rfl, hi a (by simp) _ h1, RL_imp f g l (fun b hb => hi b (by simp [hb])) zs h2⟩
theorem leV_unrow {k n : Nat} {f : Nat → List AV} {g : Nat → AV} (hg : ∀ i, i < n → szA (g i) = k) (h : ∀ (ρ : Rho) (I : Imm) (w : World) (i : Nat) (xs : List Value), i < n → RL ρ I w (f i) xs → R ρ I w (g i) xs) : leV (.vecr false k n f) (.vec false k ((List.range n).map g)) := by
 intro ρ I w v r
 obtain ⟨ho, vs, hl, hr, hv⟩ := rel_vecr.1 r
 obtain ⟨r1, _⟩ := RL_of_rows hl hr
 have hlen : ((List.range n).map g).length = n := by rw [List.length_map, List.length_range]
 refine rel_vec.2 ⟨fun a ha => ?_, vs, ?_, by rw [hlen]; exact hv⟩
 ·obtain ⟨i, hi, rfl⟩ := List.mem_map.1 ha
  exact hg i (List.mem_range.1 hi)
 ·exact RL_imp (fun i => AV.agg (f i)) g (List.range n) (fun i hi xs hx => h ρ I w i xs (List.mem_range.1 hi) hx) vs r1
theorem R_of_RL1 {ρ : Rho} {I : Imm} {w : World} {a : AV} {xs : List Value} (h : RL ρ I w [a] xs) : R ρ I w a xs := by
 obtain ⟨ys, zs, rfl, h1, h2⟩ := RL_cons.1 h
 cases h2
 rw [List.append_nil]; exact h1
def vL (l : List Int) : AV := .vec false 1 (l.map fun x => .int .i64 x)
def vLL (ts : List (List Int)) : AV := .vec false 1 (ts.map vL)
theorem leV_vL (l : List Int) : leV (.vecr false 1 l.length (intF l)) (vL l) := by
 have := leV_unrow (k := 1) (n := l.length) (f := intF l) (g := fun i => .int .i64 (l.getD i 0)) (fun _ _ => rfl) fun ρ I w i xs _ hx => R_of_RL1 hx
 rwa [map_range (fun x => AV.int .i64 x) 0 l (fun i => .int .i64 (l.getD i 0)) fun _ _ => rfl] at this
theorem leV_vLL (ts : List (List Int)) : leV (.vecr false 1 ts.length (trF ts)) (vLL ts) := by
 have := leV_unrow (k := 1) (n := ts.length) (f := trF ts) (g := fun i => vL (ts.getD i [])) (fun _ _ => rfl) fun ρ I w i xs _ hx => by
  have h1 := R_of_RL1 hx
  have hx : ∃ v, xs = [v] := by obtain ⟨v, h0, _⟩ := h1; exact ⟨v, h0⟩
  obtain ⟨v, rfl⟩ := hx
  exact leV_vL (ts.getD i []) ρ I w v h1
 rwa [map_range vL [] ts (fun i => vL (ts.getD i [])) fun _ _ => rfl] at this
theorem pure_vL (l : List Int) : pureA (vL l) = true := by
 show pureL (l.map _) = true
 induction l with
 | nil => rfl
 | cons a l ih => exact ih
theorem pure_vLL (ts : List (List Int)) : pureA (vLL ts) = true := by
 show pureL (ts.map _) = true
 induction ts with
 | nil => rfl
 | cons a l ih => rw [List.map_cons, pureL, pure_vL, ih]; rfl
structure Pat where
 base : List UInt8
 late : Bool
 psks : List Int
 pre0 : List Int
 pre1 : List Int
 turns : List (List Int)
 deriving DecidableEq, Inhabited
def patC (p : Pat) : List AV := [.str p.base, .bool p.late, .vecr false 1 p.psks.length (intF p.psks), .vecr false 1 p.pre0.length (intF p.pre0), .vecr false 1 p.pre1.length (intF p.pre1), .vecr false 1 p.turns.length (trF p.turns)]
def patV (p : Pat) : AV := .agg (patC p)
def patL (p : Pat) : AV := .agg [.str p.base, .bool p.late, vL p.psks, vL p.pre0, vL p.pre1, vLL p.turns]
theorem pure_patL (p : Pat) : pureA (patL p) = true := by
 show pureL _ = true
 simp only [pureL, pureA, pure_vL, pure_vLL, Bool.and_self]
theorem leR_1 {x y : AV} {as bs : List AV} (h1 : isAg x = false) (h2 : x ≠ .any) (h3 : szA x = 1) (h4 : isAg y = false) (h5 : y ≠ .any) (h6 : pureA y = true) (h7 : oneA y = true) (h : leV x y) (hr : leR as bs) : leR (x :: as) (y :: bs) :=
 Go.Tm.leR_leV h1 h2 h3 h4 h5 (by simp [okL, pureL, oneL, h6, h7]) h hr
theorem leV_patL (p : Pat) : leV (patV p) (patL p) :=
 leV_agg (leR_same rfl (leR_same rfl (leR_1 rfl (by simp) rfl rfl (by simp [vL]) (pure_vL _) rfl (leV_vL _) (leR_1 rfl (by simp) rfl rfl (by simp [vL]) (pure_vL _) rfl (leV_vL _) (leR_1 rfl (by simp) rfl rfl (by simp [vL]) (pure_vL _) rfl (leV_vL _) (leR_1 rfl (by simp) rfl rfl (by simp [vLL]) (pure_vLL _) rfl (leV_vLL _) leR_end))))))
def rdPat : List AV → Pat
 | [.str b, .bool l, x, y, z, t] => ⟨b, l, rdIs x, rdIs y, rdIs z, rdTs t⟩
 | _ => default
def okPat : List AV → Bool
 | [.str _, .bool _, x, y, z, t] => okIs x && (okIs y && (okIs z && okTs t))
 | _ => false
theorem okTs_ag {x : AV} (h : okTs x = true) : isAg x = false ∧ x ≠ .any ∧ szA x = 1 := by
 cases x <;> first | (simp [okTs] at h; done) | exact ⟨rfl, nofun, rfl⟩
theorem okPat_leR : ∀ {l : List AV}, okPat l = true → leR l (patC (rdPat l))
 | [.str b, .bool lt, x, y, z, t], h => by
  simp only [okPat, Bool.and_eq_true] at h
  obtain ⟨h1, h2, h3, h4⟩ := h
  obtain ⟨a1, a2, a3, _⟩ := okIs_ag h1
  obtain ⟨b1, b2, b3, _⟩ := okIs_ag h2
  obtain ⟨c1, c2, c3, _⟩ := okIs_ag h3
  obtain ⟨d1, d2, d3⟩ := okTs_ag h4
  exact leR_same rfl (leR_same rfl (Go.Tm.leR_leV a1 a2 a3 rfl (by simp) rfl (okIs_le h1) (Go.Tm.leR_leV b1 b2 b3 rfl (by simp) rfl (okIs_le h2) (Go.Tm.leR_leV c1 c2 c3 rfl (by simp) rfl (okIs_le h3) (Go.Tm.leR_leV d1 d2 d3 rfl (by simp) rfl (okTs_le h4) leR_end)))))
theorem arg_pat {l : List AV} (h : okPat (flL l) = true) : leV (.agg l) (patV (rdPat (flL l))) :=
 (leV_flat l).trans (leV_agg (okPat_leR h))
def baseP (s : List UInt8) : Pat :=
 if s = [78, 78] then ⟨s, false, [], [], [], [[1], [1, 3]]⟩
 else if s = [78, 75] then ⟨s, false, [], [], [2], [[1, 4], [1, 3]]⟩
 else if s = [88, 88] then ⟨s, false, [], [], [], [[1], [1, 3, 2, 4], [2, 5]]⟩
 else if s = [73, 75] then ⟨s, false, [], [], [2], [[1, 4, 2, 6], [1, 3, 5]]⟩
 else if s = [88, 75] then ⟨s, false, [], [], [2], [[1, 4], [1, 3], [2, 5]]⟩
 else if s = [75, 75] then ⟨s, false, [], [2], [2], [[1, 4, 6], [1, 3, 5]]⟩
 else ⟨s, true, [], [1], [], [[1, 3, 2, 4], [2, 5]]⟩
def putP (t : List (List Int)) (n : Int) : List (List Int) :=
 if n = 0 then t.set 0 (7 :: t.getD 0 []) else t.set (n.toNat - 1) (t.getD (n.toNat - 1) [] ++ [7])
def withP (s : List UInt8) (l : List Int) : Pat := { baseP s with psks := l, turns := l.foldl putP (baseP s).turns }
def plF (k : Nat) : Nat → List Int
 | 0 => bif k % 2 == 1 then [0] else []
 | n + 1 => plF k n ++ bif (k / 2 ^ (n + 1)) % 2 == 1 then [((n + 1 : Nat) : Int)] else []
def plL (m k : Int) : List Int := plF k.toNat m.toNat
def fallN : List UInt8 := [88, 88, 102, 97, 108, 108, 98, 97, 99, 107]
def allW : List (List UInt8 × List Int) :=
 ([[78, 78], [78, 75], [73, 75], [75, 75]].flatMap fun s => (List.range 8).map fun k => (s, plF k 2)) ++ ([[88, 88], [88, 75]].flatMap fun s => (List.range 16).map fun k => (s, plF k 3)) ++ [(fallN, [])]
def isW (s : List UInt8) (l : List Int) : Bool := decide ((s, l) ∈ allW)
def qWith (p : Pat) : AV → Bool
 | .tup [.agg l, .int .i64 e] => okPat (flL l) && (decide (rdPat (flL l) = p) && e == 0)
 | _ => false
theorem qWith_le {p : Pat} {x : AV} (h : qWith p x = true) : leV x (.tup [patV p, .int .i64 0]) := by
 unfold qWith at h
 split at h
 ·rename_i l e
  simp only [Bool.and_eq_true, decide_eq_true_eq, beq_iff_eq] at h
  obtain ⟨h1, h2, rfl⟩ := h
  refine leV_tup (leRV_cons ?_ (leRV_cons (leV.refl _) leRV_nil))
  rw [← h2]
  exact arg_pat h1
 ·cases h
def qNil : AV → Bool
 | .int .i64 e => e == 0
 | _ => false
theorem qNil_le {x : AV} (h : qNil x = true) : leV x (.int .i64 0) := by
 unfold qNil at h
 split at h
 ·simp only [beq_iff_eq] at h
  subst h
  exact leV.refl _
 ·cases h
end Go.Pat
namespace Go.Frm
open Go Go.V
structure Fr where
 kind : Int
 id : Int
 body : List UInt8
 deriving DecidableEq
def Fr.cells (f : Fr) : List AV := [.int .i64 f.kind, .int .i64 f.id, .vec8 false f.body]
def fault (k i : Int) (b : List UInt8) : Int := if k < 1 ∨ 5 < k then 2 else if i < 0 ∨ 255 < i then 6 else if 900 < b.length then 1 else if k = 5 ∧ 0 < b.length then 3 else 0
noncomputable def faultS : Int → Int → List UInt8 → Int := (sealed fault).val
theorem faultS_eq : faultS = fault := by rw [faultS, (sealed fault).property]
def encF (k i : Int) (b : List UInt8) : List UInt8 := bif fault k i b == 0 then [UInt8.ofNat k.toNat, UInt8.ofNat i.toNat, UInt8.ofNat (b.length / 256), UInt8.ofNat b.length] ++ b else []
structure Fed where
 fs : List Fr
 rest : List UInt8
 e : Int
def Fed.pre (l : List Fr) (d : Fed) : Fed := bif d.e == 0 then ⟨l ++ d.fs, d.rest, 0⟩ else d
def lenOf (l : List UInt8) : Nat := (l.getD 2 0).toNat * 256 + (l.getD 3 0).toNat
def enc (f : Fr) : List UInt8 := encF f.kind f.id f.body
end Go.Frm
namespace Go.Tm
open Go Go.V
mutual
def dpT : Tm → Nat
 | .mk _ _ _ es => 1 + dpL es
def dpL : List Tm → Nat
 | [] => 0
 | a :: es => max (dpT a) (dpL es)
end
mutual
theorem sizeT_ex : ∀ (t : Tm) (d : Int), 0 < d → (dpT t : Int) + d ≤ 41 → tmSz t ≤ 300 → sizeT t d = tmSz t
 | .mk k i o es, d, h1, h2, h3 => by
  rw [dpT] at h2
  rw [tmSz] at h3 ⊢
  rw [sizeT]
  cases hd : ltI 40 d with
  | true => have := (ltI_iff _ _).1 hd; omega
  | false =>
   rw [cond_false, sizeL_ex es (d + 1) 1 (by omega) (by omega) (by omega) (by omega)]; omega
theorem sizeL_ex : ∀ (es : List Tm) (d n : Int), 0 < d → 0 ≤ n → (dpL es : Int) + d ≤ 41 → n + tmSzL es ≤ 300 → sizeL es d n = n + tmSzL es
 | [], d, n, _, _, _, _ => by rw [sizeL, tmSzL]; omega
 | a :: es, d, n, h1, h0, h2, h3 => by
  rw [dpL] at h2
  rw [tmSzL] at h3 ⊢
  rw [sizeL]
  have hpos := tmSz_pos a
  cases hn : ltI 300 n with
  | true => have := (ltI_iff _ _).1 hn; omega
  | false =>
   rw [cond_false, sizeT_ex a d h1 (by omega) (by omega), sizeL_ex es d _ h1 (by omega) (by omega) (by omega)]; omega
end
def good (t : Tm) : Prop := formT t = 0 ∧ dpT t ≤ 20 ∧ smT t = true
theorem check_good {t : Tm} (h : good t) (hs : tmSz t ≤ 300) : checkT t = 0 := by
 unfold checkT
 have h2 := h.2.1
 rw [sizeT_ex t 1 (by omega) (by omega) hs]
 have : ltI 300 (tmSz t : Int) = false := by
  cases hb : ltI 300 (tmSz t : Int) with
  | false => rfl
  | true => have := (ltI_iff _ _).1 hb; omega
 rw [this, cond_false]; exact h.1
theorem szsL_good : ∀ (L : List Tm) (n : Int), 0 ≤ n → (∀ t ∈ L, good t) → n + tmSzL L ≤ 300 → szsL L n = false
 | [], _, _, _, _ => by rw [szsL]
 | a :: L, n, h0, h, hs => by
  rw [tmSzL] at hs
  have ha := h a (List.mem_cons_self ..)
  have h2 := ha.2.1
  rw [szsL, sizeT_ex a 1 (by omega) (by omega) (by omega)]
  have : ltI 300 (n + (tmSz a : Int)) = false := by
   cases hb : ltI 300 (n + (tmSz a : Int)) with
   | false => rfl
   | true => have := (ltI_iff _ _).1 hb; omega
  rw [this, cond_false]
  exact szsL_good L _ (by omega) (fun t ht => h t (List.mem_cons_of_mem _ ht)) (by omega)
theorem formL_good : ∀ (L : List Tm), (∀ t ∈ L, formT t = 0) → formL L = 0
 | [], _ => by rw [formL]
 | a :: L, h => by
  rw [formL, if_pos (h a (List.mem_cons_self ..))]
  exact formL_good L fun t ht => h t (List.mem_cons_of_mem _ ht)
theorem fault_good {L : List Tm} (h : ∀ t ∈ L, good t) (hs : tmSzL L ≤ 300) : faultT L = 0 := by
 unfold faultT
 rw [szsL_good L 0 (by omega) h (by omega), cond_false]
 exact formL_good L fun t ht => (h t ht).1
theorem knows_good {L : List Tm} {t : Tm} (hL : ∀ t ∈ L, good t) (hLs : tmSzL L ≤ 300) (ht : good t) (hts : tmSz t ≤ 300) : knowsT L t = (makesT (fullT L) t, 0) ∧ fullOk L := by
 unfold knowsT
 rw [fault_good hL hLs, check_good ht hts]
 exact ⟨rfl, fault_ok (smL_iff.2 fun t ht => (hL t ht).2.2) (fault_good hL hLs)⟩
theorem form_mk {k i o : Int} {es : List Tm} (hk : 1 ≤ k ∧ k ≤ 7) (h : okF k i o es.length = true) (hes : ∀ t ∈ es, formT t = 0) : formT (.mk k i o es) = 0 := by
 rw [formT, if_neg (by omega), h, cond_true]
 exact formL_good es hes
theorem form_atom {i : Int} (h : 0 ≤ i) : formT (.mk 1 i 0 []) = 0 := form_mk (by omega) (by simp [okF, argsN, h]) (by simp)
theorem has_iff {B : List Tm} {t : Tm} : hasT B t = true ↔ t ∈ B := yes_iff
theorem makesT_eq (B : List Tm) (t : Tm) : makesT B t = (hasT B t || (if t.kind = 1 then false else if t.kind = 2 then hasT B (atomT t.id) else if t.kind = 3 then (hasT B (atomT t.id) && pubK B t.other) || (hasT B (atomT t.other) && pubK B t.id) else makesL B t.args)) := by
 conv => lhs; rw [tm_eta t]
 rw [makesT, ← tm_eta t]
theorem makesL_all {B : List Tm} : ∀ {es : List Tm}, makesL B es = true ↔ ∀ t ∈ es, makesT B t = true
 | [] => by simp [makesL]
 | a :: es => by rw [makesL, Bool.and_eq_true, makesL_all]; simp
theorem makes_has {B : List Tm} {t : Tm} (h : t ∈ B) : makesT B t = true := by rw [makesT_eq, has_iff.2 h]; rfl
theorem makes_atom {B : List Tm} {n : Int} : makesT B (atomT n) = true ↔ atomT n ∈ B := by
 rw [makesT_eq, Bool.or_eq_true, has_iff]
 simp [atomT, Tm.kind]
def Sub (C B : List Tm) : Prop := ∀ x ∈ C, makesT B x = true
theorem sub_atom {C B : List Tm} (h : Sub C B) {n : Int} (ha : hasT C (atomT n) = true) : hasT B (atomT n) = true :=
 has_iff.2 (makes_atom.1 (h _ (has_iff.1 ha)))
theorem sub_pub {C B : List Tm} (h : Sub C B) {n : Int} (ha : pubK C n = true) : pubK B n = true := by
 unfold pubK at ha ⊢
 rw [Bool.or_eq_true] at ha ⊢
 rcases ha with ha | ha
 ·exact .inl (sub_atom h ha)
 ·have := h _ (has_iff.1 ha)
  rw [makesT_eq, Bool.or_eq_true] at this
  rcases this with this | this
  ·exact .inr this
  ·simp [pubT, Tm.kind, Tm.id] at this
   exact .inl this
mutual
theorem makes_sub {C B : List Tm} (h : Sub C B) : ∀ t : Tm, makesT C t = true → makesT B t = true
 | .mk k i o es, ht => by
  rw [makesT] at ht
  rw [Bool.or_eq_true] at ht
  rcases ht with ht | ht
  ·exact h _ (has_iff.1 ht)
  ·rw [makesT, Bool.or_eq_true]
   right
   by_cases h1 : k = 1
   ·rw [if_pos h1] at ht; cases ht
   rw [if_neg h1] at ht ⊢
   by_cases h2 : k = 2
   ·rw [if_pos h2] at ht ⊢; exact sub_atom h ht
   rw [if_neg h2] at ht ⊢
   by_cases h3 : k = 3
   ·rw [if_pos h3] at ht ⊢
    rw [Bool.or_eq_true, Bool.and_eq_true, Bool.and_eq_true] at ht ⊢
    exact ht.imp (fun x => ⟨sub_atom h x.1, sub_pub h x.2⟩) fun x => ⟨sub_atom h x.1, sub_pub h x.2⟩
   rw [if_neg h3] at ht ⊢
   exact makesL_sub h es ht
theorem makesL_sub {C B : List Tm} (h : Sub C B) : ∀ es : List Tm, makesL C es = true → makesL B es = true
 | [], _ => by rw [makesL]
 | a :: es, ht => by
  rw [makesL, Bool.and_eq_true] at ht ⊢
  exact ⟨makes_sub h a ht.1, makesL_sub h es ht.2⟩
end
def Closed (B : List Tm) : Prop := ∀ t ∈ B, ∀ x ∈ openT B t, x ∈ B
theorem makes_args {B : List Tm} {t : Tm} (hm : makesT B t = true) (hk : ¬ t.kind = 1 ∧ ¬ t.kind = 2 ∧ ¬ t.kind = 3) : t ∈ B ∨ ∀ x ∈ t.args, makesT B x = true := by
 rw [makesT_eq, Bool.or_eq_true, if_neg hk.1, if_neg hk.2.1, if_neg hk.2.2] at hm
 exact hm.imp has_iff.1 makesL_all.1
theorem open_sub {C B : List Tm} (hB : Closed B) (h : Sub C B) {t x : Tm} (ht : makesT B t = true) (hx : x ∈ openT C t) : makesT B x = true := by
 by_cases h4 : t.kind = 4
 ·rcases makes_args ht (by omega) with hb | hb
  ·refine makes_has (hB t hb x ?_)
   unfold openT at hx ⊢
   rw [if_pos h4] at hx ⊢; exact hx
  ·exact hb x (open_arg hx)
 ·by_cases h7 : t.kind = 7 ∧ makesT C (t.args.getD 0 tm0) = true
  ·rcases makes_args ht (by omega) with hb | hb
   ·refine makes_has (hB t hb x ?_)
    unfold openT at hx ⊢
    rw [if_neg h4, if_pos h7] at hx
    rw [if_neg h4, if_pos ⟨h7.1, makes_sub h _ h7.2⟩]; exact hx
   ·exact hb x (open_arg hx)
  ·unfold openT at hx
   rw [if_neg h4, if_neg h7] at hx
   simp at hx
theorem full_sub {B : List Tm} (hB : Closed B) : ∀ (k : Nat) (C : List Tm), Sub C B → Sub (fullF k C) B := by
 intro k
 induction k with
 | zero => intro C h; rw [fullF]; exact h
 | succ k ih =>
  intro C h
  rw [fullF]
  cases hn : nextT C with
  | none => exact h
  | some x =>
   refine ih _ fun y hy => ?_
   rcases List.mem_append.1 hy with hy | hy
   ·exact h y hy
   ·rw [List.mem_singleton] at hy
    rw [hy]
    obtain ⟨_, t, ht, hx⟩ := nextT_iff hn
    exact open_sub hB h (h t ht) hx
theorem full_has : ∀ (k : Nat) (C : List Tm), ∀ x ∈ C, x ∈ fullF k C := by
 intro k
 induction k with
 | zero => intro C x h; rw [fullF]; exact h
 | succ k ih =>
  intro C x h
  rw [fullF]
  cases hn : nextT C with
  | none => exact h
  | some y => exact ih _ x (List.mem_append_left _ h)
theorem knows_dh {B : List Tm} {m n : Int} (hs : makesT B (atomT m) = true) (hv : makesT B (pubT n) = true) : makesT B (.mk 3 (min m n) (max m n) []) = true := by
 have h1 : hasT B (atomT m) = true := has_iff.2 (makes_atom.1 hs)
 have h2 : pubK B n = true := by
  rw [makesT_eq, Bool.or_eq_true] at hv
  unfold pubK
  rw [Bool.or_eq_true]
  rcases hv with hv | hv
  ·exact .inr hv
  ·simp [pubT, Tm.kind, Tm.id] at hv
   exact .inl hv
 rw [makesT_eq, Bool.or_eq_true]
 right
 simp only [Tm.kind, Tm.id, Tm.other]
 rcases Int.le_total m n with h | h
 ·rw [Int.min_eq_left h, Int.max_eq_right h, h1, h2]; rfl
 ·rw [Int.min_eq_right h, Int.max_eq_left h, h1, h2]; simp
theorem good_atom {i : Int} (h : 0 ≤ i) : good (atomT i) ∧ tmSz (atomT i) = 1 := ⟨⟨form_atom h, by simp [atomT, dpT, dpL], rfl⟩, by simp [atomT, tmSz, tmSzL]⟩
theorem tmSzL_append (a b : List Tm) : tmSzL (a ++ b) = tmSzL a + tmSzL b := by
 induction a with
 | nil => simp [tmSzL]
 | cons x a ih => rw [List.cons_append, tmSzL, tmSzL, ih]; omega
def dhT (a b : Int) : Tm := .mk 3 (min a b) (max a b) []
def kdfT (w : Int) (c i : Tm) : Tm := .mk 6 w 0 [c, i]
def lockT (k n t : Tm) : Tm := .mk 7 0 0 [k, n, t]
inductive Ev where
 | mix (t : Tm)
 | tell (t : Tm)
 | out (t : Tm)
structure Hd where
 chain : Tm
 key : Option Tm
 out : List Tm
def tellT (h : Hd) (t : Tm) : Tm := match h.key with
 | none => t
 | some k => lockT k (atomT (100 + (h.out.length : Int))) t
def evStep (h : Hd) : Ev → Hd
 | .mix i => ⟨kdfT 1 h.chain i, some (kdfT 2 h.chain i), h.out⟩
 | .tell t => ⟨h.chain, h.key, h.out ++ [tellT h t]⟩
 | .out t => ⟨h.chain, h.key, h.out ++ [t]⟩
def evRun : Hd → List Ev → Hd
 | h, [] => h
 | h, e :: l => evRun (evStep h e) l
def hd0 : Hd := ⟨atomT 0, none, []⟩
theorem evRun_append : ∀ (a b : List Ev) (h : Hd), evRun h (a ++ b) = evRun (evRun h a) b
 | [], _, _ => rfl
 | e :: a, b, h => evRun_append a b (evStep h e)
theorem out_step (h : Hd) (e : Ev) : ∀ x ∈ h.out, x ∈ (evStep h e).out := by
 intro x hx
 cases e with
 | mix i => exact hx
 | tell t => exact List.mem_append_left _ hx
 | out t => exact List.mem_append_left _ hx
theorem out_run : ∀ (l : List Ev) (h : Hd), ∀ x ∈ h.out, x ∈ (evRun h l).out
 | [], _, _, hx => hx
 | e :: l, h, x, hx => out_run l (evStep h e) x (out_step h e x hx)
theorem out_spec : ∀ (l : List Ev) (h : Hd) (y : Tm), y ∈ (evRun h l).out → y ∈ h.out ∨ ∃ q e p, l = q ++ e :: p ∧ (e = .out y ∨ ∃ s, e = .tell s ∧ y = tellT (evRun h q) s)
 | [], _, _, hy => .inl hy
 | e :: l, h, y, hy => by
  rcases out_spec l (evStep h e) y hy with h1 | ⟨q, e', p, rfl, h2⟩
  ·cases e with
   | mix i => exact .inl h1
   | tell t =>
    rcases List.mem_append.1 h1 with h1 | h1
    ·exact .inl h1
    ·exact .inr ⟨[], .tell t, l, rfl, .inr ⟨t, rfl, List.mem_singleton.1 h1⟩⟩
   | out t =>
    rcases List.mem_append.1 h1 with h1 | h1
    ·exact .inl h1
    ·exact .inr ⟨[], .out t, l, rfl, .inl (by rw [List.mem_singleton.1 h1])⟩
  ·exact .inr ⟨e :: q, e', p, rfl, h2⟩
theorem makes_kdf {B : List Tm} {w : Int} {c i : Tm} (hc : makesT B c = true) (hi : makesT B i = true) : makesT B (kdfT w c i) = true := by
 rw [makesT_eq, Bool.or_eq_true]
 refine .inr ?_
 show makesL B [c, i] = true
 rw [makesL_all]
 intro t ht
 rcases List.mem_cons.1 ht with rfl | ht
 ·exact hc
 ·rw [List.mem_singleton.1 ht]; exact hi
theorem makes_kdf_of {B : List Tm} (hB : ∀ y ∈ B, y.kind ≠ 6) {w : Int} {c i : Tm} (h : makesT B (kdfT w c i) = true) : makesT B c = true ∧ makesT B i = true := by
 rw [makesT_eq, Bool.or_eq_true] at h
 rcases h with h | h
 ·exact absurd rfl (hB _ (has_iff.1 h))
 ·have h : makesL B [c, i] = true := h
  rw [makesL_all] at h
  exact ⟨h c (by simp), h i (by simp)⟩
theorem run_known {B : List Tm} : ∀ (l : List Ev) (h : Hd), (∀ i, Ev.mix i ∈ l → makesT B i = true) → makesT B h.chain = true → (∀ k, h.key = some k → makesT B k = true) → makesT B (evRun h l).chain = true ∧ ∀ k, (evRun h l).key = some k → makesT B k = true
 | [], _, _, h1, h2 => ⟨h1, h2⟩
 | e :: l, h, hi, h1, h2 => by
  refine run_known l (evStep h e) (fun i hm => hi i (List.mem_cons_of_mem _ hm)) ?_ ?_
  ·cases e with
   | mix i => exact makes_kdf h1 (hi i (by simp))
   | tell t => exact h1
   | out t => exact h1
  ·cases e with
   | mix i =>
    intro k hk
    have hk : some (kdfT 2 h.chain i) = some k := hk
    rw [← Option.some.inj hk]
    exact makes_kdf h1 (hi i (by simp))
   | tell t => exact h2
   | out t => exact h2
theorem open_lock {B : List Tm} {k n t : Tm} (h : makesT B k = true) : openT B (lockT k n t) = [t] := by
 unfold openT
 rw [if_neg (by show ¬ ((7 : Int) = 4); decide), if_pos ⟨rfl, h⟩]
 rfl
theorem told_known {B : List Tm} (hB : Closed B) {pre post : List Ev} {x : Tm} (h0 : makesT B (atomT 0) = true) (hi : ∀ i, Ev.mix i ∈ pre → makesT B i = true) (hL : ∀ y ∈ (evRun hd0 (pre ++ .tell x :: post)).out, y ∈ B) : x ∈ B := by
 obtain ⟨_, hk⟩ := run_known pre hd0 hi h0 (fun k hk => by cases hk)
 have hm : tellT (evRun hd0 pre) x ∈ B := by
  refine hL _ ?_
  rw [evRun_append]
  exact out_run post _ _ (List.mem_append_right _ (List.mem_singleton.2 rfl))
 unfold tellT at hm
 cases hkey : (evRun hd0 pre).key with
 | none => rw [hkey] at hm; exact hm
 | some k =>
  rw [hkey] at hm
  exact hB _ hm x (by rw [open_lock (hk k hkey)]; exact List.mem_singleton.2 rfl)
theorem run_hidden {B : List Tm} (hB : ∀ y ∈ B, y.kind ≠ 6) : ∀ (l : List Ev) (h : Hd), makesT B h.chain = false → (∃ k, h.key = some k ∧ makesT B k = false) → makesT B (evRun h l).chain = false ∧ ∃ k, (evRun h l).key = some k ∧ makesT B k = false
 | [], _, h1, h2 => ⟨h1, h2⟩
 | e :: l, h, h1, h2 => by
  have no : ∀ w i, makesT B (kdfT w h.chain i) = false := fun w i => by
   cases hb : makesT B (kdfT w h.chain i) with
   | false => rfl
   | true => rw [(makes_kdf_of hB hb).1] at h1; cases h1
  refine run_hidden hB l (evStep h e) ?_ ?_
  ·cases e with
   | mix i => exact no 1 i
   | tell t => exact h1
   | out t => exact h1
  ·cases e with
   | mix i => exact ⟨_, rfl, no 2 i⟩
   | tell t => exact h2
   | out t => exact h2
def toldIn (l : List Ev) : List Tm := l.filterMap fun | .tell t => some t | _ => none
theorem mem_toldIn {l : List Ev} {t : Tm} : t ∈ toldIn l ↔ Ev.tell t ∈ l := by
 unfold toldIn
 rw [List.mem_filterMap]
 constructor
 ·rintro ⟨e, he, h⟩
  cases e with
  | tell s => simp only [Option.some.injEq] at h; rw [← h]; exact he
  | mix s => simp at h
  | out s => simp at h
 ·intro h; exact ⟨_, h, rfl⟩
def flat (t : Tm) : Prop := t.kind = 1 ∨ t.kind = 2
theorem told_hidden {base : List Tm} {pre1 post : List Ev} {r x : Tm} (hb : ∀ y ∈ base, flat y) (he : ∀ t, (Ev.tell t ∈ pre1 ++ .mix r :: post ∨ Ev.out t ∈ pre1 ++ .mix r :: post) → flat t)
  (hr : ∀ B : List Tm, (∀ y ∈ B, y ∈ base ∨ y.kind = 7 ∨ Ev.tell y ∈ pre1 ++ .mix r :: post ∨ Ev.out y ∈ pre1 ++ .mix r :: post) → makesT B r = false)
  {n : Int} (hx : x = atomT n) (hxb : x ∉ base) (hxo : Ev.out x ∉ pre1 ++ .mix r :: post) (hxt : Ev.tell x ∉ pre1) :
  ∀ k, makesT (fullF k (base ++ (evRun hd0 (pre1 ++ .mix r :: post)).out)) x = false := by
 intro k
 have hall : evRun hd0 (pre1 ++ .mix r :: post) = evRun (evStep (evRun hd0 pre1) (.mix r)) post := by rw [evRun_append]; rfl
 generalize hh1 : evStep (evRun hd0 pre1) (.mix r) = h1 at hall
 rw [hall]
 generalize hout : (evRun h1 post).out = outs
 have ho : ∀ y ∈ outs, (Ev.out y ∈ pre1 ++ .mix r :: post ∨ Ev.tell y ∈ pre1) ∨ ∃ kk m s, y = lockT kk m s ∧ (Ev.tell s ∈ pre1 ∨ ∃ q, (evRun h1 q).key = some kk) := by
  intro y hy
  rw [← hout] at hy
  rcases out_spec _ _ y hy with h | ⟨q, e, p, rfl, h⟩
  ·rw [← hh1] at h
   have hz : y ∈ (evRun hd0 pre1).out := h
   clear h
   rcases out_spec _ _ y hz with h | ⟨q, e, p, rfl, h⟩
   ·exact absurd h (by show ¬ (y ∈ ([] : List Tm)); simp)
   ·clear hz
    rcases h with rfl | ⟨s, rfl, h⟩
    ·exact .inl (.inl (by simp))
    ·unfold tellT at h
     cases hk : (evRun hd0 q).key with
     | none => rw [hk] at h; subst h; exact .inl (.inr (by simp))
     | some kk => rw [hk] at h; exact .inr ⟨kk, _, s, h, .inl (by simp)⟩
  ·rcases h with rfl | ⟨s, rfl, h⟩
   ·exact .inl (.inl (by simp))
   ·unfold tellT at h
    cases hk : (evRun h1 q).key with
    | none =>
     exfalso
     have key : ∀ (l : List Ev) (h : Hd), (∃ k, h.key = some k) → ∃ k, (evRun h l).key = some k := by
      intro l
      induction l with
      | nil => intro h hh; exact hh
      | cons e l ih =>
       intro h hh
       refine ih _ ?_
       cases e with
       | mix i => exact ⟨_, rfl⟩
       | tell t => exact hh
       | out t => exact hh
     obtain ⟨kk, hkk⟩ := key q h1 ⟨_, by rw [← hh1]; rfl⟩
     rw [hk] at hkk
     cases hkk
    | some kk => rw [hk] at h; exact .inr ⟨kk, _, s, h, .inr ⟨q, hk⟩⟩
 have hcls : ∀ y ∈ base ++ outs ++ toldIn pre1, flat y ∨ ∃ kk m s, y = lockT kk m s ∧ (Ev.tell s ∈ pre1 ∨ ∃ q, (evRun h1 q).key = some kk) := by
  intro y hy
  rcases List.mem_append.1 hy with hy | hy
  ·rcases List.mem_append.1 hy with hy | hy
   ·exact .inl (hb y hy)
   ·rcases ho y hy with (h | h) | h
    ·exact .inl (he y (.inr h))
    ·exact .inl (he y (.inl (by simp [h])))
    ·exact .inr h
  ·exact .inl (he y (.inl (by simp [mem_toldIn.1 hy])))
 have h6 : ∀ y ∈ base ++ outs ++ toldIn pre1, y.kind ≠ 6 := by
  intro y hy
  rcases hcls y hy with (h | h) | ⟨kk, m, s, rfl, _⟩
  ·rw [h]; decide
  ·rw [h]; decide
  ·show (7 : Int) ≠ 6; decide
 have hrB : makesT (base ++ outs ++ toldIn pre1) r = false := by
  refine hr _ fun y hy => ?_
  rcases List.mem_append.1 hy with hy | hy
  ·rcases List.mem_append.1 hy with hy | hy
   ·exact .inl hy
   ·rcases ho y hy with (h | h) | ⟨kk, m, s, rfl, _⟩
    ·exact .inr (.inr (.inr h))
    ·exact .inr (.inr (.inl (by simp [h])))
    ·exact .inr (.inl rfl)
  ·exact .inr (.inr (.inl (by simp [mem_toldIn.1 hy])))
 generalize hBB : base ++ outs ++ toldIn pre1 = B at *
 have no : ∀ w c, makesT B (kdfT w c r) = false := fun w c => by
  cases hb : makesT B (kdfT w c r) with
  | false => rfl
  | true => rw [(makes_kdf_of h6 hb).2] at hrB; cases hrB
 have hlate : ∀ q kk, (evRun h1 q).key = some kk → makesT B kk = false := by
  intro q kk hk
  obtain ⟨_, k2, h2, h3⟩ := run_hidden h6 q h1 (by rw [← hh1]; exact no 1 _) ⟨_, by rw [← hh1]; rfl, no 2 _⟩
  rw [hk] at h2
  rw [Option.some.inj h2]; exact h3
 have hcl : Closed B := by
  intro y hy z hz
  rcases hcls y hy with h | ⟨kk, m, s, rfl, h⟩
  ·unfold openT at hz
   rw [if_neg (by rcases h with h | h <;> rw [h] <;> decide), if_neg (by rintro ⟨h2, _⟩; rcases h with h | h <;> rw [h] at h2 <;> exact absurd h2 (by decide))] at hz
   cases hz
  ·cases hm : makesT B kk with
   | false =>
    unfold openT at hz
    rw [if_neg (by show ¬ ((7 : Int) = 4); decide), if_neg (by rintro ⟨_, h2⟩; rw [show (lockT kk m s).args.getD 0 tm0 = kk from rfl, hm] at h2; cases h2)] at hz
    cases hz
   | true =>
    rw [open_lock hm] at hz
    rw [List.mem_singleton.1 hz]
    rcases h with h | ⟨q, h⟩
    ·rw [← hBB]; exact List.mem_append_right _ (mem_toldIn.2 h)
    ·rw [hlate q kk h] at hm; cases hm
 have hsub : Sub (base ++ outs) B := fun y hy => makes_has (by rw [← hBB]; exact List.mem_append_left _ hy)
 have hfull := full_sub hcl k _ hsub
 cases hm : makesT (fullF k (base ++ outs)) x with
 | false => rfl
 | true =>
  exfalso
  have h1 := makes_sub hfull x hm
  rw [hx, makes_atom, ← hx, ← hBB] at h1
  rcases List.mem_append.1 h1 with h1 | h1
  ·rcases List.mem_append.1 h1 with h1 | h1
   ·exact hxb h1
   ·rcases ho x h1 with (h | h) | ⟨kk, m, s, h, _⟩
    ·exact hxo h
    ·exact hxt h
    ·rw [hx] at h
     have := congrArg Tm.kind h
     exact absurd this (by show ¬ ((1 : Int) = 7); decide)
  ·exact hxt (mem_toldIn.1 h1)
inductive Tk where
 | pre (w : Nat)
 | e (w : Nat)
 | s (w : Nat)
 | ee
 | es
 | se
 | ss
 | psk (k : Nat)
 | text (i : Nat)
 deriving DecidableEq
def Tk.evs (psks : Bool) : Tk → List Ev
 | .pre w => if psks then [.mix (pubT (3 + (w : Int)))] else []
 | .e w => .out (pubT (3 + (w : Int))) :: (if psks then [.mix (pubT (3 + (w : Int)))] else [])
 | .s w => [.tell (pubT (1 + (w : Int)))]
 | .ee => [.mix (dhT 3 4)]
 | .es => [.mix (dhT 3 2)]
 | .se => [.mix (dhT 1 4)]
 | .ss => [.mix (dhT 1 2)]
 | .psk k => [.mix (atomT (10 + (k : Int)))]
 | .text i => [.tell (atomT (20 + (i : Int)))]
def evsOf (psks : Bool) (l : List Tk) : List Ev := l.flatMap (Tk.evs psks)
def badT (S : List Int) : Tk → Bool
 | .ee => !(S.contains 3) && !(S.contains 4)
 | .es => !(S.contains 3) && !(S.contains 2)
 | .se => !(S.contains 1) && !(S.contains 4)
 | .ss => !(S.contains 1) && !(S.contains 2)
 | .psk k => !(S.contains (10 + (k : Int)))
 | _ => false
def hasE (pres : List Nat) (l : List Tk) (w : Nat) : Bool := pres.contains w || l.contains (.e w)
def needs (pres : List Nat) (l : List Tk) : Tk → Bool
 | .pre w => pres.contains w
 | .ee => hasE pres l 0 && hasE pres l 1
 | .es => hasE pres l 0
 | .se => hasE pres l 1
 | .psk k => decide (k < 10)
 | .e w => decide (w < 10)
 | .s w => decide (w < 10)
 | _ => true
def baseT (pres : List Nat) (S : List Int) : List Tm := [atomT 0, pubT 1, pubT 2] ++ pres.map (fun (w : Nat) => pubT (3 + (w : Int))) ++ S.map atomT
def toldT (psks : Bool) (l : List Tk) : List Tm := (evRun hd0 (evsOf psks l)).out
theorem mem_evsOf {psks : Bool} {l : List Tk} {v : Ev} : v ∈ evsOf psks l ↔ ∃ t ∈ l, v ∈ t.evs psks := by
 unfold evsOf; rw [List.mem_flatMap]
theorem tell_evs {psks : Bool} {t : Tk} {x : Tm} (h : Ev.tell x ∈ t.evs psks) : (∃ w, t = .s w ∧ x = pubT (1 + (w : Int))) ∨ ∃ i, t = .text i ∧ x = atomT (20 + (i : Int)) := by
 cases t <;> simp only [Tk.evs] at h
 case pre w => split at h <;> simp at h
 case e w => split at h <;> simp at h
 case s w => simp at h; exact .inl ⟨w, rfl, h⟩
 case text i => simp at h; exact .inr ⟨i, rfl, h⟩
 all_goals simp at h
theorem out_evs {psks : Bool} {t : Tk} {x : Tm} (h : Ev.out x ∈ t.evs psks) : ∃ w, t = .e w ∧ x = pubT (3 + (w : Int)) := by
 cases t <;> simp only [Tk.evs] at h
 case pre w => split at h <;> simp at h
 case e w => split at h <;> simp at h <;> exact ⟨w, rfl, h⟩
 all_goals simp at h
theorem mem_base {pres : List Nat} {S : List Int} {y : Tm} : y ∈ baseT pres S ↔ (y = atomT 0 ∨ y = pubT 1 ∨ y = pubT 2) ∨ (∃ w ∈ pres, y = pubT (3 + (w : Int))) ∨ ∃ n ∈ S, y = atomT n := by
 unfold baseT
 simp only [List.mem_append, List.mem_map, List.mem_cons, List.not_mem_nil, or_false]
 constructor
 ·rintro ((h | ⟨w, hw, h⟩) | ⟨n, hn, h⟩)
  ·exact .inl h
  ·exact .inr (.inl ⟨w, hw, h.symm⟩)
  ·exact .inr (.inr ⟨n, hn, h.symm⟩)
 ·rintro (h | ⟨w, hw, h⟩ | ⟨n, hn, h⟩)
  ·exact .inl (.inl h)
  ·exact .inl (.inr ⟨w, hw, h.symm⟩)
  ·exact .inr ⟨n, hn, h.symm⟩
theorem atom_ne_pub {a b : Int} : atomT a ≠ pubT b := fun h => absurd (congrArg Tm.kind h) (by show ¬ ((1 : Int) = 2); decide)
theorem atom_inj {a b : Int} (h : atomT a = atomT b) : a = b := congrArg Tm.id h
theorem atom_base {pres : List Nat} {S : List Int} {n : Int} : atomT n ∈ baseT pres S ↔ n = 0 ∨ n ∈ S := by
 rw [mem_base]
 constructor
 ·rintro ((h | h | h) | ⟨w, _, h⟩ | ⟨m, hm, h⟩)
  ·exact .inl (atom_inj h)
  ·exact absurd h atom_ne_pub
  ·exact absurd h atom_ne_pub
  ·exact absurd h atom_ne_pub
  ·rw [atom_inj h]; exact .inr hm
 ·rintro (rfl | h)
  ·exact .inl (.inl rfl)
  ·exact .inr (.inr ⟨n, h, rfl⟩)
def aheadOf (i : Nat) : List Tk → List Tk
 | [] => []
 | t :: l => if t = .text i then [] else t :: aheadOf i l
theorem ahead_split {i : Nat} : ∀ {l : List Tk}, Tk.text i ∈ l → ∃ post, l = aheadOf i l ++ .text i :: post
 | t :: l, h => by
  unfold aheadOf
  split
  ·rename_i e; exact ⟨l, by rw [e]; rfl⟩
  ·rename_i e
   rcases List.mem_cons.1 h with h | h
   ·exact absurd h.symm e
   ·obtain ⟨post, hp⟩ := ahead_split h
    exact ⟨post, by rw [List.cons_append, ← hp]⟩
theorem ahead_no {i : Nat} : ∀ {l : List Tk}, Tk.text i ∉ aheadOf i l
 | [] => by simp [aheadOf]
 | t :: l => by
  unfold aheadOf
  split
  ·simp
  ·rename_i e
   rw [List.mem_cons]
   rintro (h | h)
   ·exact e h.symm
   ·exact ahead_no h
theorem evsOf_append (psks : Bool) (a b : List Tk) : evsOf psks (a ++ b) = evsOf psks a ++ evsOf psks b := by unfold evsOf; rw [List.flatMap_append]
theorem makes_dh_no {B : List Tm} {a b : Int} (hd : dhT a b ∉ B) (ha : atomT a ∉ B) (hb : atomT b ∉ B) : makesT B (dhT a b) = false := by
 cases hm : makesT B (dhT a b) with
 | false => rfl
 | true =>
  rw [makesT_eq, Bool.or_eq_true] at hm
  rcases hm with hm | hm
  ·exact absurd (has_iff.1 hm) hd
  ·have e1 : (dhT a b).kind = 3 := rfl
   have e2 : (dhT a b).id = min a b := rfl
   have e3 : (dhT a b).other = max a b := rfl
   rw [e1, e2, e3, if_neg (by decide), if_neg (by decide), if_pos rfl, Bool.or_eq_true, Bool.and_eq_true, Bool.and_eq_true, has_iff, has_iff] at hm
   rcases Int.le_total a b with h | h
   ·rw [Int.min_eq_left h, Int.max_eq_right h] at hm
    rcases hm with hm | hm
    ·exact absurd hm.1 ha
    ·exact absurd hm.1 hb
   ·rw [Int.min_eq_right h, Int.max_eq_left h] at hm
    rcases hm with hm | hm
    ·exact absurd hm.1 hb
    ·exact absurd hm.1 ha
theorem makes_dh_l {B : List Tm} {a b : Int} (ha : atomT a ∈ B) (hb : pubT b ∈ B) : makesT B (dhT a b) = true :=
 knows_dh (makes_has ha) (makes_has hb)
theorem dh_comm' (a b : Int) : dhT a b = dhT b a := by unfold dhT; rw [Int.min_comm, Int.max_comm]
theorem contains_no {S : List Int} {a : Int} : S.contains a = false ↔ a ∉ S := by rw [← Bool.not_eq_true, List.contains_iff_mem]
theorem hidden_law {psks : Bool} {pres : List Nat} {l : List Tk} {S : List Int} {i : Nat} (hi : Tk.text i ∈ l) (hn : ∀ t ∈ l, needs pres l t = true) (hS : ∀ n ∈ S, n < 20) (hL : fullOk (baseT pres S ++ toldT psks l)) :
  makesT (fullT (baseT pres S ++ toldT psks l)) (atomT (20 + (i : Int))) = !((aheadOf i l).any (badT S)) := by
 obtain ⟨post, hl⟩ := ahead_split hi
 have hno := ahead_no (i := i) (l := l)
 generalize aheadOf i l = ah at hl hno ⊢
 cases hany : ah.any (badT S) with
 | true =>
  rw [List.any_eq_true] at hany
  obtain ⟨t, ht, hbad⟩ := hany
  obtain ⟨p1, p2, rfl⟩ := List.append_of_mem ht
  have hr : ∃ r, t.evs psks = [.mix r] ∧ ∀ B : List Tm, (∀ y ∈ B, y ∈ baseT pres S ∨ y.kind = 7 ∨ Ev.tell y ∈ evsOf psks l ∨ Ev.out y ∈ evsOf psks l) → makesT B r = false := by
   have atomNo : ∀ (B : List Tm) (a : Int), (∀ y ∈ B, y ∈ baseT pres S ∨ y.kind = 7 ∨ Ev.tell y ∈ evsOf psks l ∨ Ev.out y ∈ evsOf psks l) → a ≠ 0 → a < 20 → a ∉ S → atomT a ∉ B := by
    intro B a hB h0 h20 hs hm
    rcases hB _ hm with h | h | h | h
    ·rcases atom_base.1 h with h | h
     ·exact h0 h
     ·exact hs h
    ·exact absurd h (by show ¬ ((1 : Int) = 7); decide)
    ·obtain ⟨t, _, h⟩ := mem_evsOf.1 h
     rcases tell_evs h with ⟨w, _, h⟩ | ⟨j, _, h⟩
     ·exact atom_ne_pub h
     ·have := atom_inj h; omega
    ·obtain ⟨t, _, h⟩ := mem_evsOf.1 h
     obtain ⟨w, _, h⟩ := out_evs h
     exact atom_ne_pub h
   have dhNo : ∀ (B : List Tm) (a b : Int), (∀ y ∈ B, y ∈ baseT pres S ∨ y.kind = 7 ∨ Ev.tell y ∈ evsOf psks l ∨ Ev.out y ∈ evsOf psks l) → dhT a b ∉ B := by
    intro B a b hB hm
    rcases hB _ hm with h | h | h | h
    ·rcases mem_base.1 h with (h | h | h) | ⟨w, _, h⟩ | ⟨m, _, h⟩
     all_goals exact absurd (congrArg Tm.kind h) (by first | (show ¬ ((3 : Int) = 1); decide) | (show ¬ ((3 : Int) = 2); decide))
    ·exact absurd h (by show ¬ ((3 : Int) = 7); decide)
    ·obtain ⟨t, _, h⟩ := mem_evsOf.1 h
     rcases tell_evs h with ⟨w, _, h⟩ | ⟨j, _, h⟩
     ·exact absurd (congrArg Tm.kind h) (by show ¬ ((3 : Int) = 2); decide)
     ·exact absurd (congrArg Tm.kind h) (by show ¬ ((3 : Int) = 1); decide)
    ·obtain ⟨t, _, h⟩ := mem_evsOf.1 h
     obtain ⟨w, _, h⟩ := out_evs h
     exact absurd (congrArg Tm.kind h) (by show ¬ ((3 : Int) = 2); decide)
   have two : ∀ a b : Int, a ≠ 0 → a < 20 → b ≠ 0 → b < 20 → (!(S.contains a) && !(S.contains b)) = true → ∀ B : List Tm, (∀ y ∈ B, y ∈ baseT pres S ∨ y.kind = 7 ∨ Ev.tell y ∈ evsOf psks l ∨ Ev.out y ∈ evsOf psks l) → makesT B (dhT a b) = false := by
    intro a b a0 a20 b0 b20 h B hB
    rw [Bool.and_eq_true, Bool.not_eq_true', Bool.not_eq_true', contains_no, contains_no] at h
    exact makes_dh_no (dhNo B a b hB) (atomNo B a hB a0 a20 h.1) (atomNo B b hB b0 b20 h.2)
   cases t with
   | ee => exact ⟨_, rfl, two 3 4 (by decide) (by decide) (by decide) (by decide) hbad⟩
   | es => exact ⟨_, rfl, two 3 2 (by decide) (by decide) (by decide) (by decide) hbad⟩
   | se => exact ⟨_, rfl, two 1 4 (by decide) (by decide) (by decide) (by decide) hbad⟩
   | ss => exact ⟨_, rfl, two 1 2 (by decide) (by decide) (by decide) (by decide) hbad⟩
   | psk k =>
    refine ⟨_, rfl, fun B hB => ?_⟩
    have hk : k < 10 := of_decide_eq_true (hn (.psk k) (by rw [hl]; simp))
    have hbad : (!(S.contains (10 + (k : Int)))) = true := hbad
    rw [Bool.not_eq_true', contains_no] at hbad
    have := atomNo B (10 + (k : Int)) hB (by omega) (by omega) hbad
    cases hm : makesT B (atomT (10 + (k : Int))) with
    | false => rfl
    | true => exact absurd (makes_atom.1 hm) this
   | pre w => cases hbad
   | e w => cases hbad
   | s w => cases hbad
   | text j => cases hbad
  obtain ⟨r, hr1, hr2⟩ := hr
  have hev : evsOf psks l = evsOf psks p1 ++ Ev.mix r :: evsOf psks (p2 ++ .text i :: post) := by
   rw [hl, List.append_assoc, List.cons_append, evsOf_append]
   congr 1
   show t.evs psks ++ _ = _
   rw [hr1]; rfl
  rw [hev] at hr2
  unfold fullT toldT
  rw [hev]
  refine told_hidden ?_ ?_ hr2 rfl ?_ ?_ ?_ _
  ·intro y hy
   rcases mem_base.1 hy with (h | h | h) | ⟨w, _, h⟩ | ⟨m, _, h⟩
   ·rw [h]; exact .inl rfl
   ·rw [h]; exact .inr rfl
   ·rw [h]; exact .inr rfl
   ·rw [h]; exact .inr rfl
   ·rw [h]; exact .inl rfl
  ·rw [← hev]
   rintro y (h | h)
   ·obtain ⟨t, _, h⟩ := mem_evsOf.1 h
    rcases tell_evs h with ⟨w, _, h⟩ | ⟨j, _, h⟩
    ·rw [h]; exact .inr rfl
    ·rw [h]; exact .inl rfl
   ·obtain ⟨t, _, h⟩ := mem_evsOf.1 h
    obtain ⟨w, _, h⟩ := out_evs h
    rw [h]; exact .inr rfl
  ·rw [atom_base]
   rintro (h | h)
   ·omega
   ·have := hS _ h; omega
  ·rw [← hev]
   intro h
   obtain ⟨t, _, h⟩ := mem_evsOf.1 h
   obtain ⟨w, _, h⟩ := out_evs h
   exact atom_ne_pub h
  ·intro h
   obtain ⟨u, hu, h⟩ := mem_evsOf.1 h
   rcases tell_evs h with ⟨w, _, h2⟩ | ⟨j, hj, h2⟩
   ·exact atom_ne_pub h2
   ·have h3 := atom_inj h2
    have h4 : i = j := by omega
    rw [h4] at hno
    exact hno (by rw [← hj]; simp [hu])
 | false =>
  rw [List.any_eq_false] at hany
  have hev : evsOf psks l = evsOf psks ah ++ Ev.tell (atomT (20 + (i : Int))) :: evsOf psks post := by
   rw [hl, evsOf_append]; rfl
  have hcl := full_closed hL
  have hin : ∀ y ∈ baseT pres S ++ toldT psks l, y ∈ fullT (baseT pres S ++ toldT psks l) := fun y hy => full_has _ _ y hy
  have pubE : ∀ w, hasE pres l w = true → pubT (3 + (w : Int)) ∈ fullT (baseT pres S ++ toldT psks l) := by
   intro w h
   unfold hasE at h
   rw [Bool.or_eq_true, List.contains_iff_mem, List.contains_iff_mem] at h
   rcases h with h | h
   ·exact hin _ (List.mem_append_left _ (mem_base.2 (.inr (.inl ⟨w, h, rfl⟩))))
   ·refine hin _ (List.mem_append_right _ ?_)
    obtain ⟨q, p, hq⟩ := List.append_of_mem h
    unfold toldT
    have : evsOf psks l = evsOf psks q ++ Ev.out (pubT (3 + (w : Int))) :: ((if psks then [.mix (pubT (3 + (w : Int)))] else []) ++ evsOf psks p) := by
     rw [hq, evsOf_append]; rfl
    rw [this, evRun_append]
    exact out_run _ (evStep (evRun hd0 (evsOf psks q)) (.out (pubT (3 + (w : Int))))) _ (List.mem_append_right _ (List.mem_singleton.2 rfl))
  have p1 : pubT 1 ∈ fullT (baseT pres S ++ toldT psks l) := hin _ (List.mem_append_left _ (mem_base.2 (.inl (.inr (.inl rfl)))))
  have p2 : pubT 2 ∈ fullT (baseT pres S ++ toldT psks l) := hin _ (List.mem_append_left _ (mem_base.2 (.inl (.inr (.inr rfl)))))
  have at0 : ∀ n, S.contains n = true → atomT n ∈ fullT (baseT pres S ++ toldT psks l) := fun n h => hin _ (List.mem_append_left _ (mem_base.2 (.inr (.inr ⟨n, List.contains_iff_mem.1 h, rfl⟩))))
  have two : ∀ a b : Int, pubT a ∈ fullT (baseT pres S ++ toldT psks l) → pubT b ∈ fullT (baseT pres S ++ toldT psks l) → ¬ (!(S.contains a) && !(S.contains b)) = true → makesT (fullT (baseT pres S ++ toldT psks l)) (dhT a b) = true := by
   intro a b ha hb h
   cases h1 : S.contains a with
   | true => exact makes_dh_l (at0 a h1) hb
   | false => cases h2 : S.contains b with
    | true => rw [dh_comm']; exact makes_dh_l (at0 b h2) ha
    | false => rw [h1, h2] at h; exact absurd rfl h
  rw [Bool.not_false]
  refine makes_has (told_known (pre := evsOf psks ah) (post := evsOf psks post) hcl (makes_has (hin _ (List.mem_append_left _ (mem_base.2 (.inl (.inl rfl)))))) ?_ ?_)
  ·intro r hr
   obtain ⟨t, ht, h⟩ := mem_evsOf.1 hr
   have hneed := hn t (by rw [hl]; simp [ht])
   have hgood := hany t ht
   cases t with
   | ee =>
    obtain rfl : r = dhT 3 4 := by simpa [Tk.evs] using h
    have hneed : (hasE pres l 0 && hasE pres l 1) = true := hneed
    rw [Bool.and_eq_true] at hneed
    exact two 3 4 (pubE 0 hneed.1) (pubE 1 hneed.2) hgood
   | es =>
    obtain rfl : r = dhT 3 2 := by simpa [Tk.evs] using h
    exact two 3 2 (pubE 0 hneed) p2 hgood
   | se =>
    obtain rfl : r = dhT 1 4 := by simpa [Tk.evs] using h
    exact two 1 4 p1 (pubE 1 hneed) hgood
   | ss =>
    obtain rfl : r = dhT 1 2 := by simpa [Tk.evs] using h
    exact two 1 2 p1 p2 hgood
   | psk k =>
    obtain rfl : r = atomT (10 + (k : Int)) := by simpa [Tk.evs] using h
    have hgood : ¬ (!(S.contains (10 + (k : Int)))) = true := hgood
    refine makes_has (at0 _ ?_)
    cases hb : S.contains (10 + (k : Int)) with
    | true => rfl
    | false => rw [hb] at hgood; exact absurd rfl hgood
   | pre w =>
    simp only [Tk.evs] at h
    split at h
    ·obtain rfl : r = pubT (3 + (w : Int)) := by simpa using h
     exact makes_has (pubE w (by unfold hasE; rw [show pres.contains w = true from hneed]; rfl))
    ·simp at h
   | e w =>
    simp only [Tk.evs] at h
    split at h
    ·obtain rfl : r = pubT (3 + (w : Int)) := by simpa using h
     exact makes_has (pubE w (by unfold hasE; rw [Bool.or_eq_true, List.contains_iff_mem, List.contains_iff_mem]; exact .inr (by rw [hl]; simp [ht])))
    ·simp at h
   | s w => simp [Tk.evs] at h
   | text j => simp [Tk.evs] at h
  ·intro y hy
   refine hin y (List.mem_append_right _ ?_)
   unfold toldT
   rw [hev]; exact hy
end Go.Tm