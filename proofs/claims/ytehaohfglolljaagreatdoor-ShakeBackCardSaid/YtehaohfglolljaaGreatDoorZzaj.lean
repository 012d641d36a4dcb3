import Derived.Test.YtehaohfglolljaaGreatDoorZzaf
import Derived.Test.YtehaohfglolljaaGreatDoorZzah
import Derived.Test.YtehaohfglolljaaGreatDoorZzai
import Derived.Test.YtehaohfglolljaaGreatDoorZzab
set_option linter.unusedSimpArgs false
set_option linter.unusedVariables false
namespace Go.V
open Go
noncomputable section
section
variable {P : Program} {G : Env P}
def Ctr.or (T T' : Ctr G) : Ctr G := ⟨fun f args => match T.C f args with
  | some r => some r
  | none => T'.C f args, fun f args pre out h hp => by
  cases h1 : T.C f args with
  | some r => rw [h1] at h; simp only [Option.some.injEq] at h; subst h; exact T.ok f args pre out h1 hp
  | none => rw [h1] at h; exact T'.ok f args pre out h hp⟩
end
section
variable {P : Program} {G : Env P}
end
def yesF (p : Prop) : Bool := @decide p (Classical.propDecidable p)
def yes : Prop → Bool := (zf yesF).val
theorem zep {p : Prop} : yes p = true ↔ p := by
 rw [yes, (zf yesF).property]; unfold yesF; exact @decide_eq_true_iff p (Classical.propDecidable p)
theorem z1fr {α : Type} (l : List α) (m : Int) (hm : 0 ≤ m) : z19 none (some (cond false (max (l.length : Int) m) (min (l.length : Int) m))) l.length = true := by
 show (nnB _ && leB (Int.toNat _) _) = true;rw [cond_false, z3j.2 (by omega), zp (by omega)]; rfl
theorem z1g2 {α : Type} (l : List α) (m : Int) (hm : 0 ≤ m) : zt none (some (cond false (max (l.length : Int) m) (min (l.length : Int) m))) l = l.take m.toNat := by
 show l.take (Int.toNat _) = _;rw [cond_false];rcases Nat.le_total l.length m.toNat with h | h
 ·rw [List.take_of_length_le h, List.take_of_length_le (by omega)]
 ·congr 1; omega
theorem all8 (l : List UInt8) : List.take l.length (List.drop 0 l) = l := by rw [List.drop_zero, List.take_length]
end
noncomputable section
def z3b (H : zc) : AV → Bool × AV × List (Nat × Ent)
 | .tup l => match z27 H l with
  | (c, l', u) => (c, .tup l', u)
 | a => z1x H a
section
variable {g : Nat → Option (List AV)} {ρ : Rho} {w : World}
theorem zaa (v : AV) (I : Imm) (H : zc) (c : Conc g ρ I H w) (hc : (z3b H v).1 = true) : FrzOk g ρ I H w (z3b H v).2.2 fun I' => ∀ x, rel ρ I w v x → rel ρ I' w (z3b H v).2.1 x := by
 have other : ∀ a, z3b H a = z1x H a → (z3b H a).1 = true → FrzOk g ρ I H w (z3b H a).2.2 fun I' => ∀ x, rel ρ I w a x → rel ρ I' w (z3b H a).2.1 x := by
  intro a h h1;rw [h] at h1 ⊢;obtain ⟨I', f1, f2, f3, f4⟩ := ze7 a I H c h1;exact ⟨I', f1, f2, f3, fun x r => zck (zta H a) f4 r⟩
 cases v with
 | tup l =>
  have hc' : (z27 H l).1 = true := hc;obtain ⟨I', f1, f2, f3, f4⟩ := zgx l I H c hc';refine ⟨I', f1, f2, f3, fun x r => ?_⟩
  obtain ⟨cs, h1, h2⟩ := z44.1 r;exact z44.2 ⟨cs, h1, f4 _ h2⟩
 | _ => exact other _ rfl hc
end
def okOut (out : Out) (v : AV) (H : zc) : Prop := out.has v H ∨ ∃ v' v'' u, z3b H v = (true, v', u) ∧ leV v' v'' ∧ z1a v'' = true ∧ out.has v'' []
section
variable {P : Program} {G : Env P} {R : ROps G} {T : Ctr G}
theorem HCall.of_walkC (L : FuncId → Nat → LPlan) (n : Nat) {f : FuncId} {args : List AV} {out : Out} (hp : zw args = true) (ho : out.okB = true) (h : walk G R T.C L n f args (okOut out)) : HCall G f args out := by
 refine ⟨hp, ho, fun ρ I w vs c r => (ACall.of_walk h ρ I w vs c r).mono ?_⟩
 rintro e w' ⟨x, rfl, ρ', I', v, H', gd, c', hr, hh⟩;rcases hh with hh | ⟨v', v'', u, h1, h2, h3, h4⟩
 ·exact ⟨x, rfl, ρ', I', v, H', gd, c', hr, hh⟩
 ·obtain ⟨I2, f1, f2, f3, f4⟩ := zaa v I' H' c' (by rw [h1])
  rw [h1] at f1 f2 f4;obtain ⟨c2, g2⟩ := z6v f2 0 (fun e he => by simp at he)
  exact ⟨x, rfl, z74 0 ρ', I2, v'', [], g2 (gd.trans f1) (fun id h => absurd (c.dom id h) (by simp)) (Nat.le_refl _), c2, z6y h3 (h2 _ _ _ _ (f4 _ hr)), h4⟩
end
theorem okOut.here {out : Out} {v : AV} {H : zc} (h : out.has v H) : okOut out v H := .inl h
theorem okOut.ret {v : AV} {H : zc} : okOut (.ret v H) v H := .inl ⟨rfl, rfl⟩
theorem okOut.le {out : Out} {v v' : AV} {H : zc} (hv : z1a v = true) (hc : z3b H v = (true, v, [])) (hle : leV v v') (hp : z1a v' = true) (h : out.has v' []) : okOut out v H := .inr ⟨v, v', [], hc, hle, hp, h⟩
theorem okOut.cold {out : Out} {v v' v'' : AV} {H : zc} {u : List (Nat × Ent)} (hc : z3b H v = (true, v', u)) (hle : leV v' v'') (hp : z1a v'' = true) (h : out.has v'' []) : okOut out v H := .inr ⟨v', v'', u, hc, hle, hp, h⟩
theorem okOut.alt {b : Bool} {x y : Out} {v : AV} {H : zc} (h1 : b = true → okOut x v H) (h2 : b = false → okOut y v H) : okOut (.alt b x y) v H := by
 cases b with
 | true => exact h1 rfl
 | false => exact h2 rfl
theorem zrz {l : List UInt8} {n : Nat} (h : n = l.length) : z1x [.grow8 l []] (.sl 0 0 1 n) = (true, .vec8 false l, [(0, .grow8 l [(0, n)])]) := by
 subst h;show (z2u [] 0 l.length && (1 == 1 && leB (0 + l.length) l.length), AV.vec8 false ((l.drop 0).take l.length), [(0, Ent.grow8 l [(0, 0 + l.length)])]) = _;rw [zp (by omega), List.drop_zero, List.take_length, Nat.zero_add]; rfl
theorem z16b {a : AV} (h : z8v a = true) : leV a (.vec8 false []) := fun _ _ _ _ r => by
 obtain ⟨x, rfl⟩ := zg2 h r;exact z1y.2 ⟨x, 0, rfl, Nat.le_refl _, fun _ => rfl, .inl rfl⟩
end
theorem z16l {full : Bool} {k : Nat} (L : List (List AV)) (f : Nat → List AV) (hf : ∀ i, i < L.length → f i = L.getD i []) (ho : ∀ i, i < L.length → okL (f i) = true) : leV (.vec full k (L.map AV.agg)) (.vecr full k L.length f) := by
 intro ρ I w v h;obtain ⟨hsz, vs, hr, hv⟩ := z2h.1 h;rw [List.length_map] at hv;have hlen : vs.length = L.length * k := by
  have : ∀ (rows : List AV) (us : List Value), (∀ a ∈ rows, szA a = k) → RL ρ I w rows us → us.length = rows.length * k := by
   intro rows
   induction rows with
   | nil => intro us _ h; cases h; simp
   | cons a rs ih =>
    intro us hk h;obtain ⟨ys, zs, rfl, h1, h2⟩ := z13.1 h;rw [List.length_append, z3m a ys h1, hk a (by simp), ih zs (fun b hb => hk b (by simp [hb])) h2, List.length_cons, Nat.add_mul, Nat.one_mul, Nat.add_comm]
  have := this _ _ hsz hr
  rwa [List.length_map] at this
 refine z1h.2 ⟨ho, vs, hlen, fun i hi => ?_, hv⟩
 obtain ⟨ys, q1, q2, q3, _⟩ := zfb hsz hr (i := i) (a := .agg L[i]) (by simp [hi])
 have hy : ys.length = k := by
  have h1 := z3m _ _ q1;have h2 := hsz (.agg L[i]) (by simp)
  omega
 have he : (vs.drop (i * k)).take k = ys := by
  apply List.ext_getElem?;intro j;rw [List.getElem?_take, List.getElem?_drop]
  split
  ·rename_i hj;rw [List.getElem?_eq_getElem (l := ys) (by omega)]
   exact q3 j _ (List.getElem?_eq_getElem (by omega))
  ·rw [List.getElem?_eq_none (by omega)]
 rw [he, hf i hi, List.getD_eq_getElem?_getD, List.getElem?_eq_getElem hi];exact q1
noncomputable section
def okG (v0 v : AV) (H : zc) : Prop := ∃ v' u, z3b H v = (true, v', u) ∧ leV v' v0
theorem okG.mk {v0 v v' : AV} {H : zc} {u : List (Nat × Ent)} (h : z3b H v = (true, v', u)) (hle : leV v' v0) : okG v0 v H := ⟨v', u, h, hle⟩
section
variable {P : Program} (G : Env P) (R : ROps G) (C : FuncId → List AV → Option (Bool × Out))
def z5m (L : FuncId → Nat → LPlan) (n : Nat) (f : FuncId) (args : List AV) (H : zc) (K : AV → zc → Prop) : Prop :=
 match P.funcs[f]? with
 | some fn => match fn.body with
  | some c => fL (args ++ List.replicate (fn.ntmps - args.length) (.tup [])) fun t => aw3 G R C (ztm G R C L n) (L f) c (zyv G fn K) ⟨t, H⟩
  | none => False
 | none => False
end
section
variable {P : Program} {G : Env P} {R : ROps G} {T : Ctr G}
theorem GCall.of_walk (L : FuncId → Nat → LPlan) (d : Nat) {f : FuncId} {k n : Nat} {fr : Nat → List AV} {rest : List AV} {v : AV} (hp : zw rest = true) (hv : z1a v = true)
  (h : z5m G R T.C L d f (.slv 0 k n fr :: rest) [.tail k n] (okG v)) : GCall G f (.slv 0 k n fr :: rest) v := by
 refine ⟨hv, k, n, fr, rest, rfl, hp, ?_⟩;unfold z5m at h
 split at h
 ·rename_i fn hf
  split at h
  ·rename_i c hb;have ha : ACall G f (.slv 0 k n fr :: rest) [.tail k n] (okG v) := zbo hf hb (z4i (zbb L d) (L f) c (by
    simp only [z8t] at h;exact h))
   intro ρ I w vs hc hr;refine (ha ρ I w vs hc hr).mono ?_;rintro e w' ⟨x, rfl, ρ', I', v1, H', g, c', hx, v', u, h1, h2⟩;obtain ⟨I2, f1, f2, f3, f4⟩ := zaa v1 I' H' c' (by rw [h1])
   rw [h1] at f1 f2 f4;exact ⟨x, rfl, ρ', I2, v, _, g.trans f1, f2, h2 _ _ _ _ (f4 _ hx), rfl⟩
  ·exact h.elim
 ·exact h.elim
theorem GCall.rows {f : FuncId} {k n : Nat} {fr gr : Nat → List AV} {rest : List AV} {v : AV} (h : GCall G f (.slv 0 k n gr :: rest) v) (hr : ∀ i, i < n → leR (fr i) (gr i)) : GCall G f (.slv 0 k n fr :: rest) v := by
 obtain ⟨hv, k', n', gr', rest', he, hp, hc⟩ := h;simp only [List.cons.injEq, AV.slv.injEq, true_and] at he;obtain ⟨⟨rfl, rfl, rfl⟩, rfl⟩ := he;refine ⟨hv, k, n, fr, rest, rfl, hp, fun ρ I w vs c r => hc ρ I w vs c ?_⟩
 obtain ⟨x, xs, rfl, k1, k2⟩ := zq.1 r;obtain ⟨j1, j2⟩ := z2q.1 k1;exact zq.2 ⟨x, xs, rfl, z2q.2 ⟨z61 id hr _ _ _ _ j1, j2⟩, k2⟩
end
end
noncomputable section
section
variable {P : Program} (G : Env P)
def za7 (op : Op) (ev : Operand → AV) : Option Eff :=
 match op with
 | .buildSlice t len parts => match G.ty t with
  | some ti => match ti.kind with
   | .slice e => match G.ty e with
    | some te => match te.zero with
     | some z => match te.kind with
      | .int .i64 => bif len == 0 then none else match zah (z7j te.size) (List.replicate len z) (parts.toList.map fun p => (p.1, ev p.2)) with
       | some (c, rows) => some (.ck (z6u te z && (rows.length == len && leB (len * te.size) 16777216)) (.ck (rows.all fun r => szA r == te.size) (.one c (.vec true te.size rows) [])))
       | none => none
      | _ => none
     | none => none
    | none => none
   | _ => none
  | none => none
 | _ => none
end
section
variable {P : Program} {G : Env P} {ρ : Rho} {I : Imm} {H : zc} {w : World}
theorem zoh (c : Conc G.g ρ I H w) (ev : Operand → AV) (e : Operand → Value) (r : ∀ x, rel ρ I w (ev x) (e x)) (o : Oper) (E : Eff) (v : AV) (u : List (Nat × Ent)) (h : za7 G o.op ev = some E) (hh : E.has v u) :
  EffOk G ρ I H w ((execOp e o).run P w) v u := by
 unfold za7 at h
 split at h
 case h_2 => cases h
 rename_i t len parts hop
 split at h
 case h_2 => cases h
 rename_i ti hti;obtain ⟨jt, d, _, q2, _, _, q5, _⟩ := z18 hti
 split at h
 case h_2 => cases h
 rename_i el hk;rw [hk] at q5;obtain rfl := TK.of_slice q5
 split at h
 case h_2 => cases h
 rename_i te hte
 split at h
 case h_2 => cases h
 rename_i z hz
 split at h
 case h_2 => cases h
 cases hl : len == 0 with
 | true => rw [hl] at h; simp at h
 | false =>
  rw [hl] at h;simp only [cond_false] at h
  split at h
  case h_2 => cases h
  rename_i cc rows hfill;simp only [Option.some.injEq] at h;subst h;obtain ⟨h1, h2, hcc, rfl, rfl⟩ := hh;simp only [Bool.and_eq_true, beq_iff_eq] at h1;obtain ⟨hok, hlen, hle⟩ := h1;have hl0 : len ≠ 0 := by simpa using hl
  obtain ⟨j, zv, hj, hjs, hjb, hb0, hs0, hjz, hzs, hzr, hzR⟩ := z7m hte hz hok;have hle := zh.1 hle;have hz0 : RL ρ I w (List.replicate len z) ((Array.range (len * j.size)).map (zv.cells[·% zv.cells.size]!)).toList := by
   rw [← hzs, zap zv.cells (by omega) len]
   exact z9f (hzR ρ I w) len
  have hi : (parts.toList.map fun p => (p.1, ev p.2)).map (·.1) = (parts.map fun p => (p.1, e p.2)).toList.map (·.1) := by simp
  have hr : RV ρ I w ((parts.toList.map fun p => (p.1, ev p.2)).map (·.2)) ((parts.map fun p => (p.1, e p.2)).toList.map (·.2)) := by
   refine zcv.2 ⟨by simp, fun i a x ha hx => ?_⟩
   simp only [List.map_map, Array.toList_map, List.getElem?_map] at ha hx;cases hp : parts.toList[i]? with
   | none => simp [hp] at ha
   | some p =>
    simp only [hp, Option.map_some, Option.some.injEq] at ha hx;subst ha; subst hx
    exact r p.2
  obtain ⟨out, o1, o2⟩ := z6e (place' := fun i => some (i * j.size, j.size)) hi hr (fun p _ q hq => by simpa [z7j, hjs] using hq) hz0 hfill hcc
  have hrun := run_buildSlice (P := P) w t el len (parts.map fun p => (p.1, e p.2)) out j zv q2 hj hjz (by rw [hjs]; omega) (by rw [Nat.mul_eq_zero]; omega) o1
  have hnew := z5x w (.cells out el);obtain ⟨g1, g2, g3⟩ := zl5 (w' := w.alloc (.cells out el)) c (by simp) (fun b hb => alloc_old w _ hb) (fun b o => b = w.heap.size) (fun b o h => by subst h; simp) rfl rfl rfl
  have hev : ∀ a ∈ rows, szA a = te.size := fun a ha => by
   rw [List.all_eq_true] at h2;simpa using h2 a ha
  have run : (execOp e o).run P w = .ok (.value (.slice (some ⟨w.heap.size, 0, none⟩) len len)) (w.alloc (.cells out el)) := by
   simp only [execOp, hop, Sem.run_bind, hrun, Result.andThen_ok];rfl
  refine ⟨_, _, .inl run, ρ, _, g1, g2, g3, z2h.2 ⟨hev, out.toList, z14 g3 _ _ o2, some ⟨w.heap.size, 0, none⟩, len, by rw [hlen], by omega, fun _ => by omega, .inr ⟨w.heap.size, 0, rfl, by simp, fun i x hx => ?_⟩⟩⟩
  refine ⟨?_, .inr rfl⟩;rw [Nat.zero_add, cell_of_heap (by rw [hnew])]
  exact hx
theorem zo6 (op : Op) (ev ev' : Operand → AV) (he : ∀ x ∈ op.operands, ev' x = ev x) : za7 G op ev' = za7 G op ev := by
 cases op with
 | buildSlice t len parts =>
  have hp : (parts.toList.map fun p => (p.1, ev' p.2)) = parts.toList.map fun p => (p.1, ev p.2) := by
   apply List.map_congr_left;intro p hp;rw [he p.2 (by simp only [Op.operands, List.mem_toArray, List.mem_map]; exact ⟨p, hp, rfl⟩)]
  simp only [za7, hp]
 | _ => rfl
end
def ROps.lit {P : Program} {G : Env P} (R : ROps G) : ROps G where
 f := fun op ev H nid => match za7 G op ev with
  | some E => some E
  | none => match R.f op ev H nid with
   | some E => some E
   | none => z9n G op ev
 congr := fun op ev ev' H H' nid he hr => by rw [zo6 op ev ev' he, R.congr op ev ev' H H' nid he hr, zha op ev ev' he]
 sound := fun ρ I H w c ev e r o nid E v u h hh => by
  split at h
  ·rename_i E' hE;simp only [Option.some.injEq] at h;subst h;exact zoh c ev e r o E' v u hE hh
  ·split at h
   ·rename_i E' hE;simp only [Option.some.injEq] at h;subst h;exact R.sound ρ I H w c ev e r o nid E' v u hE hh
   ·exact zh4 c ev e r o E v u h hh
 pre := R.pre
 preC := R.preC
 preR := R.preR
 preS := R.preS
mutual
def inA (H : zc) : AV → Bool × AV × List (Nat × Ent)
 | .vec full k rows => match z27 H rows with
  | (c, rows', u) => (c && rows'.all (fun a => szA a == k), .vec full k rows', u)
 | .agg l => match inL H l with
  | (c, l', u) => (c, .agg l', u)
 | a => (true, a, [])
def inL (H : zc) : List AV → Bool × List AV × List (Nat × Ent)
 | [] => (true, [], [])
 | a :: as => match inA H a with
  | (c, a', u) => match inL (zl H u) as with
   | (c', as', u') => (c && c', a' :: as', u ++ u')
end
theorem z14v (H : zc) (a : AV) : z1s (inA H a).2.1 = z1s a := by cases a <;> rfl
section
variable {P : Program} {G : Env P} {g : Nat → Option (List AV)} {ρ : Rho} {w : World}
mutual
theorem zhh : ∀ (a : AV) (I : Imm) (H : zc), Conc g ρ I H w → (inA H a).1 = true → FrzOk g ρ I H w (inA H a).2.2 fun I' => ∀ xs, R ρ I w a xs → R ρ I' w (inA H a).2.1 xs
 | .vec full k rows, I, H, c, hc => by
  have hc2 : (z27 H rows).1 = true ∧ ((z27 H rows).2.1.all fun a => szA a == k) = true := by simpa [inA] using hc
  obtain ⟨I', f1, f2, f3, f4⟩ := zdr rows I H c hc2.1;refine ⟨I', f1, f2, f3, ?_⟩;rintro xs ⟨v, rfl, h1, vs, h2, h3⟩;refine ⟨v, rfl, fun a ha => by have := List.all_eq_true.1 hc2.2 a ha; simpa using this, vs, f4 vs h2, ?_⟩
  have := h3.mono f3
  rwa [show (z27 H rows).2.1.length = rows.length from zib rows H]
 | .agg l, I, H, c, hc => by
  obtain ⟨I', f1, f2, f3, f4⟩ := zq1 l I H c hc;exact ⟨I', f1, f2, f3, fun xs h => f4 xs h⟩
 | .sl _ _ _ _, I, H, c, _ | .slv _ _ _ _, I, H, c, _ | .ptr _ _, I, H, c, _ | .any, I, H, c, _ | .raw _, I, H, c, _ | .int _ _, I, H, c, _ | .u8 _, I, H, c, _ | .u32 _, I, H, c, _ | .u64 _, I, H, c, _ | .bool _, I, H, c, _ | .str _, I, H, c, _ | .b8 _ _, I, H, c, _ | .w32 _ _, I, H, c, _ | .w64 _ _, I, H, c, _ | .n64 _ _, I, H, c, _
 | .pix _ _ _ _, I, H, c, _ | .vec8 _ _, I, H, c, _ | .vecr _ _ _ _, I, H, c, _ | .vp _ _, I, H, c, _ | .vpx _ _ _ _, I, H, c, _ | .fn _ _ _, I, H, c, _ | .tup _, I, H, c, _ => FrzOk.none c fun xs h => h
theorem zq1 : ∀ (l : List AV) (I : Imm) (H : zc), Conc g ρ I H w → (inL H l).1 = true → FrzOk g ρ I H w (inL H l).2.2 fun I' => ∀ xs, RL ρ I w l xs → RL ρ I' w (inL H l).2.1 xs
 | [], I, H, c, _ => FrzOk.none c fun xs h => h
 | a :: as, I, H, c, hc => by
  have hc2 : (inA H a).1 = true ∧ (inL (zl H (inA H a).2.2) as).1 = true := by simpa [inL] using hc
  obtain ⟨I1, f1, f2, f3, f4⟩ := zhh a I H c hc2.1;obtain ⟨I2, g1, g2, g3, g4⟩ := zq1 as I1 (zl H (inA H a).2.2) f2 hc2.2;refine ⟨I2, ?_, ?_, f3.trans' g3, ?_⟩
  ·show Good ρ I H w ρ I2 (zl H ((inA H a).2.2 ++ (inL (zl H (inA H a).2.2) as).2.2)) w;rw [z1e]; exact f1.trans g1
  ·show Conc g ρ I2 (zl H ((inA H a).2.2 ++ (inL (zl H (inA H a).2.2) as).2.2)) w;rw [z1e]; exact g2
  ·rintro xs ⟨ys, zs, rfl, h1, h2⟩;exact ⟨ys, zs, rfl, zcj g3 _ _ (f4 ys h1), g4 zs (z14 f3 _ _ h2)⟩
end
theorem z142 : ∀ (l : List AV) (I : Imm) (H : zc), Conc g ρ I H w → (inL H l).1 = true → FrzOk g ρ I H w (inL H l).2.2 fun I' => ∀ vs, RV ρ I w l vs → RV ρ I' w (inL H l).2.1 vs
 | [], I, H, c, _ => FrzOk.none c fun xs h => h
 | a :: as, I, H, c, hc => by
  have hc2 : (inA H a).1 = true ∧ (inL (zl H (inA H a).2.2) as).1 = true := by simpa [inL] using hc
  obtain ⟨I1, f1, f2, f3, f4⟩ := zhh a I H c hc2.1;obtain ⟨I2, g1, g2, g3, g4⟩ := z142 as I1 (zl H (inA H a).2.2) f2 hc2.2;refine ⟨I2, ?_, ?_, f3.trans' g3, ?_⟩
  ·show Good ρ I H w ρ I2 (zl H ((inA H a).2.2 ++ (inL (zl H (inA H a).2.2) as).2.2)) w;rw [z1e]; exact f1.trans g1
  ·show Conc g ρ I2 (zl H ((inA H a).2.2 ++ (inL (zl H (inA H a).2.2) as).2.2)) w;rw [z1e]; exact g2
  ·intro vs h;obtain ⟨x, xs, rfl, h1, h2⟩ := zq.1 h;exact zq.2 ⟨x, xs, rfl, z8e g3 (zck (z14v H a) f4 h1), g4 xs (z7e f3 _ _ h2)⟩
end
def inT (H : zc) : AV → Bool × AV × List (Nat × Ent)
 | .tup l => match inL H l with
  | (c, l', u) => (c, .tup l', u)
 | a => inA H a
def zae (H : zc) (v : AV) : Bool × AV × List (Nat × Ent) := match z3b H v with
 | (c1, v1, u1) => match inT (zl H u1) v1 with
  | (c2, v2, u2) => (c1 && c2, v2, u1 ++ u2)
section
variable {g : Nat → Option (List AV)} {ρ : Rho} {w : World}
theorem z11n (v : AV) (I : Imm) (H : zc) (c : Conc g ρ I H w) (hc : (inT H v).1 = true) : FrzOk g ρ I H w (inT H v).2.2 fun I' => ∀ x, rel ρ I w v x → rel ρ I' w (inT H v).2.1 x := by
 have other : ∀ a, inT H a = inA H a → (inT H a).1 = true → FrzOk g ρ I H w (inT H a).2.2 fun I' => ∀ x, rel ρ I w a x → rel ρ I' w (inT H a).2.1 x := by
  intro a h h1;rw [h] at h1 ⊢;obtain ⟨I', f1, f2, f3, f4⟩ := zhh a I H c h1;exact ⟨I', f1, f2, f3, fun x r => zck (z14v H a) f4 r⟩
 cases v with
 | tup l =>
  have hc' : (inL H l).1 = true := hc;obtain ⟨I', f1, f2, f3, f4⟩ := z142 l I H c hc';refine ⟨I', f1, f2, f3, fun x r => ?_⟩
  obtain ⟨cs, h1, h2⟩ := z44.1 r;exact z44.2 ⟨cs, h1, f4 _ h2⟩
 | _ => exact other _ rfl hc
theorem zk6 (v : AV) (I : Imm) (H : zc) (c : Conc g ρ I H w) (hc : (zae H v).1 = true) : FrzOk g ρ I H w (zae H v).2.2 fun I' => ∀ x, rel ρ I w v x → rel ρ I' w (zae H v).2.1 x := by
 have hc2 : (z3b H v).1 = true ∧ (inT (zl H (z3b H v).2.2) (z3b H v).2.1).1 = true := by simpa [zae] using hc
 obtain ⟨I1, f1, f2, f3, f4⟩ := zaa v I H c hc2.1;obtain ⟨I2, g1, g2, g3, g4⟩ := z11n (z3b H v).2.1 I1 (zl H (z3b H v).2.2) f2 hc2.2;refine ⟨I2, ?_, ?_, f3.trans' g3, fun x r => g4 x (f4 x r)⟩
 ·show Good ρ I H w ρ I2 (zl H ((z3b H v).2.2 ++ (inT (zl H (z3b H v).2.2) (z3b H v).2.1).2.2)) w;rw [z1e]; exact f1.trans g1
 ·show Conc g ρ I2 (zl H ((z3b H v).2.2 ++ (inT (zl H (z3b H v).2.2) (z3b H v).2.1).2.2)) w;rw [z1e]; exact g2
end
def zbf (q : AV → Bool) (v : AV) (H : zc) : Prop := (zae H v).1 = true ∧ q (zae H v).2.1 = true
def zb9 {α : Type} (W : α → Prop) : List α → Prop
 | [] => True
 | a :: r => W a ∧ zb9 W r
def zeb {α : Type} : List α → Prop
 | [] => True
 | _ :: r => (true = true ∧ true = true) ∧ zeb r
theorem zwh {α : Type} : ∀ l : List α, zeb l
 | [] => trivial
 | _ :: r => ⟨⟨rfl, rfl⟩, zwh r⟩
theorem zlk {α : Type} {W : α → Prop} : ∀ {l : List α}, zb9 W l → ∀ a ∈ l, W a
 | _ :: _, h, a, ha => by
  rcases List.mem_cons.1 ha with rfl | ha
  ·exact h.1
  ·exact zlk h.2 a ha
theorem z9t {α : Type} {W : α → Prop} {l : List α} (h : zb9 W l = zeb l) : ∀ a ∈ l, W a := zlk (h.symm ▸ zwh l)
section
variable {P : Program} {G : Env P} {R : ROps G} {T : Ctr G}
theorem ACall.of_walkH {L : FuncId → Nat → LPlan} {n : Nat} {f : FuncId} {args : List AV} {H : zc} {K : AV → zc → Prop} (h : z5m G R T.C L n f args H K) : ACall G f args H K := by
 unfold z5m at h
 split at h
 ·rename_i fn hf
  split at h
  ·rename_i c hb;exact zbo hf hb (z4i (zbb L n) (L f) c (by
    simp only [z8t] at h;exact h))
  ·exact h.elim
 ·exact h.elim
theorem HCall.of_walkB (L : FuncId → Nat → LPlan) (n : Nat) {f : FuncId} {args : List AV} {q : AV → Bool} {w0 : AV} (hp : zw args = true) (h : z5m G R T.C L n f args [] (zbf q)) (hq : ∀ x, q x = true → leV x w0) (hw : z1a w0 = true) :
  HCall G f args (.ret w0 []) := by
 refine ⟨hp, by simp [Out.okB, z41 _ hw], fun ρ I w vs c r => (ACall.of_walkH h ρ I w vs c r).mono ?_⟩
 rintro e w' ⟨x, rfl, ρ', I', v, H', gd, c', hr, h1, h2⟩;obtain ⟨I2, f1, f2, f3, f4⟩ := zk6 v I' H' c' h1;obtain ⟨c2, g2⟩ := z6v f2 0 (fun e he => by simp at he)
 exact ⟨x, rfl, z74 0 ρ', I2, w0, [], g2 (gd.trans f1) (fun id h => absurd (c.dom id h) (by simp)) (Nat.le_refl _), c2, z6y hw (hq _ h2 _ _ _ _ (f4 _ hr)), ⟨rfl, rfl⟩⟩
end
end
end Go.V
namespace Go.Tm
open Go Go.V
inductive Tm where
 | mk (kind id other : Int) (args : List Tm)
 deriving Inhabited
namespace Tm
def kind : Tm → Int | .mk k _ _ _ => k
def id : Tm → Int | .mk _ i _ _ => i
def other : Tm → Int | .mk _ _ o _ => o
def args : Tm → List Tm | .mk _ _ _ a => a
end Tm
def tm0 : Tm := .mk 0 0 0 []
mutual
def tmC : Tm → List AV
 | .mk k i o as => [.int .i64 k, .int .i64 i, .int .i64 o, .vecr false 4 as.length (tmL as)]
def tmL : List Tm → Nat → List AV
 | [], _ => []
 | a :: _, 0 => tmC a
 | _ :: as, n + 1 => tmL as n
end
noncomputable def tmG : List Tm → Nat → List AV := (zf tmL).val
theorem z13a : tmG = tmL := by rw [tmG, (zf tmL).property]
noncomputable def tmK (t : Tm) : List AV := [.int .i64 t.kind, .int .i64 t.id, .int .i64 t.other, .vecr false 4 t.args.length (tmG t.args)]
noncomputable def tmF (as : List Tm) (i : Nat) : List AV := [.int .i64 (as.getD i tm0).kind, .int .i64 (as.getD i tm0).id, .int .i64 (as.getD i tm0).other, .vecr false 4 (as.getD i tm0).args.length (tmG (as.getD i tm0).args)]
theorem z1fw (t : Tm) : tmK t = tmC t := by cases t; rw [tmK, z13a, tmC]; rfl
theorem z12j (as : List Tm) (i : Nat) : tmF as i = tmK (as.getD i tm0) := rfl
theorem zx8 : ∀ {as : List Tm} {i : Nat}, i < as.length → tmL as i = tmK (as.getD i tm0)
 | a :: as, 0, _ => by rw [tmL, ← z1fw]; rfl
 | a :: as, n + 1, h => by
  rw [tmL, zx8 (as := as) (i := n) (by simpa using h)]; rfl
theorem z19x {as : List Tm} {i : Nat} (h : i < as.length) : tmG as i = tmF as i := by rw [z13a, zx8 h]; rfl
mutual
def rdA : AV → List Tm
 | .vecr _ _ n f => (List.range n).map fun i => rdL (f i)
 | .vec _ _ l => rdR l
 | _ => []
def rdL : List AV → Tm
 | [] => tm0
 | a :: l => rd1 (rdI a) l
def rd1 (k : Int) : List AV → Tm
 | [] => tm0
 | a :: l => rd2 k (rdI a) l
def rd2 (k i : Int) : List AV → Tm
 | [] => tm0
 | a :: l => rd3 k i (rdI a) l
def rd3 (k i o : Int) : List AV → Tm
 | [] => tm0
 | a :: _ => .mk k i o (rdA a)
def rdI : AV → Int
 | .int _ k => k
 | _ => 0
def rdR : List AV → List Tm
 | [] => []
 | a :: l => rdG a :: rdR l
def rdG : AV → Tm
 | .agg cs => rdL cs
 | _ => tm0
end
end Go.Tm
namespace Go.Tm
open Go Go.V
mutual
def okT : AV → Bool
 | .vecr _ k n f => k == 4 && (leB n 1000 && (List.range n).all fun i => okC (f i))
 | .vec _ k l => k == 4 && (leB l.length 1000 && okR l)
 | .vec8 b l => b && l.isEmpty
 | _ => false
def okC : List AV → Bool
 | [] => false
 | a :: l => okI a && zd1 l
def zd1 : List AV → Bool
 | [] => false
 | a :: l => okI a && zfr l
def zfr : List AV → Bool
 | [] => false
 | a :: l => okI a && zkr l
def zkr : List AV → Bool
 | [] => false
 | a :: l => okT a && okE l
def okE : List AV → Bool
 | [] => true
 | _ :: _ => false
def okI : AV → Bool
 | .int .i64 _ => true
 | _ => false
def okR : List AV → Bool
 | [] => true
 | a :: l => z1u a && okR l
def z1u : AV → Bool
 | .agg cs => okC cs
 | _ => false
end
theorem zfn {a : AV} (h : okI a = true) : a = .int .i64 (rdI a) := by
 cases a with
 | int k n => cases k <;> first | rfl | simp [okI] at h
 | _ => simp [okI] at h
theorem z1af (t : Tm) : okL (tmK t) = true := rfl
theorem leR_leV {a b : AV} {as bs : List AV} (ha : z1s a = false) (ha2 : a ≠ .any) (ha3 : szA a = 1) (hb : z1s b = false) (hb2 : b ≠ .any) (hok : okL [b] = true) (h : leV a b) (hr : leR as bs) : leR (a :: as) (b :: bs) := by
 refine leR.mk ?_ fun ρ I w vs r => ?_
 ·have h1 := z3o hr.ok; have h2 := zeg hr.ok
  have h3 := z3o hok; have h4 := zeg hok
  simp only [zw, z77, Bool.and_true] at h3 h4;simp only [okL, zw, z77, h1, h2, h3, h4, Bool.and_self]
 ·obtain ⟨ys, zs, rfl, q, r2⟩ := z13.1 r;have hl := z3m a ys q;rw [ha3] at hl;obtain ⟨v, rfl⟩ : ∃ v, ys = [v] := by
   cases ys with
   | nil => simp at hl
   | cons v t => cases t with
    | nil => exact ⟨v, rfl⟩
    | cons _ _ => simp at hl
  have h1 : rel ρ I w a v := (z89 ha2).2 (by rw [ha]; exact q)
  have h2 := (z89 hb2).1 (h ρ I w v h1);rw [hb] at h2;exact z13.2 ⟨[v], zs, rfl, h2, hr.rl _ _ _ _ r2⟩
theorem z1e9 {x : AV} (h : okT x = true) : z1s x = false ∧ x ≠ .any ∧ szA x = 1 := by
 cases x <;> first | (simp [okT] at h; done) | exact ⟨rfl, nofun, rfl⟩
mutual
theorem z176 : ∀ (x : AV), okT x = true → z1a x = true
 | .vecr b k n f, h => rfl
 | .vec b k l, h => by
  simp only [okT, Bool.and_eq_true] at h;exact ztr l h.2.2
 | .vec8 b l, h => rfl
 | .any, h => by simp [okT] at h
 | .raw _, h => by simp [okT] at h
 | .int _ _, h => by simp [okT] at h
 | .u8 _, h => by simp [okT] at h
 | .u32 _, h => by simp [okT] at h
 | .u64 _, h => by simp [okT] at h
 | .bool _, h => by simp [okT] at h
 | .str _, h => by simp [okT] at h
 | .b8 _ _, h => by simp [okT] at h
 | .w32 _ _, h => by simp [okT] at h
 | .w64 _ _, h => by simp [okT] at h
 | .n64 _ _, h => by simp [okT] at h
 | .ptr _ _, h => by simp [okT] at h
 | .pix _ _ _ _, h => by simp [okT] at h
 | .sl _ _ _ _, h => by simp [okT] at h
 | .slv _ _ _ _, h => by simp [okT] at h
 | .vp _ _, h => by simp [okT] at h
 | .vpx _ _ _ _, h => by simp [okT] at h
 | .fn _ _ _, h => by simp [okT] at h
 | .agg _, h => by simp [okT] at h
 | .tup _, h => by simp [okT] at h
theorem z13k : ∀ (cs : List AV), okC cs = true → okL cs = true
 | [a, b, c, x], h => by
  simp only [okC, zd1, zfr, zkr, Bool.and_eq_true] at h;obtain ⟨h1, h2, h3, h4, h5⟩ := h;rw [zfn h1, zfn h2, zfn h3];have hp := z176 x h4;have ho : zb8 x = true := by cases x <;> first | rfl | simp [okT] at h4
  simp [okL, zw, z1a, z77, zb8, hp, ho]
 | [], h => by simp [okC] at h
 | [_], h => by simp [okC, zd1] at h
 | [_, _], h => by simp [okC, zd1, zfr] at h
 | [_, _, _], h => by simp [okC, zd1, zfr, zkr] at h
 | _ :: _ :: _ :: _ :: _ :: _, h => by simp [okC, zd1, zfr, zkr, okE] at h
theorem ztr : ∀ (l : List AV), okR l = true → zw l = true
 | [], _ => rfl
 | a :: l, h => by
  simp only [okR, Bool.and_eq_true] at h;have h2 := ztr l h.2;have h1 := z180 a h.1;simp [zw, h1, h2]
theorem z180 : ∀ (a : AV), z1u a = true → z1a a = true
 | .agg cs, h => by
  have := z13k cs (by simpa [z1u] using h)
  simpa [z1a] using z3o this
 | .vecr _ _ _ _, h => by simp [z1u] at h
 | .vec _ _ _, h => by simp [z1u] at h
 | .vec8 _ _, h => by simp [z1u] at h
 | .any, h => by simp [z1u] at h
 | .raw _, h => by simp [z1u] at h
 | .int _ _, h => by simp [z1u] at h
 | .u8 _, h => by simp [z1u] at h
 | .u32 _, h => by simp [z1u] at h
 | .u64 _, h => by simp [z1u] at h
 | .bool _, h => by simp [z1u] at h
 | .str _, h => by simp [z1u] at h
 | .b8 _ _, h => by simp [z1u] at h
 | .w32 _ _, h => by simp [z1u] at h
 | .w64 _ _, h => by simp [z1u] at h
 | .n64 _ _, h => by simp [z1u] at h
 | .ptr _ _, h => by simp [z1u] at h
 | .pix _ _ _ _, h => by simp [z1u] at h
 | .sl _ _ _ _, h => by simp [z1u] at h
 | .slv _ _ _ _, h => by simp [z1u] at h
 | .vp _ _, h => by simp [z1u] at h
 | .vpx _ _ _ _, h => by simp [z1u] at h
 | .fn _ _ _, h => by simp [z1u] at h
 | .tup _, h => by simp [z1u] at h
end
mutual
theorem z1dz : ∀ (x : AV), okT x = true → leV x (.vecr false 4 (rdA x).length (tmF (rdA x)))
 | .vecr b k n f, h => by
  simp only [okT, Bool.and_eq_true, beq_iff_eq, List.all_eq_true] at h;obtain ⟨rfl, _, h⟩ := h;have hl : (rdA (.vecr b 4 n f)).length = n := by rw [rdA, List.length_map, List.length_range]
  rw [hl];refine z61 (by simp) fun i hi => ?_
  have hg : (rdA (.vecr b 4 n f)).getD i tm0 = rdL (f i) := by
   rw [rdA, List.getD_eq_getElem?_getD, List.getElem?_map, List.getElem?_range hi]; rfl
  rw [z12j, hg];exact z11q (f i) (h i (List.mem_range.2 hi))
 | .vec b k l, h => by
  simp only [okT, Bool.and_eq_true, beq_iff_eq] at h;obtain ⟨rfl, _, h⟩ := h;obtain ⟨L, rfl, h1, h2⟩ := zxc l h;have e : rdA (.vec b 4 (L.map AV.agg)) = L.map rdL := by rw [rdA]; exact h1
  rw [e, List.length_map];intro ρ I w v r;refine z61 (f := fun i => L.getD i []) (full := false) (full' := b) (by simp) (fun i hi => ?_) _ _ _ _ (z16l L (fun i => L.getD i []) (fun _ _ => rfl) (fun i hi => ?_) _ _ _ _ r)
  ·rw [z12j, List.getD_eq_getElem?_getD, List.getD_eq_getElem?_getD, List.getElem?_map, List.getElem?_eq_getElem hi];exact (h2 _ (List.getElem_mem hi)).2
  ·rw [List.getD_eq_getElem?_getD, List.getElem?_eq_getElem hi];exact (h2 _ (List.getElem_mem hi)).1
 | .vec8 b l, h => by
  simp only [okT, Bool.and_eq_true] at h;have e : rdA (.vec8 b l) = [] := by simp [rdA]
  rw [e];exact zj9 (by cases b <;> simp_all [z8v])
 | .any, h => by simp [okT] at h
 | .raw _, h => by simp [okT] at h
 | .int _ _, h => by simp [okT] at h
 | .u8 _, h => by simp [okT] at h
 | .u32 _, h => by simp [okT] at h
 | .u64 _, h => by simp [okT] at h
 | .bool _, h => by simp [okT] at h
 | .str _, h => by simp [okT] at h
 | .b8 _ _, h => by simp [okT] at h
 | .w32 _ _, h => by simp [okT] at h
 | .w64 _ _, h => by simp [okT] at h
 | .n64 _ _, h => by simp [okT] at h
 | .ptr _ _, h => by simp [okT] at h
 | .pix _ _ _ _, h => by simp [okT] at h
 | .sl _ _ _ _, h => by simp [okT] at h
 | .slv _ _ _ _, h => by simp [okT] at h
 | .vp _ _, h => by simp [okT] at h
 | .vpx _ _ _ _, h => by simp [okT] at h
 | .fn _ _ _, h => by simp [okT] at h
 | .agg _, h => by simp [okT] at h
 | .tup _, h => by simp [okT] at h
theorem z11q : ∀ (cs : List AV), okC cs = true → leR cs (tmK (rdL cs))
 | [a, b, c, x], h => by
  simp only [okC, zd1, zfr, zkr, Bool.and_eq_true] at h;obtain ⟨h1, h2, h3, h4, h5⟩ := h;rw [zfn h1, zfn h2, zfn h3];obtain ⟨q1, q2, q3⟩ := z1e9 h4;have hx := z1dz x h4;have e : tmK (rdL [.int .i64 (rdI a), .int .i64 (rdI b), .int .i64 (rdI c), x]) = [.int .i64 (rdI a), .int .i64 (rdI b), .int .i64 (rdI c), .vecr false 4 (rdA x).length (tmG (rdA x))] := rfl;rw [e];refine z8c rfl (z8c rfl (z8c rfl (leR_leV q1 q2 q3 rfl (by simp) rfl (fun ρ I w v r => ?_) zjd)))
  exact z61 (f := tmF (rdA x)) (by simp) (fun i hi => by rw [z19x hi]; exact leR.refl (z1af _)) _ _ _ _ (hx _ _ _ _ r)
 | [], h => by simp [okC] at h
 | [_], h => by simp [okC, zd1] at h
 | [_, _], h => by simp [okC, zd1, zfr] at h
 | [_, _, _], h => by simp [okC, zd1, zfr, zkr] at h
 | _ :: _ :: _ :: _ :: _ :: _, h => by simp [okC, zd1, zfr, zkr, okE] at h
theorem zxc : ∀ (l : List AV), okR l = true → ∃ L : List (List AV), l = L.map AV.agg ∧ rdR l = L.map rdL ∧ ∀ cs ∈ L, okL cs = true ∧ leR cs (tmK (rdL cs))
 | [], _ => ⟨[], rfl, by rw [rdR]; rfl, fun _ h => absurd h (by simp)⟩
 | .agg cs :: l, h => by
  simp only [okR, z1u, Bool.and_eq_true] at h;obtain ⟨L, h1, h2, h3⟩ := zxc l h.2;have k1 := z13k cs h.1;have k2 := z11q cs h.1;refine ⟨cs :: L, by rw [h1]; rfl, by rw [rdR, h2, rdG]; rfl, ?_⟩
  intro c hc;rcases List.mem_cons.1 hc with hc | hc
  ·rw [hc]; exact ⟨k1, k2⟩
  ·exact h3 c hc
 | .vecr _ _ _ _ :: _, h => by simp [okR, z1u] at h
 | .vec _ _ _ :: _, h => by simp [okR, z1u] at h
 | .vec8 _ _ :: _, h => by simp [okR, z1u] at h
 | .any :: _, h => by simp [okR, z1u] at h
 | .raw _ :: _, h => by simp [okR, z1u] at h
 | .int _ _ :: _, h => by simp [okR, z1u] at h
 | .u8 _ :: _, h => by simp [okR, z1u] at h
 | .u32 _ :: _, h => by simp [okR, z1u] at h
 | .u64 _ :: _, h => by simp [okR, z1u] at h
 | .bool _ :: _, h => by simp [okR, z1u] at h
 | .str _ :: _, h => by simp [okR, z1u] at h
 | .b8 _ _ :: _, h => by simp [okR, z1u] at h
 | .w32 _ _ :: _, h => by simp [okR, z1u] at h
 | .w64 _ _ :: _, h => by simp [okR, z1u] at h
 | .n64 _ _ :: _, h => by simp [okR, z1u] at h
 | .ptr _ _ :: _, h => by simp [okR, z1u] at h
 | .pix _ _ _ _ :: _, h => by simp [okR, z1u] at h
 | .sl _ _ _ _ :: _, h => by simp [okR, z1u] at h
 | .slv _ _ _ _ :: _, h => by simp [okR, z1u] at h
 | .vp _ _ :: _, h => by simp [okR, z1u] at h
 | .vpx _ _ _ _ :: _, h => by simp [okR, z1u] at h
 | .fn _ _ _ :: _, h => by simp [okR, z1u] at h
 | .tup _ :: _, h => by simp [okR, z1u] at h
end
end Go.Tm
namespace Go.V
open Go
theorem zoc {full : Bool} {k : Nat} {rows : List AV} (ho : ∀ i, i < rows.length → okL (z4m rows i) = true) : leV (.vec full k rows) (.vecr full k rows.length (z4m rows)) := by
 intro ρ I w v h;obtain ⟨hsz, vs, hr, hv⟩ := z2h.1 h;obtain ⟨h1, h2⟩ := zj2 hsz hr;obtain ⟨h3, h4⟩ := z93 h2 h1;exact z1h.2 ⟨ho, vs, h3, h4, hv⟩
theorem leV.trans {a b c : AV} (h : leV a b) (g : leV b c) : leV a c := fun _ _ _ _ r => g _ _ _ _ (h _ _ _ _ r)
end Go.V
namespace Go.Pat
open Go Go.V
theorem map_range {α β : Type} (f : α → β) (d : α) (l : List α) (g : Nat → β) (h : ∀ i, i < l.length → g i = f (l.getD i d)) : (List.range l.length).map g = l.map f := by
 apply List.ext_getElem
 ·simp
 ·intro i h1 h2;have hi : i < l.length := by simpa using h2
  rw [List.getElem_map, List.getElem_range, List.getElem_map, h i hi, List.getD_eq_getElem?_getD, List.getElem?_eq_getElem hi, Option.getD_some]
def intF (l : List Int) (i : Nat) : List AV := [.int .i64 (l.getD i 0)]
def vI (l : List Int) : AV := .vecr false 1 l.length (intF l)
def trF (ts : List (List Int)) (i : Nat) : List AV := [.vecr false 1 (ts.getD i []).length (intF (ts.getD i []))]
def vT (ts : List (List Int)) : AV := .vecr false 1 ts.length (trF ts)
def iv : AV → Int
 | .int _ k => k
 | _ => 0
def iok : AV → Bool
 | .int .i64 _ => true
 | _ => false
theorem z1dv {a : AV} (h : iok a = true) : a = .int .i64 (iv a) := by
 cases a with
 | int k n => cases k <;> first | rfl | simp [iok] at h
 | _ => simp [iok] at h
def iv1 : List AV → Int
 | a :: _ => iv a
 | [] => 0
def iok1 : List AV → Bool
 | [a] => iok a
 | _ => false
theorem zo8 {l : List AV} (h : iok1 l = true) : l = [.int .i64 (iv1 l)] := by
 match l, h with
 | [a], h => rw [z1dv (a := a) h]; rfl
def z5w : AV → List Int
 | .vecr _ _ n f => (List.range n).map fun i => iv1 (f i)
 | .vec _ _ l => l.map fun a => iv1 a.cells
 | _ => []
def z5q : AV → Bool
 | .vecr _ k n f => k == 1 && (List.range n).all fun i => iok1 (f i)
 | .vec _ k l => k == 1 && l.all fun a => iok1 a.cells
 | .vec8 b l => b && l.isEmpty
 | _ => false
theorem zxx (l : List Int) (i : Nat) : okL (intF l i) = true := rfl
theorem za1 {x : AV} (h : z5q x = true) : leV x (vI (z5w x)) := by
 cases x with
 | vecr b k n f =>
  simp only [z5q, Bool.and_eq_true, beq_iff_eq, List.all_eq_true] at h;obtain ⟨rfl, h⟩ := h;have hl : (z5w (.vecr b 1 n f)).length = n := by rw [z5w, List.length_map, List.length_range]
  unfold vI;rw [hl];refine z61 (by simp) fun i hi => leR.of_eq (zxx _ _) ?_
  rw [zo8 (h i (List.mem_range.2 hi))];unfold intF;rw [z5w, List.getD_eq_getElem?_getD, List.getElem?_map, List.getElem?_range hi]; rfl
 | vec b k l =>
  simp only [z5q, Bool.and_eq_true, beq_iff_eq, List.all_eq_true] at h;obtain ⟨rfl, h⟩ := h;have hr : ∀ i, i < l.length → z4m l i = intF (l.map fun a => iv1 a.cells) i := by
   intro i hi;have := zo8 (h l[i] (List.getElem_mem hi));unfold z4m intF;rw [List.getD_eq_getElem?_getD, List.getD_eq_getElem?_getD, List.getElem?_map, List.getElem?_eq_getElem hi];simp only [Option.getD_some, Option.map_some];exact this
  have e : (z5w (.vec b 1 l)) = l.map fun a => iv1 a.cells := rfl
  rw [e];unfold vI;rw [List.length_map];refine (zoc fun i hi => by rw [hr i hi]; rfl).trans (z61 (by simp) fun i hi => leR.of_eq (zxx _ _) (hr i hi))
 | vec8 b l =>
  simp only [z5q, Bool.and_eq_true] at h;exact zj9 (by cases b <;> simp_all [z8v])
 | _ => simp [z5q] at h
def rd1 : List AV → List Int
 | a :: _ => z5w a
 | [] => []
def ok1 : List AV → Bool
 | [a] => z5q a
 | _ => false
def zgu : AV → List (List Int)
 | .vecr _ _ n f => (List.range n).map fun i => rd1 (f i)
 | .vec _ _ l => l.map z5w
 | _ => []
def ze2 : AV → Bool
 | .vecr _ k n f => k == 1 && (List.range n).all fun i => ok1 (f i)
 | .vec _ k l => k == 1 && l.all z5q
 | .vec8 b l => b && l.isEmpty
 | _ => false
theorem zf6 {x : AV} (h : z5q x = true) : z1s x = false ∧ x ≠ .any ∧ szA x = 1 ∧ x.cells = [x] := by
 cases x <;> first | (simp [z5q] at h; done) | exact ⟨rfl, nofun, rfl, rfl⟩
theorem z11y {x : AV} (h : z5q x = true) : z1a x = true := by
 cases x with
 | vec b k l =>
  simp only [z5q, Bool.and_eq_true, List.all_eq_true] at h;have key : ∀ m : List AV, (∀ a ∈ m, iok1 a.cells = true) → zw m = true := by
   intro m
   induction m with
   | nil => intro _; rfl
   | cons a m ih =>
    intro h;have h1 := zo8 (h a (by simp))
    have h2 : z1a a = true := by
     cases a with
     | agg l => simp only [AV.cells] at h1; rw [h1]; rfl
     | _ => simp only [AV.cells, List.cons.injEq, and_true] at h1; rw [h1]; rfl
    rw [zw, ih (fun b hb => h b (by simp [hb])), h2]; rfl
  exact key l h.2
 | _ => first | rfl | simp [z5q] at h
theorem zxk {x : AV} {l : List Int} (h : z5q x = true) (hl : z5w x = l) : leR [x] [.vecr false 1 l.length (intF l)] := by
 subst hl;obtain ⟨h1, h2, h3, _⟩ := zf6 h;exact Go.Tm.leR_leV h1 h2 h3 rfl (by simp) rfl (za1 h) zjd
theorem zx2 {x : AV} (h : ze2 x = true) : leV x (vT (zgu x)) := by
 cases x with
 | vecr b k n f =>
  simp only [ze2, Bool.and_eq_true, beq_iff_eq, List.all_eq_true] at h;obtain ⟨rfl, h⟩ := h;have hl : (zgu (.vecr b 1 n f)).length = n := by rw [zgu, List.length_map, List.length_range]
  unfold vT;rw [hl];refine z61 (by simp) fun i hi => ?_
  have h1 := h i (List.mem_range.2 hi);have e : (zgu (.vecr b 1 n f)).getD i [] = rd1 (f i) := by
   rw [zgu, List.getD_eq_getElem?_getD, List.getElem?_map, List.getElem?_range hi]; rfl
  unfold trF;rw [e]
  match hf : f i, h1 with
  | [a], h1 => exact zxk h1 rfl
 | vec b k l =>
  simp only [ze2, Bool.and_eq_true, beq_iff_eq, List.all_eq_true] at h;obtain ⟨rfl, h⟩ := h;have hr : ∀ i, i < l.length → leR (z4m l i) (trF (l.map z5w) i) := by
   intro i hi;have h1 := h l[i] (List.getElem_mem hi);have e1 : z4m l i = [l[i]] := by
    unfold z4m;rw [List.getD_eq_getElem?_getD, List.getElem?_eq_getElem hi];exact (zf6 h1).2.2.2
   have e2 : (l.map z5w).getD i [] = z5w l[i] := by
    rw [List.getD_eq_getElem?_getD, List.getElem?_map, List.getElem?_eq_getElem hi]; rfl
   unfold trF;rw [e1, e2];exact zxk h1 rfl
  have e : (zgu (.vec b 1 l)) = l.map z5w := rfl;rw [e];unfold vT;rw [List.length_map];intro ρ I w v r;obtain ⟨hsz, vs, hrl, hv⟩ := z2h.1 r;obtain ⟨h1, h2⟩ := zj2 hsz hrl;obtain ⟨h3, h4⟩ := z93 h2 h1;exact z1h.2 ⟨fun i _ => rfl, vs, h3, fun i hi => (hr i hi).rl _ _ _ _ (h4 i hi), hv.imp fun a => fun ⟨c, k1, k2, k3, k4⟩ => ⟨c, k1, k2, fun h => (by cases h), k4⟩⟩
 | vec8 b l =>
  simp only [ze2, Bool.and_eq_true] at h;exact zj9 (by cases b <;> simp_all [z8v])
 | _ => simp [ze2] at h
theorem z130 {ρ : Rho} {I : Imm} {w : World} {α : Type} (f g : α → AV) : ∀ (l : List α) (_ : ∀ a ∈ l, ∀ xs, R ρ I w (f a) xs → R ρ I w (g a) xs) (vs : List Value), RL ρ I w (l.map f) vs → RL ρ I w (l.map g) vs
 | [], _, _, h => h
 | a :: l, hi, vs, h => by
  obtain ⟨ys, zs, rfl, h1, h2⟩ := z13.1 h;exact z13.2 ⟨ys, zs, rfl, hi a (by simp) _ h1, z130 f g l (fun b hb => hi b (by simp [hb])) zs h2⟩
theorem zij {k n : Nat} {f : Nat → List AV} {g : Nat → AV} (hg : ∀ i, i < n → szA (g i) = k) (h : ∀ (ρ : Rho) (I : Imm) (w : World) (i : Nat) (xs : List Value), i < n → RL ρ I w (f i) xs → R ρ I w (g i) xs) : leV (.vecr false k n f) (.vec false k ((List.range n).map g)) := by
 intro ρ I w v r;obtain ⟨ho, vs, hl, hr, hv⟩ := z1h.1 r;obtain ⟨r1, _⟩ := z90 hl hr;have hlen : ((List.range n).map g).length = n := by rw [List.length_map, List.length_range]
 refine z2h.2 ⟨fun a ha => ?_, vs, ?_, by rw [hlen]; exact hv⟩
 ·obtain ⟨i, hi, rfl⟩ := List.mem_map.1 ha;exact hg i (List.mem_range.1 hi)
 ·exact z130 (fun i => AV.agg (f i)) g (List.range n) (fun i hi xs hx => h ρ I w i xs (List.mem_range.1 hi) hx) vs r1
theorem zv9 {ρ : Rho} {I : Imm} {w : World} {a : AV} {xs : List Value} (h : RL ρ I w [a] xs) : R ρ I w a xs := by
 obtain ⟨ys, zs, rfl, h1, h2⟩ := z13.1 h;cases h2;rw [List.append_nil]; exact h1
def vL (l : List Int) : AV := .vec false 1 (l.map fun x => .int .i64 x)
def vLL (ts : List (List Int)) : AV := .vec false 1 (ts.map vL)
theorem z8y (l : List Int) : leV (.vecr false 1 l.length (intF l)) (vL l) := by
 have := zij (k := 1) (n := l.length) (f := intF l) (g := fun i => .int .i64 (l.getD i 0)) (fun _ _ => rfl) fun ρ I w i xs _ hx => zv9 hx
 rwa [map_range (fun x => AV.int .i64 x) 0 l (fun i => .int .i64 (l.getD i 0)) fun _ _ => rfl] at this
theorem zwn (ts : List (List Int)) : leV (.vecr false 1 ts.length (trF ts)) (vLL ts) := by
 have := zij (k := 1) (n := ts.length) (f := trF ts) (g := fun i => vL (ts.getD i [])) (fun _ _ => rfl) fun ρ I w i xs _ hx => by
  have h1 := zv9 hx;have hx : ∃ v, xs = [v] := by obtain ⟨v, h0, _⟩ := h1; exact ⟨v, h0⟩
  obtain ⟨v, rfl⟩ := hx;exact z8y (ts.getD i []) ρ I w v h1
 rwa [map_range vL [] ts (fun i => vL (ts.getD i [])) fun _ _ => rfl] at this
theorem zc1 (l : List Int) : z1a (vL l) = true := by
 show zw (l.map _) = true
 induction l with
 | nil => rfl
 | cons a l ih => exact ih
theorem ztc (ts : List (List Int)) : z1a (vLL ts) = true := by
 show zw (ts.map _) = true
 induction ts with
 | nil => rfl
 | cons a l ih => rw [List.map_cons, zw, zc1, ih]; rfl
structure Pat where
 base : List UInt8
 late : Bool
 psks : List Int
 pre0 : List Int
 pre1 : List Int
 turns : List (List Int)
 deriving DecidableEq, Inhabited
def zrr (p : Pat) : List AV := [.str p.base, .bool p.late, .vecr false 1 p.psks.length (intF p.psks), .vecr false 1 p.pre0.length (intF p.pre0), .vecr false 1 p.pre1.length (intF p.pre1), .vecr false 1 p.turns.length (trF p.turns)]
def zi3 (p : Pat) : AV := .agg (zrr p)
def z9k (p : Pat) : AV := .agg [.str p.base, .bool p.late, vL p.psks, vL p.pre0, vL p.pre1, vLL p.turns]
theorem zd5 (p : Pat) : z1a (z9k p) = true := by
 show zw _ = true;simp only [zw, z1a, zc1, ztc, Bool.and_self]
theorem zrl {x y : AV} {as bs : List AV} (h1 : z1s x = false) (h2 : x ≠ .any) (h3 : szA x = 1) (h4 : z1s y = false) (h5 : y ≠ .any) (h6 : z1a y = true) (h7 : zb8 y = true) (h : leV x y) (hr : leR as bs) : leR (x :: as) (y :: bs) :=
 Go.Tm.leR_leV h1 h2 h3 h4 h5 (by simp [okL, zw, z77, h6, h7]) h hr
theorem zla (p : Pat) : leV (zi3 p) (z9k p) :=
 zy3 (z8c rfl (z8c rfl (zrl rfl (by simp) rfl rfl (by simp [vL]) (zc1 _) rfl (z8y _) (zrl rfl (by simp) rfl rfl (by simp [vL]) (zc1 _) rfl (z8y _) (zrl rfl (by simp) rfl rfl (by simp [vL]) (zc1 _) rfl (z8y _) (zrl rfl (by simp) rfl rfl (by simp [vLL]) (ztc _) rfl (zwn _) zjd))))))
def z109 : List AV → Pat
 | [.str b, .bool l, x, y, z, t] => ⟨b, l, z5w x, z5w y, z5w z, zgu t⟩
 | _ => default
def zrf : List AV → Bool
 | [.str _, .bool _, x, y, z, t] => z5q x && (z5q y && (z5q z && ze2 t))
 | _ => false
theorem z1ab {x : AV} (h : ze2 x = true) : z1s x = false ∧ x ≠ .any ∧ szA x = 1 := by
 cases x <;> first | (simp [ze2] at h; done) | exact ⟨rfl, nofun, rfl⟩
theorem z12q : ∀ {l : List AV}, zrf l = true → leR l (zrr (z109 l))
 | [.str b, .bool lt, x, y, z, t], h => by
  simp only [zrf, Bool.and_eq_true] at h;obtain ⟨h1, h2, h3, h4⟩ := h;obtain ⟨a1, a2, a3, _⟩ := zf6 h1;obtain ⟨b1, b2, b3, _⟩ := zf6 h2;obtain ⟨c1, c2, c3, _⟩ := zf6 h3;obtain ⟨d1, d2, d3⟩ := z1ab h4;exact z8c rfl (z8c rfl (Go.Tm.leR_leV a1 a2 a3 rfl (by simp) rfl (za1 h1) (Go.Tm.leR_leV b1 b2 b3 rfl (by simp) rfl (za1 h2) (Go.Tm.leR_leV c1 c2 c3 rfl (by simp) rfl (za1 h3) (Go.Tm.leR_leV d1 d2 d3 rfl (by simp) rfl (zx2 h4) zjd)))))
theorem z1b8 {l : List AV} (h : zrf (flL l) = true) : leV (.agg l) (zi3 (z109 (flL l))) :=
 (z4n l).trans (zy3 (z12q h))
def z18p (s : List UInt8) : Pat :=
 if s = [78, 78] then ⟨s, false, [], [], [], [[1], [1, 3]]⟩
 else if s = [78, 75] then ⟨s, false, [], [], [2], [[1, 4], [1, 3]]⟩
 else if s = [88, 88] then ⟨s, false, [], [], [], [[1], [1, 3, 2, 4], [2, 5]]⟩
 else if s = [73, 75] then ⟨s, false, [], [], [2], [[1, 4, 2, 6], [1, 3, 5]]⟩
 else if s = [88, 75] then ⟨s, false, [], [], [2], [[1, 4], [1, 3], [2, 5]]⟩
 else if s = [75, 75] then ⟨s, false, [], [2], [2], [[1, 4, 6], [1, 3, 5]]⟩
 else ⟨s, true, [], [1], [], [[1, 3, 2, 4], [2, 5]]⟩
def putP (t : List (List Int)) (n : Int) : List (List Int) :=
 if n = 0 then t.set 0 (7 :: t.getD 0 []) else t.set (n.toNat - 1) (t.getD (n.toNat - 1) [] ++ [7])
def zgm (s : List UInt8) (l : List Int) : Pat := { z18p s with psks := l, turns := l.foldl putP (z18p s).turns }
def plF (k : Nat) : Nat → List Int
 | 0 => bif k % 2 == 1 then [0] else []
 | n + 1 => plF k n ++ bif (k / 2 ^ (n + 1)) % 2 == 1 then [((n + 1 : Nat) : Int)] else []
def plL (m k : Int) : List Int := plF k.toNat m.toNat
def z191 : List UInt8 := [88, 88, 102, 97, 108, 108, 98, 97, 99, 107]
def zt9 : List (List UInt8 × List Int) :=
 ([[78, 78], [78, 75], [73, 75], [75, 75]].flatMap fun s => (List.range 8).map fun k => (s, plF k 2)) ++ ([[88, 88], [88, 75]].flatMap fun s => (List.range 16).map fun k => (s, plF k 3)) ++ [(z191, [])]
def isW (s : List UInt8) (l : List Int) : Bool := decide ((s, l) ∈ zt9)
def allP : List Pat := zt9.map fun x => zgm x.1 x.2
def isP (p : Pat) : Bool := decide (p ∈ allP)
theorem zjo {p : Pat} : isP p = true ↔ ∃ s l, isW s l = true ∧ zgm s l = p := by
 simp only [isP, isW, decide_eq_true_eq, allP, List.mem_map];constructor
 ·rintro ⟨⟨s, l⟩, h, rfl⟩; exact ⟨s, l, h, rfl⟩
 ·rintro ⟨s, l, h, rfl⟩; exact ⟨(s, l), h, rfl⟩
def zrj (p : Pat) : AV → Bool
 | .tup [.agg l, .int .i64 e] => zrf (flL l) && (decide (z109 (flL l) = p) && e == 0)
 | _ => false
theorem ztf {p : Pat} {x : AV} (h : zrj p x = true) : leV x (.tup [zi3 p, .int .i64 0]) := by
 unfold zrj at h
 split at h
 ·rename_i l e;simp only [Bool.and_eq_true, decide_eq_true_eq, beq_iff_eq] at h;obtain ⟨h1, h2, rfl⟩ := h;refine z9m (z1b ?_ (z1b (leV.refl _) z4w));rw [← h2];exact z1b8 h1
 ·cases h
def zl4 : AV → Bool
 | .int .i64 e => e == 0
 | _ => false
theorem z1b9 {x : AV} (h : zl4 x = true) : leV x (.int .i64 0) := by
 unfold zl4 at h
 split at h
 ·simp only [beq_iff_eq] at h;subst h;exact leV.refl _
 ·cases h
end Go.Pat