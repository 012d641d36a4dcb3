import Derived.Test.YtehaohfglolljaaGreatDoorZzaf
import Derived.Test.YtehaohfglolljaaGreatDoorZzah
import Derived.Test.YtehaohfglolljaaGreatDoorZzai
import Derived.Test.YtehaohfglolljaaGreatDoorZzab
noncomputable section
set_option linter.unusedSimpArgs false
set_option linter.unusedVariables false
namespace Go.V
open Go
noncomputable section
section
variable {P : Program} {G : Env P}
def Ctr.or (T T' : Ctr G) : Ctr G := ⟨fun f args => match T.C f args with
  | some r => some r
  | none => T'.C f args, fun f args pre out h hp => by
  cases h1 : T.C f args with
  | some r => rw [h1] at h; simp only [Option.some.injEq] at h; subst h; exact T.ok f args pre out h1 hp
  | none => rw [h1] at h; exact T'.ok f args pre out h hp⟩
end
section
variable {P : Program} {G : Env P}
end
def yesF (p : Prop) : Bool := @decide p (Classical.propDecidable p)
def yes : Prop → Bool := (zf yesF).val
theorem z8y {p : Prop} : yes p = true ↔ p := by
 rw [yes, (zf yesF).property]; unfold yesF; exact @decide_eq_true_iff p (Classical.propDecidable p)
theorem z1h7 {α : Type} (l : List α) (m : Int) (hm : 0 ≤ m) : z1d none (some (cond false (max (l.length : Int) m) (min (l.length : Int) m))) l.length = true := by
 show (nnB _ && leB (Int.toNat _) _) = true;rw [cond_false, z3e.2 (by omega), zp (by omega)]; rfl
theorem z1kw {α : Type} (l : List α) (m : Int) (hm : 0 ≤ m) : zx none (some (cond false (max (l.length : Int) m) (min (l.length : Int) m))) l = l.take m.toNat := by
 show l.take (Int.toNat _) = _;rw [cond_false];rcases Nat.le_total l.length m.toNat with h | h
 ·rw [List.take_of_length_le h, List.take_of_length_le (by omega)]
 ·congr 1; omega
theorem all8 (l : List UInt8) : List.take l.length (List.drop 0 l) = l := by rw [List.drop_zero, List.take_length]
end
noncomputable section
def z3f (H : Heap) : AV → Bool × AV × List (Nat × Ent)
 | .tup l => match z2a H l with
  | (c, l', u) => (c, .tup l', u)
 | a => z23 H a
section
variable {g : Nat → Option (List AV)} {ρ : Rho} {w : World}
theorem zan (v : AV) (I : Imm) (H : Heap) (c : Conc g ρ I H w) (hc : (z3f H v).1 = true) : FrzOk g ρ I H w (z3f H v).2.2 fun I' => ∀ x, rel ρ I w v x → rel ρ I' w (z3f H v).2.1 x := by
 have other : ∀ a, z3f H a = z23 H a → (z3f H a).1 = true → FrzOk g ρ I H w (z3f H a).2.2 fun I' => ∀ x, rel ρ I w a x → rel ρ I' w (z3f H a).2.1 x := by
  intro a h h1;rw [h] at h1 ⊢;obtain ⟨I', f1, f2, f3, f4⟩ := zej a I H c h1;exact ⟨I', f1, f2, f3, fun x r => zd0 (zt8 H a) f4 r⟩
 cases v with
 | tup l =>
  have hc' : (z2a H l).1 = true := hc;obtain ⟨I', f1, f2, f3, f4⟩ := zge l I H c hc';refine ⟨I', f1, f2, f3, fun x r => ?_⟩
  obtain ⟨cs, h1, h2⟩ := z49.1 r;exact z49.2 ⟨cs, h1, f4 _ h2⟩
 | _ => exact other _ rfl hc
end
def okOut (out : Out) (v : AV) (H : Heap) : Prop := out.has v H ∨ ∃ v' v'' u, z3f H v = (true, v', u) ∧ leV v' v'' ∧ z1b v'' = true ∧ out.has v'' []
section
variable {P : Program} {G : Env P} {R : ROps G} {T : Ctr G}
theorem HCall.z1li (L : FuncId → Nat → LPlan) (n : Nat) {f : FuncId} {args : List AV} {out : Out} (hp : zw args = true) (ho : out.okB = true) (h : walk G R T.C L n f args (okOut out)) : HCall G f args out := by
 refine ⟨hp, ho, fun ρ I w vs c r => (ACall.z1lg h ρ I w vs c r).mono ?_⟩
 rintro e w' ⟨x, rfl, ρ', I', v, H', gd, c', hr, hh⟩;rcases hh with hh | ⟨v', v'', u, h1, h2, h3, h4⟩
 ·exact ⟨x, rfl, ρ', I', v, H', gd, c', hr, hh⟩
 ·obtain ⟨I2, f1, f2, f3, f4⟩ := zan v I' H' c' (by rw [h1])
  rw [h1] at f1 f2 f4;obtain ⟨c2, g2⟩ := z7n f2 0 (fun e he => by simp at he)
  exact ⟨x, rfl, z7l 0 ρ', I2, v'', [], g2 (gd.trans f1) (fun id h => absurd (c.dom id h) (by simp)) (Nat.le_refl _), c2, z7i h3 (h2 _ _ _ _ (f4 _ hr)), h4⟩
end
theorem okOut.here {out : Out} {v : AV} {H : Heap} (h : out.has v H) : okOut out v H := .inl h
theorem okOut.ret {v : AV} {H : Heap} : okOut (.ret v H) v H := .inl ⟨rfl, rfl⟩
theorem okOut.le {out : Out} {v v' : AV} {H : Heap} (hv : z1b v = true) (hc : z3f H v = (true, v, [])) (hle : leV v v') (hp : z1b v' = true) (h : out.has v' []) : okOut out v H := .inr ⟨v, v', [], hc, hle, hp, h⟩
theorem okOut.cold {out : Out} {v v' v'' : AV} {H : Heap} {u : List (Nat × Ent)} (hc : z3f H v = (true, v', u)) (hle : leV v' v'') (hp : z1b v'' = true) (h : out.has v'' []) : okOut out v H := .inr ⟨v', v'', u, hc, hle, hp, h⟩
theorem okOut.alt {b : Bool} {x y : Out} {v : AV} {H : Heap} (h1 : b = true → okOut x v H) (h2 : b = false → okOut y v H) : okOut (.alt b x y) v H := by
 cases b with
 | true => exact h1 rfl
 | false => exact h2 rfl
theorem zuq {l : List UInt8} {n : Nat} (h : n = l.length) : z23 [.grow8 l []] (.sl 0 0 1 n) = (true, .vec8 false l, [(0, .grow8 l [(0, n)])]) := by
 subst h;show (z2x [] 0 l.length && (1 == 1 && leB (0 + l.length) l.length), AV.vec8 false ((l.drop 0).take l.length), [(0, Ent.grow8 l [(0, 0 + l.length)])]) = _;rw [zp (by omega), List.drop_zero, List.take_length, Nat.zero_add]; rfl
theorem z176 {a : AV} (h : z9s a = true) : leV a (.vec8 false []) := fun _ _ _ _ r => by
 obtain ⟨x, rfl⟩ := zgo h r;exact z22.2 ⟨x, 0, rfl, Nat.le_refl _, fun _ => rfl, .inl rfl⟩
end
theorem z19k {full : Bool} {k : Nat} (L : List (List AV)) (f : Nat → List AV) (hf : ∀ i, i < L.length → f i = L.getD i []) (ho : ∀ i, i < L.length → okL (f i) = true) : leV (.vec full k (L.map AV.agg)) (.vecr full k L.length f) := by
 intro ρ I w v h;obtain ⟨hsz, vs, hr, hv⟩ := z2h.1 h;rw [List.length_map] at hv;have hlen : vs.length = L.length * k := by
  have : ∀ (rows : List AV) (us : List Value), (∀ a ∈ rows, szA a = k) → RL ρ I w rows us → us.length = rows.length * k := by
   intro rows
   induction rows with
   | nil => intro us _ h; cases h; simp
   | cons a rs ih =>
    intro us hk h;obtain ⟨ys, zs, rfl, h1, h2⟩ := z12.1 h;rw [List.length_append, z3o a ys h1, hk a (by simp), ih zs (fun b hb => hk b (by simp [hb])) h2, List.length_cons, Nat.add_mul, Nat.one_mul, Nat.add_comm]
  have := this _ _ hsz hr
  rwa [List.length_map] at this
 refine z1j.2 ⟨ho, vs, hlen, fun i hi => ?_, hv⟩
 obtain ⟨ys, q1, q2, q3, _⟩ := zfn hsz hr (i := i) (a := .agg L[i]) (by simp [hi])
 have hy : ys.length = k := by
  have h1 := z3o _ _ q1;have h2 := hsz (.agg L[i]) (by simp)
  omega
 have he : (vs.drop (i * k)).take k = ys := by
  apply List.ext_getElem?;intro j;rw [List.getElem?_take, List.getElem?_drop]
  split
  ·rename_i hj;rw [List.getElem?_eq_getElem (l := ys) (by omega)]
   exact q3 j _ (List.getElem?_eq_getElem (by omega))
  ·rw [List.getElem?_eq_none (by omega)]
 rw [he, hf i hi, List.getD_eq_getElem?_getD, List.getElem?_eq_getElem hi];exact q1
noncomputable section
def okG (v0 v : AV) (H : Heap) : Prop := ∃ v' u, z3f H v = (true, v', u) ∧ leV v' v0
theorem okG.mk {v0 v v' : AV} {H : Heap} {u : List (Nat × Ent)} (h : z3f H v = (true, v', u)) (hle : leV v' v0) : okG v0 v H := ⟨v', u, h, hle⟩
section
variable {P : Program} (G : Env P) (R : ROps G) (C : FuncId → List AV → Option (Bool × Out))
def z5e (L : FuncId → Nat → LPlan) (n : Nat) (f : FuncId) (args : List AV) (H : Heap) (K : AV → Heap → Prop) : Prop :=
 match P.funcs[f]? with
 | some fn => match fn.body with
  | some c => fL (args ++ List.replicate (fn.ntmps - args.length) (.tup [])) fun t => aw3 G R C (zwd G R C L n) (L f) c (aend G fn K) ⟨t, H⟩
  | none => False
 | none => False
end
section
variable {P : Program} {G : Env P} {R : ROps G} {T : Ctr G}
theorem GCall.z1lg (L : FuncId → Nat → LPlan) (d : Nat) {f : FuncId} {k n : Nat} {fr : Nat → List AV} {rest : List AV} {v : AV} (hp : zw rest = true) (hv : z1b v = true)
  (h : z5e G R T.C L d f (.slv 0 k n fr :: rest) [.tail k n] (okG v)) : GCall G f (.slv 0 k n fr :: rest) v := by
 refine ⟨hv, k, n, fr, rest, rfl, hp, ?_⟩;unfold z5e at h
 split at h
 ·rename_i fn hf
  split at h
  ·rename_i c hb;have ha : ACall G f (.slv 0 k n fr :: rest) [.tail k n] (okG v) := zbz hf hb (z4o (zbv L d) (L f) c (by
    simp only [z9p] at h;exact h))
   intro ρ I w vs hc hr;refine (ha ρ I w vs hc hr).mono ?_;rintro e w' ⟨x, rfl, ρ', I', v1, H', g, c', hx, v', u, h1, h2⟩;obtain ⟨I2, f1, f2, f3, f4⟩ := zan v1 I' H' c' (by rw [h1])
   rw [h1] at f1 f2 f4;exact ⟨x, rfl, ρ', I2, v, _, g.trans f1, f2, h2 _ _ _ _ (f4 _ hx), rfl⟩
  ·exact h.elim
 ·exact h.elim
theorem GCall.rows {f : FuncId} {k n : Nat} {fr gr : Nat → List AV} {rest : List AV} {v : AV} (h : GCall G f (.slv 0 k n gr :: rest) v) (hr : ∀ i, i < n → leR (fr i) (gr i)) : GCall G f (.slv 0 k n fr :: rest) v := by
 obtain ⟨hv, k', n', gr', rest', he, hp, hc⟩ := h;simp only [List.cons.injEq, AV.slv.injEq, true_and] at he;obtain ⟨⟨rfl, rfl, rfl⟩, rfl⟩ := he;refine ⟨hv, k, n, fr, rest, rfl, hp, fun ρ I w vs c r => hc ρ I w vs c ?_⟩
 obtain ⟨x, xs, rfl, k1, k2⟩ := zr.1 r;obtain ⟨j1, j2⟩ := z2r.1 k1;exact zr.2 ⟨x, xs, rfl, z2r.2 ⟨z6d id hr _ _ _ _ j1, j2⟩, k2⟩
end
end
noncomputable section
section
variable {P : Program} (G : Env P)
def zaf (op : Op) (ev : Operand → AV) : Option Eff :=
 match op with
 | .buildSlice t len parts => match G.ty t with
  | some ti => match ti.kind with
   | .slice e => match G.ty e with
    | some te => match te.zero with
     | some z => match te.kind with
      | .int .i64 => bif len == 0 then none else match zax (z85 te.size) (List.replicate len z) (parts.toList.map fun p => (p.1, ev p.2)) with
       | some (c, rows) => some (.ck (z6z te z && (rows.length == len && leB (len * te.size) 16777216)) (.ck (rows.all fun r => szA r == te.size) (.one c (.vec true te.size rows) [])))
       | none => none
      | _ => none
     | none => none
    | none => none
   | _ => none
  | none => none
 | _ => none
end
section
variable {P : Program} {G : Env P} {ρ : Rho} {I : Imm} {H : Heap} {w : World}
theorem zp8 (c : Conc G.g ρ I H w) (ev : Operand → AV) (e : Operand → Value) (r : ∀ x, rel ρ I w (ev x) (e x)) (o : Oper) (E : Eff) (v : AV) (u : List (Nat × Ent)) (h : zaf G o.op ev = some E) (hh : E.has v u) :
  EffOk G ρ I H w ((execOp e o).run P w) v u := by
 unfold zaf at h
 split at h
 case h_2 => cases h
 rename_i t len parts hop
 split at h
 case h_2 => cases h
 rename_i ti hti;obtain ⟨jt, d, _, q2, _, _, q5, _⟩ := z1a hti
 split at h
 case h_2 => cases h
 rename_i el hk;rw [hk] at q5;obtain rfl := TK.of_slice q5
 split at h
 case h_2 => cases h
 rename_i te hte
 split at h
 case h_2 => cases h
 rename_i z hz
 split at h
 case h_2 => cases h
 cases hl : len == 0 with
 | true => rw [hl] at h; simp at h
 | false =>
  rw [hl] at h;simp only [cond_false] at h
  split at h
  case h_2 => cases h
  rename_i cc rows hfill;simp only [Option.some.injEq] at h;subst h;obtain ⟨h1, h2, hcc, rfl, rfl⟩ := hh;simp only [Bool.and_eq_true, beq_iff_eq] at h1;obtain ⟨hok, hlen, hle⟩ := h1;have hl0 : len ≠ 0 := by simpa using hl
  obtain ⟨j, zv, hj, hjs, hjb, hb0, hs0, hjz, hzs, hzr, hzR⟩ := z84 hte hz hok;have hle := zh.1 hle;have hz0 : RL ρ I w (List.replicate len z) ((Array.range (len * j.size)).map (zv.cells[·% zv.cells.size]!)).toList := by
   rw [← hzs, zbf zv.cells (by omega) len]
   exact z9b (hzR ρ I w) len
  have hi : (parts.toList.map fun p => (p.1, ev p.2)).map (·.1) = (parts.map fun p => (p.1, e p.2)).toList.map (·.1) := by simp
  have hr : RV ρ I w ((parts.toList.map fun p => (p.1, ev p.2)).map (·.2)) ((parts.map fun p => (p.1, e p.2)).toList.map (·.2)) := by
   refine zd6.2 ⟨by simp, fun i a x ha hx => ?_⟩
   simp only [List.map_map, Array.toList_map, List.getElem?_map] at ha hx;cases hp : parts.toList[i]? with
   | none => simp [hp] at ha
   | some p =>
    simp only [hp, Option.map_some, Option.some.injEq] at ha hx;subst ha; subst hx
    exact r p.2
  obtain ⟨out, o1, o2⟩ := z6n (place' := fun i => some (i * j.size, j.size)) hi hr (fun p _ q hq => by simpa [z85, hjs] using hq) hz0 hfill hcc
  have hrun := run_buildSlice (P := P) w t el len (parts.map fun p => (p.1, e p.2)) out j zv q2 hj hjz (by rw [hjs]; omega) (by rw [Nat.mul_eq_zero]; omega) o1
  have hnew := z69 w (.cells out el);obtain ⟨g1, g2, g3⟩ := zma (w' := w.alloc (.cells out el)) c (by simp) (fun b hb => alloc_old w _ hb) (fun b o => b = w.heap.size) (fun b o h => by subst h; simp) rfl rfl rfl
  have hev : ∀ a ∈ rows, szA a = te.size := fun a ha => by
   rw [List.all_eq_true] at h2;simpa using h2 a ha
  have run : (execOp e o).run P w = .ok (.value (.slice (some ⟨w.heap.size, 0, none⟩) len len)) (w.alloc (.cells out el)) := by
   simp only [execOp, hop, Sem.run_bind, hrun, Result.andThen_ok];rfl
  refine ⟨_, _, .inl run, ρ, _, g1, g2, g3, z2h.2 ⟨hev, out.toList, z15 g3 _ _ o2, some ⟨w.heap.size, 0, none⟩, len, by rw [hlen], by omega, fun _ => by omega, .inr ⟨w.heap.size, 0, rfl, by simp, fun i x hx => ?_⟩⟩⟩
  refine ⟨?_, .inr rfl⟩;rw [Nat.zero_add, cell_of_heap (by rw [hnew])]
  exact hx
theorem zpi (op : Op) (ev ev' : Operand → AV) (he : ∀ x ∈ op.operands, ev' x = ev x) : zaf G op ev' = zaf G op ev := by
 cases op with
 | buildSlice t len parts =>
  have hp : (parts.toList.map fun p => (p.1, ev' p.2)) = parts.toList.map fun p => (p.1, ev p.2) := by
   apply List.map_congr_left;intro p hp;rw [he p.2 (by simp only [Op.operands, List.mem_toArray, List.mem_map]; exact ⟨p, hp, rfl⟩)]
  simp only [zaf, hp]
 | _ => rfl
end
def ROps.lit {P : Program} {G : Env P} (R : ROps G) : ROps G where
 f := fun op ev H nid => match zaf G op ev with
  | some E => some E
  | none => match R.f op ev H nid with
   | some E => some E
   | none => za1 G op ev
 congr := fun op ev ev' H H' nid he hr => by rw [zpi op ev ev' he, R.congr op ev ev' H H' nid he hr, zhx op ev ev' he]
 sound := fun ρ I H w c ev e r o nid E v u h hh => by
  split at h
  ·rename_i E' hE;simp only [Option.some.injEq] at h;subst h;exact zp8 c ev e r o E' v u hE hh
  ·split at h
   ·rename_i E' hE;simp only [Option.some.injEq] at h;subst h;exact R.sound ρ I H w c ev e r o nid E' v u hE hh
   ·exact zht c ev e r o E v u h hh
 pre := R.pre
 preC := R.preC
 preR := R.preR
 preS := R.preS
mutual
def inA (H : Heap) : AV → Bool × AV × List (Nat × Ent)
 | .vec full k rows => match z2a H rows with
  | (c, rows', u) => (c && rows'.all (fun a => szA a == k), .vec full k rows', u)
 | .agg l => match inL H l with
  | (c, l', u) => (c, .agg l', u)
 | a => (true, a, [])
def inL (H : Heap) : List AV → Bool × List AV × List (Nat × Ent)
 | [] => (true, [], [])
 | a :: as => match inA H a with
  | (c, a', u) => match inL (zm H u) as with
   | (c', as', u') => (c && c', a' :: as', u ++ u')
end
theorem z14p (H : Heap) (a : AV) : z1w (inA H a).2.1 = z1w a := by cases a <;> rfl
section
variable {P : Program} {G : Env P} {g : Nat → Option (List AV)} {ρ : Rho} {w : World}
mutual
theorem zjh : ∀ (a : AV) (I : Imm) (H : Heap), Conc g ρ I H w → (inA H a).1 = true → FrzOk g ρ I H w (inA H a).2.2 fun I' => ∀ xs, R ρ I w a xs → R ρ I' w (inA H a).2.1 xs
 | .vec full k rows, I, H, c, hc => by
  have hc2 : (z2a H rows).1 = true ∧ ((z2a H rows).2.1.all fun a => szA a == k) = true := by simpa [inA] using hc
  obtain ⟨I', f1, f2, f3, f4⟩ := zex rows I H c hc2.1;refine ⟨I', f1, f2, f3, ?_⟩;rintro xs ⟨v, rfl, h1, vs, h2, h3⟩;refine ⟨v, rfl, fun a ha => by have := List.all_eq_true.1 hc2.2 a ha; simpa using this, vs, f4 vs h2, ?_⟩
  have := h3.mono f3
  rwa [show (z2a H rows).2.1.length = rows.length from zik rows H]
 | .agg l, I, H, c, hc => by
  obtain ⟨I', f1, f2, f3, f4⟩ := zqh l I H c hc;exact ⟨I', f1, f2, f3, fun xs h => f4 xs h⟩
 | .sl _ _ _ _, I, H, c, _ | .slv _ _ _ _, I, H, c, _ | .ptr _ _, I, H, c, _ | .any, I, H, c, _ | .raw _, I, H, c, _ | .int _ _, I, H, c, _ | .u8 _, I, H, c, _ | .u32 _, I, H, c, _ | .u64 _, I, H, c, _ | .bool _, I, H, c, _ | .str _, I, H, c, _ | .b8 _ _, I, H, c, _ | .w32 _ _, I, H, c, _ | .w64 _ _, I, H, c, _ | .n64 _ _, I, H, c, _
 | .pix _ _ _ _, I, H, c, _ | .vec8 _ _, I, H, c, _ | .vecr _ _ _ _, I, H, c, _ | .vp _ _, I, H, c, _ | .vpx _ _ _ _, I, H, c, _ | .fn _ _ _, I, H, c, _ | .tup _, I, H, c, _ => FrzOk.none c fun xs h => h
theorem zqh : ∀ (l : List AV) (I : Imm) (H : Heap), Conc g ρ I H w → (inL H l).1 = true → FrzOk g ρ I H w (inL H l).2.2 fun I' => ∀ xs, RL ρ I w l xs → RL ρ I' w (inL H l).2.1 xs
 | [], I, H, c, _ => FrzOk.none c fun xs h => h
 | a :: as, I, H, c, hc => by
  have hc2 : (inA H a).1 = true ∧ (inL (zm H (inA H a).2.2) as).1 = true := by simpa [inL] using hc
  obtain ⟨I1, f1, f2, f3, f4⟩ := zjh a I H c hc2.1;obtain ⟨I2, g1, g2, g3, g4⟩ := zqh as I1 (zm H (inA H a).2.2) f2 hc2.2;refine ⟨I2, ?_, ?_, f3.trans' g3, ?_⟩
  ·show Good ρ I H w ρ I2 (zm H ((inA H a).2.2 ++ (inL (zm H (inA H a).2.2) as).2.2)) w;rw [z1h]; exact f1.trans g1
  ·show Conc g ρ I2 (zm H ((inA H a).2.2 ++ (inL (zm H (inA H a).2.2) as).2.2)) w;rw [z1h]; exact g2
  ·rintro xs ⟨ys, zs, rfl, h1, h2⟩;exact ⟨ys, zs, rfl, zdk g3 _ _ (f4 ys h1), g4 zs (z15 f3 _ _ h2)⟩
end
theorem z156 : ∀ (l : List AV) (I : Imm) (H : Heap), Conc g ρ I H w → (inL H l).1 = true → FrzOk g ρ I H w (inL H l).2.2 fun I' => ∀ vs, RV ρ I w l vs → RV ρ I' w (inL H l).2.1 vs
 | [], I, H, c, _ => FrzOk.none c fun xs h => h
 | a :: as, I, H, c, hc => by
  have hc2 : (inA H a).1 = true ∧ (inL (zm H (inA H a).2.2) as).1 = true := by simpa [inL] using hc
  obtain ⟨I1, f1, f2, f3, f4⟩ := zjh a I H c hc2.1;obtain ⟨I2, g1, g2, g3, g4⟩ := z156 as I1 (zm H (inA H a).2.2) f2 hc2.2;refine ⟨I2, ?_, ?_, f3.trans' g3, ?_⟩
  ·show Good ρ I H w ρ I2 (zm H ((inA H a).2.2 ++ (inL (zm H (inA H a).2.2) as).2.2)) w;rw [z1h]; exact f1.trans g1
  ·show Conc g ρ I2 (zm H ((inA H a).2.2 ++ (inL (zm H (inA H a).2.2) as).2.2)) w;rw [z1h]; exact g2
  ·intro vs h;obtain ⟨x, xs, rfl, h1, h2⟩ := zr.1 h;exact zr.2 ⟨x, xs, rfl, z8o g3 (zd0 (z14p H a) f4 h1), g4 xs (z7v f3 _ _ h2)⟩
end
def inT (H : Heap) : AV → Bool × AV × List (Nat × Ent)
 | .tup l => match inL H l with
  | (c, l', u) => (c, .tup l', u)
 | a => inA H a
def zao (H : Heap) (v : AV) : Bool × AV × List (Nat × Ent) := match z3f H v with
 | (c1, v1, u1) => match inT (zm H u1) v1 with
  | (c2, v2, u2) => (c1 && c2, v2, u1 ++ u2)
section
variable {g : Nat → Option (List AV)} {ρ : Rho} {w : World}
theorem z160 (v : AV) (I : Imm) (H : Heap) (c : Conc g ρ I H w) (hc : (inT H v).1 = true) : FrzOk g ρ I H w (inT H v).2.2 fun I' => ∀ x, rel ρ I w v x → rel ρ I' w (inT H v).2.1 x := by
 have other : ∀ a, inT H a = inA H a → (inT H a).1 = true → FrzOk g ρ I H w (inT H a).2.2 fun I' => ∀ x, rel ρ I w a x → rel ρ I' w (inT H a).2.1 x := by
  intro a h h1;rw [h] at h1 ⊢;obtain ⟨I', f1, f2, f3, f4⟩ := zjh a I H c h1;exact ⟨I', f1, f2, f3, fun x r => zd0 (z14p H a) f4 r⟩
 cases v with
 | tup l =>
  have hc' : (inL H l).1 = true := hc;obtain ⟨I', f1, f2, f3, f4⟩ := z156 l I H c hc';refine ⟨I', f1, f2, f3, fun x r => ?_⟩
  obtain ⟨cs, h1, h2⟩ := z49.1 r;exact z49.2 ⟨cs, h1, f4 _ h2⟩
 | _ => exact other _ rfl hc
theorem zl9 (v : AV) (I : Imm) (H : Heap) (c : Conc g ρ I H w) (hc : (zao H v).1 = true) : FrzOk g ρ I H w (zao H v).2.2 fun I' => ∀ x, rel ρ I w v x → rel ρ I' w (zao H v).2.1 x := by
 have hc2 : (z3f H v).1 = true ∧ (inT (zm H (z3f H v).2.2) (z3f H v).2.1).1 = true := by simpa [zao] using hc
 obtain ⟨I1, f1, f2, f3, f4⟩ := zan v I H c hc2.1;obtain ⟨I2, g1, g2, g3, g4⟩ := z160 (z3f H v).2.1 I1 (zm H (z3f H v).2.2) f2 hc2.2;refine ⟨I2, ?_, ?_, f3.trans' g3, fun x r => g4 x (f4 x r)⟩
 ·show Good ρ I H w ρ I2 (zm H ((z3f H v).2.2 ++ (inT (zm H (z3f H v).2.2) (z3f H v).2.1).2.2)) w;rw [z1h]; exact f1.trans g1
 ·show Conc g ρ I2 (zm H ((z3f H v).2.2 ++ (inT (zm H (z3f H v).2.2) (z3f H v).2.1).2.2)) w;rw [z1h]; exact g2
end
def zav (q : AV → Bool) (v : AV) (H : Heap) : Prop := (zao H v).1 = true ∧ q (zao H v).2.1 = true
def zac {α : Type} (W : α → Prop) : List α → Prop
 | [] => True
 | a :: r => W a ∧ zac W r
def zd8 {α : Type} : List α → Prop
 | [] => True
 | _ :: r => (true = true ∧ true = true) ∧ zd8 r
theorem zzs {α : Type} : ∀ l : List α, zd8 l
 | [] => trivial
 | _ :: r => ⟨⟨rfl, rfl⟩, zzs r⟩
theorem zm6 {α : Type} {W : α → Prop} : ∀ {l : List α}, zac W l → ∀ a ∈ l, W a
 | _ :: _, h, a, ha => by
  rcases List.mem_cons.1 ha with rfl | ha
  ·exact h.1
  ·exact zm6 h.2 a ha
theorem z91 {α : Type} {W : α → Prop} {l : List α} (h : zac W l = zd8 l) : ∀ a ∈ l, W a := zm6 (h.symm ▸ zzs l)
section
variable {P : Program} {G : Env P} {R : ROps G} {T : Ctr G}
theorem ACall.z1m2 {L : FuncId → Nat → LPlan} {n : Nat} {f : FuncId} {args : List AV} {H : Heap} {K : AV → Heap → Prop} (h : z5e G R T.C L n f args H K) : ACall G f args H K := by
 unfold z5e at h
 split at h
 ·rename_i fn hf
  split at h
  ·rename_i c hb;exact zbz hf hb (z4o (zbv L n) (L f) c (by
    simp only [z9p] at h;exact h))
  ·exact h.elim
 ·exact h.elim
theorem HCall.z1lq (L : FuncId → Nat → LPlan) (n : Nat) {f : FuncId} {args : List AV} {q : AV → Bool} {w0 : AV} (hp : zw args = true) (h : z5e G R T.C L n f args [] (zav q)) (hq : ∀ x, q x = true → leV x w0) (hw : z1b w0 = true) :
  HCall G f args (.ret w0 []) := by
 refine ⟨hp, by simp [Out.okB, z3p _ hw], fun ρ I w vs c r => (ACall.z1m2 h ρ I w vs c r).mono ?_⟩
 rintro e w' ⟨x, rfl, ρ', I', v, H', gd, c', hr, h1, h2⟩;obtain ⟨I2, f1, f2, f3, f4⟩ := zl9 v I' H' c' h1;obtain ⟨c2, g2⟩ := z7n f2 0 (fun e he => by simp at he)
 exact ⟨x, rfl, z7l 0 ρ', I2, w0, [], g2 (gd.trans f1) (fun id h => absurd (c.dom id h) (by simp)) (Nat.le_refl _), c2, z7i hw (hq _ h2 _ _ _ _ (f4 _ hr)), ⟨rfl, rfl⟩⟩
end
end
end Go.V
namespace Go.Tm
open Go Go.V
inductive Tm where
 | mk (kind id other : Int) (args : List Tm)
 deriving Inhabited
namespace Tm
def kind : Tm → Int | .mk k _ _ _ => k
def id : Tm → Int | .mk _ i _ _ => i
def other : Tm → Int | .mk _ _ o _ => o
def args : Tm → List Tm | .mk _ _ _ a => a
end Tm
def tm0 : Tm := .mk 0 0 0 []
mutual
def tmC : Tm → List AV
 | .mk k i o as => [.int .i64 k, .int .i64 i, .int .i64 o, .vecr false 4 as.length (tmL as)]
def tmL : List Tm → Nat → List AV
 | [], _ => []
 | a :: _, 0 => tmC a
 | _ :: as, n + 1 => tmL as n
end
def tmG : List Tm → Nat → List AV := (zf tmL).val
theorem z151 : tmG = tmL := by rw [tmG, (zf tmL).property]
def tmK (t : Tm) : List AV := [.int .i64 t.kind, .int .i64 t.id, .int .i64 t.other, .vecr false 4 t.args.length (tmG t.args)]
def tmF (as : List Tm) (i : Nat) : List AV := [.int .i64 (as.getD i tm0).kind, .int .i64 (as.getD i tm0).id, .int .i64 (as.getD i tm0).other, .vecr false 4 (as.getD i tm0).args.length (tmG (as.getD i tm0).args)]
theorem z1g5 (t : Tm) : tmK t = tmC t := by cases t; rw [tmK, z151, tmC]; rfl
theorem z14y (as : List Tm) (i : Nat) : tmF as i = tmK (as.getD i tm0) := rfl
theorem zzl : ∀ {as : List Tm} {i : Nat}, i < as.length → tmL as i = tmK (as.getD i tm0)
 | a :: as, 0, _ => by rw [tmL, ← z1g5]; rfl
 | a :: as, n + 1, h => by
  rw [tmL, zzl (as := as) (i := n) (by simpa using h)]; rfl
theorem z1c9 {as : List Tm} {i : Nat} (h : i < as.length) : tmG as i = tmF as i := by rw [z151, zzl h]; rfl
mutual
def rdA : AV → List Tm
 | .vecr _ _ n f => (List.range n).map fun i => rdL (f i)
 | .vec _ _ l => rdR l
 | _ => []
def rdL : List AV → Tm
 | [] => tm0
 | a :: l => rd1 (rdI a) l
def rd1 (k : Int) : List AV → Tm
 | [] => tm0
 | a :: l => rd2 k (rdI a) l
def rd2 (k i : Int) : List AV → Tm
 | [] => tm0
 | a :: l => rd3 k i (rdI a) l
def rd3 (k i o : Int) : List AV → Tm
 | [] => tm0
 | a :: _ => .mk k i o (rdA a)
def rdI : AV → Int
 | .int _ k => k
 | _ => 0
def rdR : List AV → List Tm
 | [] => []
 | a :: l => rdG a :: rdR l
def rdG : AV → Tm
 | .agg cs => rdL cs
 | _ => tm0
end
end Go.Tm
namespace Go.Tm
open Go Go.V
mutual
def okT : AV → Bool
 | .vecr _ k n f => k == 4 && (leB n 1000 && (List.range n).all fun i => okC (f i))
 | .vec _ k l => k == 4 && (leB l.length 1000 && okR l)
 | .vec8 b l => b && l.isEmpty
 | _ => false
def okC : List AV → Bool
 | [] => false
 | a :: l => okI a && z7k l
def z7k : List AV → Bool
 | [] => false
 | a :: l => okI a && z9v l
def z9v : List AV → Bool
 | [] => false
 | a :: l => okI a && zcv l
def zcv : List AV → Bool
 | [] => false
 | a :: l => okT a && okE l
def okE : List AV → Bool
 | [] => true
 | _ :: _ => false
def okI : AV → Bool
 | .int .i64 _ => true
 | _ => false
def okR : List AV → Bool
 | [] => true
 | a :: l => z1c a && okR l
def z1c : AV → Bool
 | .agg cs => okC cs
 | _ => false
end
theorem zf1 {a : AV} (h : okI a = true) : a = .int .i64 (rdI a) := by
 cases a with
 | int k n => cases k <;> first | rfl | simp [okI] at h
 | _ => simp [okI] at h
theorem z1bq (t : Tm) : okL (tmK t) = true := rfl
theorem leR_leV {a b : AV} {as bs : List AV} (ha : z1w a = false) (ha2 : a ≠ .any) (ha3 : szA a = 1) (hb : z1w b = false) (hb2 : b ≠ .any) (hok : okL [b] = true) (h : leV a b) (hr : leR as bs) : leR (a :: as) (b :: bs) := by
 refine leR.mk ?_ fun ρ I w vs r => ?_
 ·have h1 := z3u hr.ok; have h2 := zg2 hr.ok
  have h3 := z3u hok; have h4 := zg2 hok
  simp only [zw, z7e, Bool.and_true] at h3 h4;simp only [okL, zw, z7e, h1, h2, h3, h4, Bool.and_self]
 ·obtain ⟨ys, zs, rfl, q, r2⟩ := z12.1 r;have hl := z3o a ys q;rw [ha3] at hl;obtain ⟨v, rfl⟩ : ∃ v, ys = [v] := by
   cases ys with
   | nil => simp at hl
   | cons v t => cases t with
    | nil => exact ⟨v, rfl⟩
    | cons _ _ => simp at hl
  have h1 : rel ρ I w a v := (z8l ha2).2 (by rw [ha]; exact q)
  have h2 := (z8l hb2).1 (h ρ I w v h1);rw [hb] at h2;exact z12.2 ⟨[v], zs, rfl, h2, hr.rl _ _ _ _ r2⟩
theorem z1ii {x : AV} (h : okT x = true) : z1w x = false ∧ x ≠ .any ∧ szA x = 1 := by
 cases x <;> first | (simp [okT] at h; done) | exact ⟨rfl, nofun, rfl⟩
mutual
theorem z17u : ∀ (x : AV), okT x = true → z1b x = true
 | .vecr b k n f, h => rfl
 | .vec b k l, h => by
  simp only [okT, Bool.and_eq_true] at h;exact zuk l h.2.2
 | .vec8 b l, h => rfl
 | .any, h => by simp [okT] at h
 | .raw _, h => by simp [okT] at h
 | .int _ _, h => by simp [okT] at h
 | .u8 _, h => by simp [okT] at h
 | .u32 _, h => by simp [okT] at h
 | .u64 _, h => by simp [okT] at h
 | .bool _, h => by simp [okT] at h
 | .str _, h => by simp [okT] at h
 | .b8 _ _, h => by simp [okT] at h
 | .w32 _ _, h => by simp [okT] at h
 | .w64 _ _, h => by simp [okT] at h
 | .n64 _ _, h => by simp [okT] at h
 | .ptr _ _, h => by simp [okT] at h
 | .pix _ _ _ _, h => by simp [okT] at h
 | .sl _ _ _ _, h => by simp [okT] at h
 | .slv _ _ _ _, h => by simp [okT] at h
 | .vp _ _, h => by simp [okT] at h
 | .vpx _ _ _ _, h => by simp [okT] at h
 | .fn _ _ _, h => by simp [okT] at h
 | .agg _, h => by simp [okT] at h
 | .tup _, h => by simp [okT] at h
theorem z16q : ∀ (cs : List AV), okC cs = true → okL cs = true
 | [a, b, c, x], h => by
  simp only [okC, z7k, z9v, zcv, Bool.and_eq_true] at h;obtain ⟨h1, h2, h3, h4, h5⟩ := h;rw [zf1 h1, zf1 h2, zf1 h3];have hp := z17u x h4;have ho : zbq x = true := by cases x <;> first | rfl | simp [okT] at h4
  simp [okL, zw, z1b, z7e, zbq, hp, ho]
 | [], h => by simp [okC] at h
 | [_], h => by simp [okC, z7k] at h
 | [_, _], h => by simp [okC, z7k, z9v] at h
 | [_, _, _], h => by simp [okC, z7k, z9v, zcv] at h
 | _ :: _ :: _ :: _ :: _ :: _, h => by simp [okC, z7k, z9v, zcv, okE] at h
theorem zuk : ∀ (l : List AV), okR l = true → zw l = true
 | [], _ => rfl
 | a :: l, h => by
  simp only [okR, Bool.and_eq_true] at h;have h2 := zuk l h.2;have h1 := z17s a h.1;simp [zw, h1, h2]
theorem z17s : ∀ (a : AV), z1c a = true → z1b a = true
 | .agg cs, h => by
  have := z16q cs (by simpa [z1c] using h)
  simpa [z1b] using z3u this
 | .vecr _ _ _ _, h => by simp [z1c] at h
 | .vec _ _ _, h => by simp [z1c] at h
 | .vec8 _ _, h => by simp [z1c] at h
 | .any, h => by simp [z1c] at h
 | .raw _, h => by simp [z1c] at h
 | .int _ _, h => by simp [z1c] at h
 | .u8 _, h => by simp [z1c] at h
 | .u32 _, h => by simp [z1c] at h
 | .u64 _, h => by simp [z1c] at h
 | .bool _, h => by simp [z1c] at h
 | .str _, h => by simp [z1c] at h
 | .b8 _ _, h => by simp [z1c] at h
 | .w32 _ _, h => by simp [z1c] at h
 | .w64 _ _, h => by simp [z1c] at h
 | .n64 _ _, h => by simp [z1c] at h
 | .ptr _ _, h => by simp [z1c] at h
 | .pix _ _ _ _, h => by simp [z1c] at h
 | .sl _ _ _ _, h => by simp [z1c] at h
 | .slv _ _ _ _, h => by simp [z1c] at h
 | .vp _ _, h => by simp [z1c] at h
 | .vpx _ _ _ _, h => by simp [z1c] at h
 | .fn _ _ _, h => by simp [z1c] at h
 | .tup _, h => by simp [z1c] at h
end
mutual
theorem z1hu : ∀ (x : AV), okT x = true → leV x (.vecr false 4 (rdA x).length (tmF (rdA x)))
 | .vecr b k n f, h => by
  simp only [okT, Bool.and_eq_true, beq_iff_eq, List.all_eq_true] at h;obtain ⟨rfl, _, h⟩ := h;have hl : (rdA (.vecr b 4 n f)).length = n := by rw [rdA, List.length_map, List.length_range]
  rw [hl];refine z6d (by simp) fun i hi => ?_
  have hg : (rdA (.vecr b 4 n f)).getD i tm0 = rdL (f i) := by
   rw [rdA, List.getD_eq_getElem?_getD, List.getElem?_map, List.getElem?_range hi]; rfl
  rw [z14y, hg];exact z16g (f i) (h i (List.mem_range.2 hi))
 | .vec b k l, h => by
  simp only [okT, Bool.and_eq_true, beq_iff_eq] at h;obtain ⟨rfl, _, h⟩ := h;obtain ⟨L, rfl, h1, h2⟩ := zy0 l h;have e : rdA (.vec b 4 (L.map AV.agg)) = L.map rdL := by rw [rdA]; exact h1
  rw [e, List.length_map];intro ρ I w v r;refine z6d (f := fun i => L.getD i []) (full := false) (full' := b) (by simp) (fun i hi => ?_) _ _ _ _ (z19k L (fun i => L.getD i []) (fun _ _ => rfl) (fun i hi => ?_) _ _ _ _ r)
  ·rw [z14y, List.getD_eq_getElem?_getD, List.getD_eq_getElem?_getD, List.getElem?_map, List.getElem?_eq_getElem hi];exact (h2 _ (List.getElem_mem hi)).2
  ·rw [List.getD_eq_getElem?_getD, List.getElem?_eq_getElem hi];exact (h2 _ (List.getElem_mem hi)).1
 | .vec8 b l, h => by
  simp only [okT, Bool.and_eq_true] at h;have e : rdA (.vec8 b l) = [] := by simp [rdA]
  rw [e];exact zfa (by cases b <;> simp_all [z9s])
 | .any, h => by simp [okT] at h
 | .raw _, h => by simp [okT] at h
 | .int _ _, h => by simp [okT] at h
 | .u8 _, h => by simp [okT] at h
 | .u32 _, h => by simp [okT] at h
 | .u64 _, h => by simp [okT] at h
 | .bool _, h => by simp [okT] at h
 | .str _, h => by simp [okT] at h
 | .b8 _ _, h => by simp [okT] at h
 | .w32 _ _, h => by simp [okT] at h
 | .w64 _ _, h => by simp [okT] at h
 | .n64 _ _, h => by simp [okT] at h
 | .ptr _ _, h => by simp [okT] at h
 | .pix _ _ _ _, h => by simp [okT] at h
 | .sl _ _ _ _, h => by simp [okT] at h
 | .slv _ _ _ _, h => by simp [okT] at h
 | .vp _ _, h => by simp [okT] at h
 | .vpx _ _ _ _, h => by simp [okT] at h
 | .fn _ _ _, h => by simp [okT] at h
 | .agg _, h => by simp [okT] at h
 | .tup _, h => by simp [okT] at h
theorem z16g : ∀ (cs : List AV), okC cs = true → leR cs (tmK (rdL cs))
 | [a, b, c, x], h => by
  simp only [okC, z7k, z9v, zcv, Bool.and_eq_true] at h;obtain ⟨h1, h2, h3, h4, h5⟩ := h;rw [zf1 h1, zf1 h2, zf1 h3];obtain ⟨q1, q2, q3⟩ := z1ii h4;have hx := z1hu x h4;have e : tmK (rdL [.int .i64 (rdI a), .int .i64 (rdI b), .int .i64 (rdI c), x]) = [.int .i64 (rdI a), .int .i64 (rdI b), .int .i64 (rdI c), .vecr false 4 (rdA x).length (tmG (rdA x))] := rfl;rw [e];refine z8s rfl (z8s rfl (z8s rfl (leR_leV q1 q2 q3 rfl (by simp) rfl (fun ρ I w v r => ?_) zkr)))
  exact z6d (f := tmF (rdA x)) (by simp) (fun i hi => by rw [z1c9 hi]; exact leR.refl (z1bq _)) _ _ _ _ (hx _ _ _ _ r)
 | [], h => by simp [okC] at h
 | [_], h => by simp [okC, z7k] at h
 | [_, _], h => by simp [okC, z7k, z9v] at h
 | [_, _, _], h => by simp [okC, z7k, z9v, zcv] at h
 | _ :: _ :: _ :: _ :: _ :: _, h => by simp [okC, z7k, z9v, zcv, okE] at h
theorem zy0 : ∀ (l : List AV), okR l = true → ∃ L : List (List AV), l = L.map AV.agg ∧ rdR l = L.map rdL ∧ ∀ cs ∈ L, okL cs = true ∧ leR cs (tmK (rdL cs))
 | [], _ => ⟨[], rfl, by rw [rdR]; rfl, fun _ h => absurd h (by simp)⟩
 | .agg cs :: l, h => by
  simp only [okR, z1c, Bool.and_eq_true] at h;obtain ⟨L, h1, h2, h3⟩ := zy0 l h.2;have k1 := z16q cs h.1;have k2 := z16g cs h.1;refine ⟨cs :: L, by rw [h1]; rfl, by rw [rdR, h2, rdG]; rfl, ?_⟩
  intro c hc;rcases List.mem_cons.1 hc with hc | hc
  ·rw [hc]; exact ⟨k1, k2⟩
  ·exact h3 c hc
 | .vecr _ _ _ _ :: _, h => by simp [okR, z1c] at h
 | .vec _ _ _ :: _, h => by simp [okR, z1c] at h
 | .vec8 _ _ :: _, h => by simp [okR, z1c] at h
 | .any :: _, h => by simp [okR, z1c] at h
 | .raw _ :: _, h => by simp [okR, z1c] at h
 | .int _ _ :: _, h => by simp [okR, z1c] at h
 | .u8 _ :: _, h => by simp [okR, z1c] at h
 | .u32 _ :: _, h => by simp [okR, z1c] at h
 | .u64 _ :: _, h => by simp [okR, z1c] at h
 | .bool _ :: _, h => by simp [okR, z1c] at h
 | .str _ :: _, h => by simp [okR, z1c] at h
 | .b8 _ _ :: _, h => by simp [okR, z1c] at h
 | .w32 _ _ :: _, h => by simp [okR, z1c] at h
 | .w64 _ _ :: _, h => by simp [okR, z1c] at h
 | .n64 _ _ :: _, h => by simp [okR, z1c] at h
 | .ptr _ _ :: _, h => by simp [okR, z1c] at h
 | .pix _ _ _ _ :: _, h => by simp [okR, z1c] at h
 | .sl _ _ _ _ :: _, h => by simp [okR, z1c] at h
 | .slv _ _ _ _ :: _, h => by simp [okR, z1c] at h
 | .vp _ _ :: _, h => by simp [okR, z1c] at h
 | .vpx _ _ _ _ :: _, h => by simp [okR, z1c] at h
 | .fn _ _ _ :: _, h => by simp [okR, z1c] at h
 | .tup _ :: _, h => by simp [okR, z1c] at h
end
end Go.Tm
namespace Go.V
open Go
theorem zq8 {full : Bool} {k : Nat} {rows : List AV} (ho : ∀ i, i < rows.length → okL (z4v rows i) = true) : leV (.vec full k rows) (.vecr full k rows.length (z4v rows)) := by
 intro ρ I w v h;obtain ⟨hsz, vs, hr, hv⟩ := z2h.1 h;obtain ⟨h1, h2⟩ := zkt hsz hr;obtain ⟨h3, h4⟩ := z9o h2 h1;exact z1j.2 ⟨ho, vs, h3, h4, hv⟩
theorem leV.trans {a b c : AV} (h : leV a b) (g : leV b c) : leV a c := fun _ _ _ _ r => g _ _ _ _ (h _ _ _ _ r)
end Go.V
namespace Go.Pat
open Go Go.V
theorem map_range {α β : Type} (f : α → β) (d : α) (l : List α) (g : Nat → β) (h : ∀ i, i < l.length → g i = f (l.getD i d)) : (List.range l.length).map g = l.map f := by
 apply List.ext_getElem
 ·simp
 ·intro i h1 h2;have hi : i < l.length := by simpa using h2
  rw [List.getElem_map, List.getElem_range, List.getElem_map, h i hi, List.getD_eq_getElem?_getD, List.getElem?_eq_getElem hi, Option.getD_some]
def intF (l : List Int) (i : Nat) : List AV := [.int .i64 (l.getD i 0)]
def vI (l : List Int) : AV := .vecr false 1 l.length (intF l)
def trF (ts : List (List Int)) (i : Nat) : List AV := [.vecr false 1 (ts.getD i []).length (intF (ts.getD i []))]
def vT (ts : List (List Int)) : AV := .vecr false 1 ts.length (trF ts)
def iv : AV → Int
 | .int _ k => k
 | _ => 0
def iok : AV → Bool
 | .int .i64 _ => true
 | _ => false
theorem z1fz {a : AV} (h : iok a = true) : a = .int .i64 (iv a) := by
 cases a with
 | int k n => cases k <;> first | rfl | simp [iok] at h
 | _ => simp [iok] at h
def iv1 : List AV → Int
 | a :: _ => iv a
 | [] => 0
def iok1 : List AV → Bool
 | [a] => iok a
 | _ => false
theorem zp6 {l : List AV} (h : iok1 l = true) : l = [.int .i64 (iv1 l)] := by
 match l, h with
 | [a], h => rw [z1fz (a := a) h]; rfl
def z63 : AV → List Int
 | .vecr _ _ n f => (List.range n).map fun i => iv1 (f i)
 | .vec _ _ l => l.map fun a => iv1 a.cells
 | _ => []
def z64 : AV → Bool
 | .vecr _ k n f => k == 1 && (List.range n).all fun i => iok1 (f i)
 | .vec _ k l => k == 1 && l.all fun a => iok1 a.cells
 | .vec8 b l => b && l.isEmpty
 | _ => false
theorem zy1 (l : List Int) (i : Nat) : okL (intF l i) = true := rfl
theorem za2 {x : AV} (h : z64 x = true) : leV x (vI (z63 x)) := by
 cases x with
 | vecr b k n f =>
  simp only [z64, Bool.and_eq_true, beq_iff_eq, List.all_eq_true] at h;obtain ⟨rfl, h⟩ := h;have hl : (z63 (.vecr b 1 n f)).length = n := by rw [z63, List.length_map, List.length_range]
  unfold vI;rw [hl];refine z6d (by simp) fun i hi => leR.of_eq (zy1 _ _) ?_
  rw [zp6 (h i (List.mem_range.2 hi))];unfold intF;rw [z63, List.getD_eq_getElem?_getD, List.getElem?_map, List.getElem?_range hi]; rfl
 | vec b k l =>
  simp only [z64, Bool.and_eq_true, beq_iff_eq, List.all_eq_true] at h;obtain ⟨rfl, h⟩ := h;have hr : ∀ i, i < l.length → z4v l i = intF (l.map fun a => iv1 a.cells) i := by
   intro i hi;have := zp6 (h l[i] (List.getElem_mem hi));unfold z4v intF;rw [List.getD_eq_getElem?_getD, List.getD_eq_getElem?_getD, List.getElem?_map, List.getElem?_eq_getElem hi];simp only [Option.getD_some, Option.map_some];exact this
  have e : (z63 (.vec b 1 l)) = l.map fun a => iv1 a.cells := rfl
  rw [e];unfold vI;rw [List.length_map];refine (zq8 fun i hi => by rw [hr i hi]; rfl).trans (z6d (by simp) fun i hi => leR.of_eq (zy1 _ _) (hr i hi))
 | vec8 b l =>
  simp only [z64, Bool.and_eq_true] at h;exact zfa (by cases b <;> simp_all [z9s])
 | _ => simp [z64] at h
def rd1 : List AV → List Int
 | a :: _ => z63 a
 | [] => []
def ok1 : List AV → Bool
 | [a] => z64 a
 | _ => false
def zhm : AV → List (List Int)
 | .vecr _ _ n f => (List.range n).map fun i => rd1 (f i)
 | .vec _ _ l => l.map z63
 | _ => []
def zeh : AV → Bool
 | .vecr _ k n f => k == 1 && (List.range n).all fun i => ok1 (f i)
 | .vec _ k l => k == 1 && l.all z64
 | .vec8 b l => b && l.isEmpty
 | _ => false
theorem zfs {x : AV} (h : z64 x = true) : z1w x = false ∧ x ≠ .any ∧ szA x = 1 ∧ x.cells = [x] := by
 cases x <;> first | (simp [z64] at h; done) | exact ⟨rfl, nofun, rfl, rfl⟩
theorem z15m {x : AV} (h : z64 x = true) : z1b x = true := by
 cases x with
 | vec b k l =>
  simp only [z64, Bool.and_eq_true, List.all_eq_true] at h;have key : ∀ m : List AV, (∀ a ∈ m, iok1 a.cells = true) → zw m = true := by
   intro m
   induction m with
   | nil => intro _; rfl
   | cons a m ih =>
    intro h;have h1 := zp6 (h a (by simp))
    have h2 : z1b a = true := by
     cases a with
     | agg l => simp only [AV.cells] at h1; rw [h1]; rfl
     | _ => simp only [AV.cells, List.cons.injEq, and_true] at h1; rw [h1]; rfl
    rw [zw, ih (fun b hb => h b (by simp [hb])), h2]; rfl
  exact key l h.2
 | _ => first | rfl | simp [z64] at h
theorem zy3 {x : AV} {l : List Int} (h : z64 x = true) (hl : z63 x = l) : leR [x] [.vecr false 1 l.length (intF l)] := by
 subst hl;obtain ⟨h1, h2, h3, _⟩ := zfs h;exact Go.Tm.leR_leV h1 h2 h3 rfl (by simp) rfl (za2 h) zkr
theorem zzm {x : AV} (h : zeh x = true) : leV x (vT (zhm x)) := by
 cases x with
 | vecr b k n f =>
  simp only [zeh, Bool.and_eq_true, beq_iff_eq, List.all_eq_true] at h;obtain ⟨rfl, h⟩ := h;have hl : (zhm (.vecr b 1 n f)).length = n := by rw [zhm, List.length_map, List.length_range]
  unfold vT;rw [hl];refine z6d (by simp) fun i hi => ?_
  have h1 := h i (List.mem_range.2 hi);have e : (zhm (.vecr b 1 n f)).getD i [] = rd1 (f i) := by
   rw [zhm, List.getD_eq_getElem?_getD, List.getElem?_map, List.getElem?_range hi]; rfl
  unfold trF;rw [e]
  match hf : f i, h1 with
  | [a], h1 => exact zy3 h1 rfl
 | vec b k l =>
  simp only [zeh, Bool.and_eq_true, beq_iff_eq, List.all_eq_true] at h;obtain ⟨rfl, h⟩ := h;have hr : ∀ i, i < l.length → leR (z4v l i) (trF (l.map z63) i) := by
   intro i hi;have h1 := h l[i] (List.getElem_mem hi);have e1 : z4v l i = [l[i]] := by
    unfold z4v;rw [List.getD_eq_getElem?_getD, List.getElem?_eq_getElem hi];exact (zfs h1).2.2.2
   have e2 : (l.map z63).getD i [] = z63 l[i] := by
    rw [List.getD_eq_getElem?_getD, List.getElem?_map, List.getElem?_eq_getElem hi]; rfl
   unfold trF;rw [e1, e2];exact zy3 h1 rfl
  have e : (zhm (.vec b 1 l)) = l.map z63 := rfl;rw [e];unfold vT;rw [List.length_map];intro ρ I w v r;obtain ⟨hsz, vs, hrl, hv⟩ := z2h.1 r;obtain ⟨h1, h2⟩ := zkt hsz hrl;obtain ⟨h3, h4⟩ := z9o h2 h1;exact z1j.2 ⟨fun i _ => rfl, vs, h3, fun i hi => (hr i hi).rl _ _ _ _ (h4 i hi), hv.imp fun a => fun ⟨c, k1, k2, k3, k4⟩ => ⟨c, k1, k2, fun h => (by cases h), k4⟩⟩
 | vec8 b l =>
  simp only [zeh, Bool.and_eq_true] at h;exact zfa (by cases b <;> simp_all [z9s])
 | _ => simp [zeh] at h
theorem z16p {ρ : Rho} {I : Imm} {w : World} {α : Type} (f g : α → AV) : ∀ (l : List α) (_ : ∀ a ∈ l, ∀ xs, R ρ I w (f a) xs → R ρ I w (g a) xs) (vs : List Value), RL ρ I w (l.map f) vs → RL ρ I w (l.map g) vs
 | [], _, _, h => h
 | a :: l, hi, vs, h => by
  obtain ⟨ys, zs, rfl, h1, h2⟩ := z12.1 h;exact z12.2 ⟨ys, zs, rfl, hi a (by simp) _ h1, z16p f g l (fun b hb => hi b (by simp [hb])) zs h2⟩
theorem zic {k n : Nat} {f : Nat → List AV} {g : Nat → AV} (hg : ∀ i, i < n → szA (g i) = k) (h : ∀ (ρ : Rho) (I : Imm) (w : World) (i : Nat) (xs : List Value), i < n → RL ρ I w (f i) xs → R ρ I w (g i) xs) : leV (.vecr false k n f) (.vec false k ((List.range n).map g)) := by
 intro ρ I w v r;obtain ⟨ho, vs, hl, hr, hv⟩ := z1j.1 r;obtain ⟨r1, _⟩ := z9f hl hr;have hlen : ((List.range n).map g).length = n := by rw [List.length_map, List.length_range]
 refine z2h.2 ⟨fun a ha => ?_, vs, ?_, by rw [hlen]; exact hv⟩
 ·obtain ⟨i, hi, rfl⟩ := List.mem_map.1 ha;exact hg i (List.mem_range.1 hi)
 ·exact z16p (fun i => AV.agg (f i)) g (List.range n) (fun i hi xs hx => h ρ I w i xs (List.mem_range.1 hi) hx) vs r1
theorem zwt {ρ : Rho} {I : Imm} {w : World} {a : AV} {xs : List Value} (h : RL ρ I w [a] xs) : R ρ I w a xs := by
 obtain ⟨ys, zs, rfl, h1, h2⟩ := z12.1 h;cases h2;rw [List.append_nil]; exact h1
def vL (l : List Int) : AV := .vec false 1 (l.map fun x => .int .i64 x)
def vLL (ts : List (List Int)) : AV := .vec false 1 (ts.map vL)
theorem z9k (l : List Int) : leV (.vecr false 1 l.length (intF l)) (vL l) := by
 have := zic (k := 1) (n := l.length) (f := intF l) (g := fun i => .int .i64 (l.getD i 0)) (fun _ _ => rfl) fun ρ I w i xs _ hx => zwt hx
 rwa [map_range (fun x => AV.int .i64 x) 0 l (fun i => .int .i64 (l.getD i 0)) fun _ _ => rfl] at this
theorem zyv (ts : List (List Int)) : leV (.vecr false 1 ts.length (trF ts)) (vLL ts) := by
 have := zic (k := 1) (n := ts.length) (f := trF ts) (g := fun i => vL (ts.getD i [])) (fun _ _ => rfl) fun ρ I w i xs _ hx => by
  have h1 := zwt hx;have hx : ∃ v, xs = [v] := by obtain ⟨v, h0, _⟩ := h1; exact ⟨v, h0⟩
  obtain ⟨v, rfl⟩ := hx;exact z9k (ts.getD i []) ρ I w v h1
 rwa [map_range vL [] ts (fun i => vL (ts.getD i [])) fun _ _ => rfl] at this
theorem zck (l : List Int) : z1b (vL l) = true := by
 show zw (l.map _) = true
 induction l with
 | nil => rfl
 | cons a l ih => exact ih
theorem zvt (ts : List (List Int)) : z1b (vLL ts) = true := by
 show zw (ts.map _) = true
 induction ts with
 | nil => rfl
 | cons a l ih => rw [List.map_cons, zw, zck, ih]; rfl
structure Pat where
 base : List UInt8
 late : Bool
 psks : List Int
 pre0 : List Int
 pre1 : List Int
 turns : List (List Int)
 deriving DecidableEq, Inhabited
def zpk (p : Pat) : List AV := [.str p.base, .bool p.late, .vecr false 1 p.psks.length (intF p.psks), .vecr false 1 p.pre0.length (intF p.pre0), .vecr false 1 p.pre1.length (intF p.pre1), .vecr false 1 p.turns.length (trF p.turns)]
def z9w (p : Pat) : AV := .agg (zpk p)
def z54 (p : Pat) : AV := .agg [.str p.base, .bool p.late, vL p.psks, vL p.pre0, vL p.pre1, vLL p.turns]
theorem zba (p : Pat) : z1b (z54 p) = true := by
 show zw _ = true;simp only [zw, z1b, zck, zvt, Bool.and_self]
theorem zsg {x y : AV} {as bs : List AV} (h1 : z1w x = false) (h2 : x ≠ .any) (h3 : szA x = 1) (h4 : z1w y = false) (h5 : y ≠ .any) (h6 : z1b y = true) (h7 : zbq y = true) (h : leV x y) (hr : leR as bs) : leR (x :: as) (y :: bs) :=
 Go.Tm.leR_leV h1 h2 h3 h4 h5 (by simp [okL, zw, z7e, h6, h7]) h hr
theorem zgg (p : Pat) : leV (z9w p) (z54 p) :=
 zzp (z8s rfl (z8s rfl (zsg rfl (by simp) rfl rfl (by simp [vL]) (zck _) rfl (z9k _) (zsg rfl (by simp) rfl rfl (by simp [vL]) (zck _) rfl (z9k _) (zsg rfl (by simp) rfl rfl (by simp [vL]) (zck _) rfl (z9k _) (zsg rfl (by simp) rfl rfl (by simp [vLL]) (zvt _) rfl (zyv _) zkr))))))
def z11g : List AV → Pat
 | [.str b, .bool l, x, y, z, t] => ⟨b, l, z63 x, z63 y, z63 z, zhm t⟩
 | _ => default
def zso : List AV → Bool
 | [.str _, .bool _, x, y, z, t] => z64 x && (z64 y && (z64 z && zeh t))
 | _ => false
theorem z1ea {x : AV} (h : zeh x = true) : z1w x = false ∧ x ≠ .any ∧ szA x = 1 := by
 cases x <;> first | (simp [zeh] at h; done) | exact ⟨rfl, nofun, rfl⟩
theorem z14f : ∀ {l : List AV}, zso l = true → leR l (zpk (z11g l))
 | [.str b, .bool lt, x, y, z, t], h => by
  simp only [zso, Bool.and_eq_true] at h;obtain ⟨h1, h2, h3, h4⟩ := h;obtain ⟨a1, a2, a3, _⟩ := zfs h1;obtain ⟨b1, b2, b3, _⟩ := zfs h2;obtain ⟨c1, c2, c3, _⟩ := zfs h3;obtain ⟨d1, d2, d3⟩ := z1ea h4;exact z8s rfl (z8s rfl (Go.Tm.leR_leV a1 a2 a3 rfl (by simp) rfl (za2 h1) (Go.Tm.leR_leV b1 b2 b3 rfl (by simp) rfl (za2 h2) (Go.Tm.leR_leV c1 c2 c3 rfl (by simp) rfl (za2 h3) (Go.Tm.leR_leV d1 d2 d3 rfl (by simp) rfl (zzm h4) zkr)))))
theorem z1e9 {l : List AV} (h : zso (flL l) = true) : leV (.agg l) (z9w (z11g (flL l))) :=
 (z42 l).trans (zzp (z14f h))
def z1b3 (s : List UInt8) : Pat :=
 if s = [78, 78] then ⟨s, false, [], [], [], [[1], [1, 3]]⟩
 else if s = [78, 75] then ⟨s, false, [], [], [2], [[1, 4], [1, 3]]⟩
 else if s = [88, 88] then ⟨s, false, [], [], [], [[1], [1, 3, 2, 4], [2, 5]]⟩
 else if s = [73, 75] then ⟨s, false, [], [], [2], [[1, 4, 2, 6], [1, 3, 5]]⟩
 else if s = [88, 75] then ⟨s, false, [], [], [2], [[1, 4], [1, 3], [2, 5]]⟩
 else if s = [75, 75] then ⟨s, false, [], [2], [2], [[1, 4, 6], [1, 3, 5]]⟩
 else ⟨s, true, [], [1], [], [[1, 3, 2, 4], [2, 5]]⟩
def putP (t : List (List Int)) (n : Int) : List (List Int) :=
 if n = 0 then t.set 0 (7 :: t.getD 0 []) else t.set (n.toNat - 1) (t.getD (n.toNat - 1) [] ++ [7])
def ze9 (s : List UInt8) (l : List Int) : Pat := { z1b3 s with psks := l, turns := l.foldl putP (z1b3 s).turns }
def plF (k : Nat) : Nat → List Int
 | 0 => bif k % 2 == 1 then [0] else []
 | n + 1 => plF k n ++ bif (k / 2 ^ (n + 1)) % 2 == 1 then [((n + 1 : Nat) : Int)] else []
def plL (m k : Int) : List Int := plF k.toNat m.toNat
def z1k9 : List UInt8 := [88, 88, 102, 97, 108, 108, 98, 97, 99, 107]
def zwb : List (List UInt8 × List Int) :=
 ([[78, 78], [78, 75], [73, 75], [75, 75]].flatMap fun s => (List.range 8).map fun k => (s, plF k 2)) ++ ([[88, 88], [88, 75]].flatMap fun s => (List.range 16).map fun k => (s, plF k 3)) ++ [(z1k9, [])]
def isW (s : List UInt8) (l : List Int) : Bool := decide ((s, l) ∈ zwb)
def allP : List Pat := zwb.map fun x => ze9 x.1 x.2
def isP (p : Pat) : Bool := decide (p ∈ allP)
theorem zjx {p : Pat} : isP p = true ↔ ∃ s l, isW s l = true ∧ ze9 s l = p := by
 simp only [isP, isW, decide_eq_true_eq, allP, List.mem_map];constructor
 ·rintro ⟨⟨s, l⟩, h, rfl⟩; exact ⟨s, l, h, rfl⟩
 ·rintro ⟨s, l, h, rfl⟩; exact ⟨(s, l), h, rfl⟩
def zsb (p : Pat) : AV → Bool
 | .tup [.agg l, .int .i64 e] => zso (flL l) && (decide (z11g (flL l) = p) && e == 0)
 | _ => false
theorem zvu {p : Pat} {x : AV} (h : zsb p x = true) : leV x (.tup [z9w p, .int .i64 0]) := by
 unfold zsb at h
 split at h
 ·rename_i l e;simp only [Bool.and_eq_true, decide_eq_true_eq, beq_iff_eq] at h;obtain ⟨h1, h2, rfl⟩ := h;refine z80 (z14 ?_ (z14 (leV.refl _) z3t));rw [← h2];exact z1e9 h1
 ·cases h
def zmf : AV → Bool
 | .int .i64 e => e == 0
 | _ => false
theorem z1ec {x : AV} (h : zmf x = true) : leV x (.int .i64 0) := by
 unfold zmf at h
 split at h
 ·simp only [beq_iff_eq] at h;subst h;exact leV.refl _
 ·cases h
end Go.Pat
namespace Go.Pin
open Go Go.V
def z1gj (a b c d : UInt8) : List UInt8 := [a, b + 1, c + 4, d + 9, a + 16, b + 25, c + 36, d + 49, a + 64, b + 81, c + 100, d + 121, a + 144, b + 169, c + 196, d + 225, a, b + 33, c + 68, d + 105, a + 144, b + 185, c + 228, d + 17, a + 64, b + 113, c + 164, d + 217, a + 16, b + 73, c + 132, d + 193]
def kx (n : Int) (k : Nat) : UInt8 := UInt32.toUInt8 (zb1 (UInt32.ofNat (Int.toNat (n % 4294967296))) k)
def keyF (n : Int) : List UInt8 := z1gj (kx n 0) (kx n 8) (kx n 16) (kx n 24)
def keyS : Int → List UInt8 := (zf keyF).val
theorem zz5 (n : Int) : keyS n = keyF n := by rw [keyS, (zf keyF).property]
theorem zxd (n : Int) : (keyS n).length = 32 := by rw [zz5]; rfl
end Go.Pin
namespace Go.Tm
open Go Go.V
mutual
def smT : Tm → Bool
 | .mk _ _ _ es => leB es.length 1000 && smL es
def smL : List Tm → Bool
 | [] => true
 | a :: es => smT a && smL es
end
theorem z1cs {es : List Tm} : smL es = true ↔ ∀ t ∈ es, smT t = true := by
 induction es with
 | nil => simp [smL]
 | cons a es ih => simp [smL, ih]
mutual
theorem z1d3 : ∀ t : Tm, smT t = true → okC (tmC t) = true
 | .mk k i o es, h => by
  simp only [smT, Bool.and_eq_true] at h;simp only [tmC, okC, z7k, z9v, zcv, okE, okI, okT, beq_self_eq_true, Bool.true_and, Bool.and_true, Bool.and_eq_true, List.all_eq_true, List.mem_range];exact ⟨h.1, zy8 es h.2⟩
theorem zy8 : ∀ (es : List Tm), smL es = true → ∀ (i : Nat), i < es.length → okC (tmL es i) = true
 | a :: es, h, 0, _ => by
  simp only [smL, Bool.and_eq_true] at h;rw [tmL]; exact z1d3 a h.1
 | a :: es, h, n + 1, hn => by
  simp only [smL, Bool.and_eq_true] at h;rw [tmL]; exact zy8 es h.2 n (by simpa using hn)
end
mutual
theorem z1ff : ∀ x : AV, okT x = true → (rdA x).length ≤ 1000 ∧ smL (rdA x) = true
 | .vecr b k n f, h => by
  simp only [okT, Bool.and_eq_true, List.all_eq_true, List.mem_range] at h;obtain ⟨_, h1, h2⟩ := h;refine ⟨by rw [rdA, List.length_map, List.length_range]; exact zh.1 h1, ?_⟩
  rw [rdA, z1cs];intro t ht;obtain ⟨i, hi, rfl⟩ := List.mem_map.1 ht;exact z16c (f i) (h2 i (List.mem_range.1 hi))
 | .vec b k l, h => by
  simp only [okT, Bool.and_eq_true] at h;obtain ⟨_, h1, h2⟩ := h;have := z148 l h2;rw [rdA];exact ⟨by rw [this.1]; exact zh.1 h1, this.2⟩
 | .vec8 b l, h => by
  have e : rdA (.vec8 b l) = [] := by simp [rdA]
  rw [e]; exact ⟨by simp, rfl⟩
 | .any, h => by simp [okT] at h
 | .raw _, h => by simp [okT] at h
 | .int _ _, h => by simp [okT] at h
 | .u8 _, h => by simp [okT] at h
 | .u32 _, h => by simp [okT] at h
 | .u64 _, h => by simp [okT] at h
 | .bool _, h => by simp [okT] at h
 | .str _, h => by simp [okT] at h
 | .b8 _ _, h => by simp [okT] at h
 | .w32 _ _, h => by simp [okT] at h
 | .w64 _ _, h => by simp [okT] at h
 | .n64 _ _, h => by simp [okT] at h
 | .ptr _ _, h => by simp [okT] at h
 | .pix _ _ _ _, h => by simp [okT] at h
 | .sl _ _ _ _, h => by simp [okT] at h
 | .slv _ _ _ _, h => by simp [okT] at h
 | .vp _ _, h => by simp [okT] at h
 | .vpx _ _ _ _, h => by simp [okT] at h
 | .fn _ _ _, h => by simp [okT] at h
 | .agg _, h => by simp [okT] at h
 | .tup _, h => by simp [okT] at h
theorem z16c : ∀ cs : List AV, okC cs = true → smT (rdL cs) = true
 | [a, b, c, x], h => by
  simp only [okC, z7k, z9v, zcv, Bool.and_eq_true] at h;obtain ⟨_, _, _, h4, _⟩ := h;have := z1ff x h4;simp only [rdL, rd1, rd2, rd3, smT, zp this.1, this.2, Bool.and_self]
 | [], h => by simp [okC] at h
 | [_], h => by simp [okC, z7k] at h
 | [_, _], h => by simp [okC, z7k, z9v] at h
 | [_, _, _], h => by simp [okC, z7k, z9v, zcv] at h
 | _ :: _ :: _ :: _ :: _ :: _, h => by simp [okC, z7k, z9v, zcv, okE] at h
theorem z148 : ∀ l : List AV, okR l = true → (rdR l).length = l.length ∧ smL (rdR l) = true
 | [], _ => by rw [rdR]; exact ⟨rfl, rfl⟩
 | a :: l, h => by
  simp only [okR, Bool.and_eq_true] at h;have h2 := z148 l h.2;have h1 := z1hw a h.1;rw [rdR];simp only [List.length_cons, h2.1, smL, h1, h2.2, Bool.and_self, and_self]
theorem z1hw : ∀ a : AV, z1c a = true → smT (rdG a) = true
 | .agg cs, h => by
  rw [rdG]; exact z16c cs (by simpa [z1c] using h)
 | .vecr _ _ _ _, h => by simp [z1c] at h
 | .vec _ _ _, h => by simp [z1c] at h
 | .vec8 _ _, h => by simp [z1c] at h
 | .any, h => by simp [z1c] at h
 | .raw _, h => by simp [z1c] at h
 | .int _ _, h => by simp [z1c] at h
 | .u8 _, h => by simp [z1c] at h
 | .u32 _, h => by simp [z1c] at h
 | .u64 _, h => by simp [z1c] at h
 | .bool _, h => by simp [z1c] at h
 | .str _, h => by simp [z1c] at h
 | .b8 _ _, h => by simp [z1c] at h
 | .w32 _ _, h => by simp [z1c] at h
 | .w64 _ _, h => by simp [z1c] at h
 | .n64 _ _, h => by simp [z1c] at h
 | .ptr _ _, h => by simp [z1c] at h
 | .pix _ _ _ _, h => by simp [z1c] at h
 | .sl _ _ _ _, h => by simp [z1c] at h
 | .slv _ _ _ _, h => by simp [z1c] at h
 | .vp _ _, h => by simp [z1c] at h
 | .vpx _ _ _ _, h => by simp [z1c] at h
 | .fn _ _ _, h => by simp [z1c] at h
 | .tup _, h => by simp [z1c] at h
end
theorem map_range {α β : Type} (f : α → β) (d : α) (l : List α) (g : Nat → β) (h : ∀ i, i < l.length → g i = f (l.getD i d)) : (List.range l.length).map g = l.map f := by
 apply List.ext_getElem
 ·simp
 ·intro i h1 h2;have hi : i < l.length := by simpa using h2
  rw [List.getElem_map, List.getElem_range, List.getElem_map, h i hi, List.getD_eq_getElem?_getD, List.getElem?_eq_getElem hi, Option.getD_some]
mutual
theorem z1ee : ∀ t : Tm, rdL (tmC t) = t
 | .mk k i o as => by
  simp only [tmC, rdL, rd1, rd2, rd3, rdI, rdA]
  congr 1
  have := map_range (fun x => x) tm0 as (fun i => rdL (tmL as i)) fun i hi => zy6 as i hi
  rw [this, List.map_id']
theorem zy6 : ∀ (as : List Tm) (i : Nat), i < as.length → rdL (tmL as i) = as.getD i tm0
 | a :: as, 0, _ => by rw [tmL]; exact z1ee a
 | a :: as, n + 1, h => by rw [tmL, zy6 as n (by simpa using h)]; rfl
end
mutual
def z9n : Tm → Int → Int
 | .mk _ _ _ as, d => bif ltI 40 d then 301 else z5s as (d + 1) 1
def z5s : List Tm → Int → Int → Int
 | [], _, n => n
 | a :: as, d, n => bif ltI 300 n then n else z5s as d (n + z9n a d)
end
def z1j4 (k : Int) : Nat := if k = 4 then 2 else if k = 5 then 1 else if k = 6 then 2 else if k = 7 then 3 else 0
def okF (k i o : Int) (n : Nat) : Bool := (n == z1j4 k) && (decide (0 ≤ i) && (decide (0 ≤ o) && (if k = 3 then decide (i ≤ o) else if k = 1 ∨ k = 2 ∨ k = 6 then o == 0 else wr .i64 (i + o) == 0)))
mutual
def zsy : Tm → Int
 | .mk k i o as => if k < 1 ∨ 7 < k then 2 else bif okF k i o as.length then z1b0 as else 3
def z1b0 : List Tm → Int
 | [] => 0
 | a :: as => if zsy a = 0 then z1b0 as else zsy a
end
def z5u (n : Int) : Tm := .mk 1 n 0 []
def zq9 (n : Int) : Tm := .mk 2 n 0 []
def zaj (B : List Tm) (t : Tm) : Bool := yes (t ∈ B)
def zm5 (B : List Tm) (n : Int) : Bool := zaj B (z5u n) || zaj B (zq9 n)
mutual
def z8d (B : List Tm) : Tm → Bool
 | .mk k i o as => zaj B (.mk k i o as) || (if k = 1 then false else if k = 2 then zaj B (z5u i) else if k = 3 then (zaj B (z5u i) && zm5 B o) || (zaj B (z5u o) && zm5 B i) else zcw B as)
def zcw (B : List Tm) : List Tm → Bool
 | [] => true
 | a :: as => z8d B a && zcw B as
end
def z1kf (B : List Tm) (t : Tm) : List Tm := if t.kind = 4 then t.args else if t.kind = 7 ∧ z8d B (t.args.getD 0 tm0) = true then t.args.drop 2 else []
mutual
def zep : Tm → Nat
 | .mk _ _ _ es => 1 + z6w es
def z6w : List Tm → Nat
 | [] => 0
 | a :: es => zep a + z6w es
end
theorem z19i (t : Tm) : 0 < zep t := by cases t; rw [zep]; omega
theorem z15k (t : Tm) : t = .mk t.kind t.id t.other t.args := by cases t; rfl
mutual
theorem zls : ∀ (t : Tm) (d : Int), 0 < d → d < 42 → 0 < z9n t d ∧ z9n t d ≤ 301 + 300 * (41 - d)
 | .mk k i o as, d, h1, h2 => by
  rw [z9n];cases h : ltI 40 d with
  | true => exact ⟨by show (0 : Int) < 301; decide, by show (301 : Int) ≤ _; omega⟩
  | false =>
   have h3 : ¬ 40 < d := fun e => by rw [(z3w _ _).2 e] at h; cases h
   have := zvl as (d + 1) 1 (by omega) (by omega) (by omega) (by omega)
   rw [cond_false];omega
theorem zvl : ∀ (as : List Tm) (d n : Int), 0 < d → d < 42 → 0 < n → n ≤ 601 + 300 * (41 - d) → 0 < z5s as d n ∧ z5s as d n ≤ 601 + 300 * (41 - d)
 | [], d, n, _, _, h3, h4 => by rw [z5s]; exact ⟨h3, h4⟩
 | a :: as, d, n, h1, h2, h3, h4 => by
  rw [z5s];cases h : ltI 300 n with
  | true => exact ⟨h3, h4⟩
  | false =>
   have h5 : ¬ 300 < n := fun e => by rw [(z3w _ _).2 e] at h; cases h
   have hb := zls a d h1 h2;rw [cond_false];exact zvl as d _ h1 h2 (by omega) (by omega)
end
def z1kv (B : List Tm) : Option Tm := (B.flatMap (z1kf B)).find? fun x => !(yes (x ∈ B))
def zeb : Nat → List Tm → List Tm
 | 0, B => B
 | k + 1, B => match z1kv B with
  | none => B
  | some x => zeb k (B ++ [x])
def z11e (B : List Tm) : List Tm := zeb (z6w B) B
def z7z : List Tm → List Tm := (zf z11e).val
theorem zlp : z7z = z11e := by rw [z7z, (zf z11e).property]
def okB (B : List Tm) : Prop := smL B = true ∧ ∀ t ∈ B, zsy t = 0
mutual
def zig : Tm → List Tm
 | .mk k i o es => .mk k i o es :: z97 es
def z97 : List Tm → List Tm
 | [] => []
 | a :: es => zig a ++ z97 es
end
mutual
theorem z181 : ∀ t : Tm, (zig t).length = zep t
 | .mk k i o es => by rw [zig, List.length_cons, zr2 es, zep]; omega
theorem zr2 : ∀ es : List Tm, (z97 es).length = z6w es
 | [] => by rw [z97, z6w]; rfl
 | a :: es => by rw [z97, List.length_append, z181 a, zr2 es, z6w]
end
theorem z15a (t : Tm) : t ∈ zig t := by cases t; rw [zig]; exact List.mem_cons_self ..
theorem z14x {es : List Tm} {t : Tm} (h : t ∈ es) : t ∈ z97 es := by
 induction es with
 | nil => simp at h
 | cons a es ih =>
  rw [z97, List.mem_append];rcases List.mem_cons.1 h with rfl | h
  ·exact .inl (z15a _)
  ·exact .inr (ih h)
mutual
theorem z179 : ∀ (s t a : Tm), t ∈ zig s → a ∈ t.args → a ∈ zig s
 | .mk k i o es, t, a, h, ha => by
  rw [zig] at h ⊢;rcases List.mem_cons.1 h with rfl | h
  ·exact List.mem_cons_of_mem _ (z14x ha)
  ·exact List.mem_cons_of_mem _ (zqy es t a h ha)
theorem zqy : ∀ (es : List Tm) (t a : Tm), t ∈ z97 es → a ∈ t.args → a ∈ z97 es
 | [], t, a, h, _ => by rw [z97] at h; simp at h
 | s :: es, t, a, h, ha => by
  rw [z97, List.mem_append] at h ⊢;rcases h with h | h
  ·exact .inl (z179 s t a h ha)
  ·exact .inr (zqy es t a h ha)
end
theorem zvy : ∀ (es : List Tm) (d n : Int), 0 < d → d < 42 → n ≤ z5s es d n
 | [], d, n, _, _ => by rw [z5s]; omega
 | a :: es, d, n, h1, h2 => by
  rw [z5s];cases h : ltI 300 n with
  | true => rw [cond_true]; omega
  | false =>
   rw [cond_false];have := (zls a d h1 h2).1;have := zvy es d (n + z9n a d) h1 h2;omega
mutual
theorem z18l : ∀ (t : Tm) (d : Int), 0 < d → d < 42 → z9n t d ≤ 300 → z9n t d = zep t
 | .mk k i o es, d, h1, h2, h => by
  rw [z9n] at h ⊢;cases hd : ltI 40 d with
  | true => rw [hd] at h; rw [cond_true] at h; omega
  | false =>
   rw [hd, cond_false] at h;have h3 : ¬ 40 < d := fun e => by rw [(z3w _ _).2 e] at hd; cases hd
   have := zun es (d + 1) 1 (by omega) (by omega) (by omega) h
   rw [cond_false, this, zep]; omega
theorem zun : ∀ (es : List Tm) (d n : Int), 0 < d → d < 42 → 0 ≤ n → z5s es d n ≤ 300 → z5s es d n = n + z6w es
 | [], d, n, _, _, _, _ => by rw [z5s, z6w]; omega
 | a :: es, d, n, h1, h2, h0, h => by
  rw [z5s] at h ⊢;cases hn : ltI 300 n with
  | true =>
   have := (z3w _ _).1 hn;rw [hn, cond_true] at h; omega
  | false =>
   rw [hn, cond_false] at h;have hge := zvy es d (n + z9n a d) h1 h2;have hb := (zls a d h1 h2).1;have := z18l a d h1 h2 (by omega)
   rw [cond_false, zun es d _ h1 h2 (by omega) h, this, z6w]; omega
end
end Go.Tm
namespace Go.Frm
open Go Go.V
structure Fr where
 kind : Int
 id : Int
 body : List UInt8
 deriving DecidableEq
def Fr.cells (f : Fr) : List AV := [.int .i64 f.kind, .int .i64 f.id, .vec8 false f.body]
def fault (k i : Int) (b : List UInt8) : Int := if k < 1 ∨ 5 < k then 2 else if i < 0 ∨ 255 < i then 6 else if 900 < b.length then 1 else if k = 5 ∧ 0 < b.length then 3 else 0
def encF (k i : Int) (b : List UInt8) : List UInt8 := bif fault k i b == 0 then [UInt8.ofNat k.toNat, UInt8.ofNat i.toNat, UInt8.ofNat (b.length / 256), UInt8.ofNat b.length] ++ b else []
structure Fed where
 fs : List Fr
 rest : List UInt8
 e : Int
def Fed.pre (l : List Fr) (d : Fed) : Fed := bif d.e == 0 then ⟨l ++ d.fs, d.rest, 0⟩ else d
def lenOf (l : List UInt8) : Nat := (l.getD 2 0).toNat * 256 + (l.getD 3 0).toNat
def enc (f : Fr) : List UInt8 := encF f.kind f.id f.body
end Go.Frm
namespace Go.Tm
open Go Go.V
mutual
def dpT : Tm → Nat
 | .mk _ _ _ es => 1 + dpL es
def dpL : List Tm → Nat
 | [] => 0
 | a :: es => max (dpT a) (dpL es)
end
mutual
theorem z19t : ∀ (t : Tm) (d : Int), 0 < d → (dpT t : Int) + d ≤ 41 → zep t ≤ 300 → z9n t d = zep t
 | .mk k i o es, d, h1, h2, h3 => by
  rw [dpT] at h2;rw [zep] at h3 ⊢;rw [z9n];cases hd : ltI 40 d with
  | true => have := (z3w _ _).1 hd; omega
  | false =>
   rw [cond_false, zu4 es (d + 1) 1 (by omega) (by omega) (by omega) (by omega)]; omega
theorem zu4 : ∀ (es : List Tm) (d n : Int), 0 < d → 0 ≤ n → (dpL es : Int) + d ≤ 41 → n + z6w es ≤ 300 → z5s es d n = n + z6w es
 | [], d, n, _, _, _, _ => by rw [z5s, z6w]; omega
 | a :: es, d, n, h1, h0, h2, h3 => by
  rw [dpL] at h2;rw [z6w] at h3 ⊢;rw [z5s];have hpos := z19i a;cases hn : ltI 300 n with
  | true => have := (z3w _ _).1 hn; omega
  | false =>
   rw [cond_false, z19t a d h1 (by omega) (by omega), zu4 es d _ h1 (by omega) (by omega) (by omega)]; omega
end
theorem zfq {B : List Tm} {t : Tm} : zaj B t = true ↔ t ∈ B := z8y
theorem zqi (B : List Tm) (t : Tm) : z8d B t = (zaj B t || (if t.kind = 1 then false else if t.kind = 2 then zaj B (z5u t.id) else if t.kind = 3 then (zaj B (z5u t.id) && zm5 B t.other) || (zaj B (z5u t.other) && zm5 B t.id) else zcw B t.args)) := by
 conv => lhs; rw [z15k t]
 rw [z8d, ← z15k t]
theorem z126 {B : List Tm} {n : Int} : z8d B (z5u n) = true ↔ z5u n ∈ B := by
 rw [zqi, Bool.or_eq_true, zfq];simp [z5u, Tm.kind]
def Sub (C B : List Tm) : Prop := ∀ x ∈ C, z8d B x = true
theorem zgc {C B : List Tm} (h : Sub C B) {n : Int} (ha : zaj C (z5u n) = true) : zaj B (z5u n) = true :=
 zfq.2 (z126.1 (h _ (zfq.1 ha)))
theorem zyb {C B : List Tm} (h : Sub C B) {n : Int} (ha : zm5 C n = true) : zm5 B n = true := by
 unfold zm5 at ha ⊢;rw [Bool.or_eq_true] at ha ⊢;rcases ha with ha | ha
 ·exact .inl (zgc h ha)
 ·have := h _ (zfq.1 ha);rw [zqi, Bool.or_eq_true] at this;rcases this with this | this
  ·exact .inr this
  ·simp [zq9, Tm.kind, Tm.id] at this;exact .inl this
mutual
theorem z16w {C B : List Tm} (h : Sub C B) : ∀ t : Tm, z8d C t = true → z8d B t = true
 | .mk k i o es, ht => by
  rw [z8d] at ht;rw [Bool.or_eq_true] at ht;rcases ht with ht | ht
  ·exact h _ (zfq.1 ht)
  ·rw [z8d, Bool.or_eq_true]
   right
   by_cases h1 : k = 1
   ·rw [if_pos h1] at ht; cases ht
   rw [if_neg h1] at ht ⊢
   by_cases h2 : k = 2
   ·rw [if_pos h2] at ht ⊢; exact zgc h ht
   rw [if_neg h2] at ht ⊢
   by_cases h3 : k = 3
   ·rw [if_pos h3] at ht ⊢;rw [Bool.or_eq_true, Bool.and_eq_true, Bool.and_eq_true] at ht ⊢;exact ht.imp (fun x => ⟨zgc h x.1, zyb h x.2⟩) fun x => ⟨zgc h x.1, zyb h x.2⟩
   rw [if_neg h3] at ht ⊢;exact zmo h es ht
theorem zmo {C B : List Tm} (h : Sub C B) : ∀ es : List Tm, zcw C es = true → zcw B es = true
 | [], _ => by rw [zcw]
 | a :: es, ht => by
  rw [zcw, Bool.and_eq_true] at ht ⊢;exact ⟨z16w h a ht.1, zmo h es ht.2⟩
end
def dhT (a b : Int) : Tm := .mk 3 (min a b) (max a b) []
def kdfT (w : Int) (c i : Tm) : Tm := .mk 6 w 0 [c, i]
def z1ks (k n t : Tm) : Tm := .mk 7 0 0 [k, n, t]
inductive Ev where
 | mix (t : Tm)
 | tell (t : Tm)
 | out (t : Tm)
structure Hd where
 chain : Tm
 key : Option Tm
 out : List Tm
def z1kc (h : Hd) (t : Tm) : Tm := match h.key with
 | none => t
 | some k => z1ks k (z5u (100 + (h.out.length : Int))) t
def z1gy (h : Hd) : Ev → Hd
 | .mix i => ⟨kdfT 1 h.chain i, some (kdfT 2 h.chain i), h.out⟩
 | .tell t => ⟨h.chain, h.key, h.out ++ [z1kc h t]⟩
 | .out t => ⟨h.chain, h.key, h.out ++ [t]⟩
def z1bm : Hd → List Ev → Hd
 | h, [] => h
 | h, e :: l => z1bm (z1gy h e) l
def hd0 : Hd := ⟨z5u 0, none, []⟩
def flat (t : Tm) : Prop := t.kind = 1 ∨ t.kind = 2
inductive Tk where
 | pre (w : Nat)
 | e (w : Nat)
 | s (w : Nat)
 | ee
 | es
 | se
 | ss
 | psk (k : Nat)
 | text (i : Nat)
 deriving DecidableEq
def Tk.evs (psks : Bool) : Tk → List Ev
 | .pre w => if psks then [.mix (zq9 (3 + (w : Int)))] else []
 | .e w => .out (zq9 (3 + (w : Int))) :: (if psks then [.mix (zq9 (3 + (w : Int)))] else [])
 | .s w => [.tell (zq9 (1 + (w : Int)))]
 | .ee => [.mix (dhT 3 4)]
 | .es => [.mix (dhT 3 2)]
 | .se => [.mix (dhT 1 4)]
 | .ss => [.mix (dhT 1 2)]
 | .psk k => [.mix (z5u (10 + (k : Int)))]
 | .text i => [.tell (z5u (20 + (i : Int)))]
def z1jh (psks : Bool) (l : List Tk) : List Ev := l.flatMap (Tk.evs psks)
def hasE (pres : List Nat) (l : List Tk) (w : Nat) : Bool := pres.contains w || l.contains (.e w)
def z1jz (pres : List Nat) (l : List Tk) : Tk → Bool
 | .pre w => pres.contains w
 | .ee => hasE pres l 0 && hasE pres l 1
 | .es => hasE pres l 0
 | .se => hasE pres l 1
 | .psk k => decide (k < 10)
 | .e w => decide (w < 10)
 | .s w => decide (w < 10)
 | _ => true
def z1kt (psks : Bool) (l : List Tk) : List Tm := (z1bm hd0 (z1jh psks l)).out
end Go.Tm