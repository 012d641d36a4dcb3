import Derived.Test.YtehaohfglolljaaDoorZzaf
import Derived.Test.YtehaohfglolljaaDoorZzah
import Derived.Test.YtehaohfglolljaaDoorZzak
import Derived.Test.YtehaohfglolljaaDoorZzab
set_option linter.unusedSimpArgs false
set_option linter.unusedVariables false
namespace Go.V
open Go
noncomputable section
section
variable {P : Program} {G : Env P}
def Ctr.or (T T' : Ctr G) : Ctr G := ⟨fun f args => match T.C f args with
  | some r => some r
  | none => T'.C f args, fun f args pre out h hp => by
  cases h1 : T.C f args with
  | some r => rw [h1] at h; simp only [Option.some.injEq] at h; subst h; exact T.ok f args pre out h1 hp
  | none => rw [h1] at h; exact T'.ok f args pre out h hp⟩
end
section
variable {P : Program} {G : Env P}
end
def yesF (p : Prop) : Bool := @decide p (Classical.propDecidable p)
def yes : Prop → Bool := (sealed yesF).val
theorem yes_iff {p : Prop} : yes p = true ↔ p := by
 rw [yes, (sealed yesF).property]; unfold yesF; exact @decide_eq_true_iff p (Classical.propDecidable p)
theorem ucutOk {α : Type} (l : List α) (m : Int) (hm : 0 ≤ m) : sliceOk none (some (cond false (max (l.length : Int) m) (min (l.length : Int) m))) l.length = true := by
 show (nnB _ && leB (Int.toNat _) _) = true
 rw [cond_false, nnB_iff.2 (by omega), leB_of (by omega)]; rfl
theorem ucutL {α : Type} (l : List α) (m : Int) (hm : 0 ≤ m) : sliceL none (some (cond false (max (l.length : Int) m) (min (l.length : Int) m))) l = l.take m.toNat := by
 show l.take (Int.toNat _) = _
 rw [cond_false]
 rcases Nat.le_total l.length m.toNat with h | h
 ·rw [List.take_of_length_le h, List.take_of_length_le (by omega)]
 ·congr 1; omega
theorem usomeOk (n : Nat) (m : Int) (hm : 0 ≤ m) : sliceOk none (some (cond false (max (n : Int) m) (min (n : Int) m))) n = true := by
 have := ucutOk (List.replicate n ()) m hm
 rwa [List.length_replicate] at this
theorem usomeN (n : Nat) (m : Int) (hm : 0 ≤ m) : hiN n (some (cond false (max (n : Int) m) (min (n : Int) m))) - 0 = min n m.toNat := by
 show Int.toNat _ - 0 = _
 rw [cond_false]; omega
theorem nnB_nat (n : Nat) : nnB (n : Int) = true := nnB_iff.2 (by omega)
end
noncomputable section
def coldT (H : Heap) : AV → Bool × AV × List (Nat × Ent)
 | .tup l => match coldL H l with
  | (c, l', u) => (c, .tup l', u)
 | a => coldA H a
section
variable {g : Nat → Option (List AV)} {ρ : Rho} {w : World}
theorem coldT_sound (v : AV) (I : Imm) (H : Heap) (c : Conc g ρ I H w) (hc : (coldT H v).1 = true) : FrzOk g ρ I H w (coldT H v).2.2 fun I' => ∀ x, rel ρ I w v x → rel ρ I' w (coldT H v).2.1 x := by
 have other : ∀ a, coldT H a = coldA H a → (coldT H a).1 = true → FrzOk g ρ I H w (coldT H a).2.2 fun I' => ∀ x, rel ρ I w a x → rel ρ I' w (coldT H a).2.1 x := by
  intro a h h1
  rw [h] at h1 ⊢
  obtain ⟨I', f1, f2, f3, f4⟩ := coldA_sound a I H c h1
  exact ⟨I', f1, f2, f3, fun x r => rel_of_R (coldA_ag H a) f4 r⟩
 cases v with
 | tup l =>
  have hc' : (coldL H l).1 = true := hc
  obtain ⟨I', f1, f2, f3, f4⟩ := coldL_rv l I H c hc'
  refine ⟨I', f1, f2, f3, fun x r => ?_⟩
  obtain ⟨cs, h1, h2⟩ := rel_tup.1 r
  exact rel_tup.2 ⟨cs, h1, f4 _ h2⟩
 | _ => exact other _ rfl hc
end
def okOut (out : Out) (v : AV) (H : Heap) : Prop := out.has v H ∨ ∃ v' v'' u, coldT H v = (true, v', u) ∧ leV v' v'' ∧ pureA v'' = true ∧ out.has v'' []
section
variable {P : Program} {G : Env P} {R : ROps G} {T : Ctr G}
theorem HCall.of_walkC (L : FuncId → Nat → LPlan) (n : Nat) {f : FuncId} {args : List AV} {out : Out} (hp : pureL args = true) (ho : out.okB = true) (h : walk G R T.C L n f args (okOut out)) : HCall G f args out := by
 refine ⟨hp, ho, fun ρ I w vs c r => (ACall.of_walk h ρ I w vs c r).mono ?_⟩
 rintro e w' ⟨x, rfl, ρ', I', v, H', gd, c', hr, hh⟩
 rcases hh with hh | ⟨v', v'', u, h1, h2, h3, h4⟩
 ·exact ⟨x, rfl, ρ', I', v, H', gd, c', hr, hh⟩
 ·obtain ⟨I2, f1, f2, f3, f4⟩ := coldT_sound v I' H' c' (by rw [h1])
  rw [h1] at f1 f2 f4
  obtain ⟨c2, g2⟩ := cut_conc f2 0 (fun e he => by simp at he)
  exact ⟨x, rfl, cutR 0 ρ', I2, v'', [], g2 (gd.trans f1) (fun id h => absurd (c.dom id h) (by simp)) (Nat.le_refl _), c2, rel_pure h3 (h2 _ _ _ _ (f4 _ hr)), h4⟩
end
theorem okOut.here {out : Out} {v : AV} {H : Heap} (h : out.has v H) : okOut out v H := .inl h
theorem okOut.ret {v : AV} {H : Heap} : okOut (.ret v H) v H := .inl ⟨rfl, rfl⟩
theorem okOut.cold {out : Out} {v v' v'' : AV} {H : Heap} {u : List (Nat × Ent)} (hc : coldT H v = (true, v', u)) (hle : leV v' v'') (hp : pureA v'' = true) (h : out.has v'' []) : okOut out v H := .inr ⟨v', v'', u, hc, hle, hp, h⟩
theorem okOut.alt {b : Bool} {x y : Out} {v : AV} {H : Heap} (h1 : b = true → okOut x v H) (h2 : b = false → okOut y v H) : okOut (.alt b x y) v H := by
 cases b with
 | true => exact h1 rfl
 | false => exact h2 rfl
theorem coldA_sl {l : List UInt8} {n : Nat} (h : n = l.length) : coldA [.grow8 l []] (.sl 0 0 1 n) = (true, .vec8 false l, [(0, .grow8 l [(0, n)])]) := by
 subst h
 show (frzFree [] 0 l.length && (1 == 1 && leB (0 + l.length) l.length), AV.vec8 false ((l.drop 0).take l.length), [(0, Ent.grow8 l [(0, 0 + l.length)])]) = _
 rw [leB_of (by omega), List.drop_zero, List.take_length, Nat.zero_add]; rfl
theorem leV_nil8 {a : AV} (h : nilS a = true) : leV a (.vec8 false []) := fun _ _ _ _ r => by
 obtain ⟨x, rfl⟩ := nilS_val h r
 exact rel_vec8.2 ⟨x, 0, rfl, Nat.le_refl _, fun _ => rfl, .inl rfl⟩
end
noncomputable section
def okG (v0 v : AV) (H : Heap) : Prop := ∃ v' u, coldT H v = (true, v', u) ∧ leV v' v0
theorem okG.mk {v0 v v' : AV} {H : Heap} {u : List (Nat × Ent)} (h : coldT H v = (true, v', u)) (hle : leV v' v0) : okG v0 v H := ⟨v', u, h, hle⟩
section
variable {P : Program} (G : Env P) (R : ROps G) (C : FuncId → List AV → Option (Bool × Out))
def walkH (L : FuncId → Nat → LPlan) (n : Nat) (f : FuncId) (args : List AV) (H : Heap) (K : AV → Heap → Prop) : Prop :=
 match P.funcs[f]? with
 | some fn => match fn.body with
  | some c => fL (args ++ List.replicate (fn.ntmps - args.length) (.tup [])) fun t => aw3 G R C (cinl G R C L n) (L f) c (aend G fn K) ⟨t, H⟩
  | none => False
 | none => False
end
section
variable {P : Program} {G : Env P} {R : ROps G} {T : Ctr G}
theorem GCall.of_walk (L : FuncId → Nat → LPlan) (d : Nat) {f : FuncId} {k n : Nat} {fr : Nat → List AV} {rest : List AV} {v : AV} (hp : pureL rest = true) (hv : pureA v = true)
  (h : walkH G R T.C L d f (.slv 0 k n fr :: rest) [.tail k n] (okG v)) : GCall G f (.slv 0 k n fr :: rest) v := by
 refine ⟨hv, k, n, fr, rest, rfl, hp, ?_⟩
 unfold walkH at h
 split at h
 ·rename_i fn hf
  split at h
  ·rename_i c hb
   have ha : ACall G f (.slv 0 k n fr :: rest) [.tail k n] (okG v) := body_sound hf hb (aw3_sound (cinl_sound L d) (L f) c (by
    simp only [fL_eq] at h
    exact h))
   intro ρ I w vs hc hr
   refine (ha ρ I w vs hc hr).mono ?_
   rintro e w' ⟨x, rfl, ρ', I', v1, H', g, c', hx, v', u, h1, h2⟩
   obtain ⟨I2, f1, f2, f3, f4⟩ := coldT_sound v1 I' H' c' (by rw [h1])
   rw [h1] at f1 f2 f4
   exact ⟨x, rfl, ρ', I2, v, _, g.trans f1, f2, h2 _ _ _ _ (f4 _ hx), rfl⟩
  ·exact h.elim
 ·exact h.elim
theorem GCall.rows {f : FuncId} {k n : Nat} {fr gr : Nat → List AV} {rest : List AV} {v : AV} (h : GCall G f (.slv 0 k n gr :: rest) v) (hr : ∀ i, i < n → leR (fr i) (gr i)) : GCall G f (.slv 0 k n fr :: rest) v := by
 obtain ⟨hv, k', n', gr', rest', he, hp, hc⟩ := h
 simp only [List.cons.injEq, AV.slv.injEq, true_and] at he
 obtain ⟨⟨rfl, rfl, rfl⟩, rfl⟩ := he
 refine ⟨hv, k, n, fr, rest, rfl, hp, fun ρ I w vs c r => hc ρ I w vs c ?_⟩
 obtain ⟨x, xs, rfl, k1, k2⟩ := RV_cons.1 r
 obtain ⟨j1, j2⟩ := rel_slv.1 k1
 exact RV_cons.2 ⟨x, xs, rfl, rel_slv.2 ⟨leV_vecr id hr _ _ _ _ j1, j2⟩, k2⟩
end
end
noncomputable section
section
variable {P : Program} (G : Env P)
def litBuild (op : Op) (ev : Operand → AV) : Option Eff :=
 match op with
 | .buildSlice t len parts => match G.ty t with
  | some ti => match ti.kind with
   | .slice e => match G.ty e with
    | some te => match te.zero with
     | some z => match te.kind with
      | .int .i64 => bif len == 0 then none else match afill (aplaceE te.size) (List.replicate len z) (parts.toList.map fun p => (p.1, ev p.2)) with
       | some (c, rows) => some (.ck (elOk te z && (rows.length == len && leB (len * te.size) 16777216)) (.ck (rows.all fun r => szA r == te.size) (.one c (.vec true te.size rows) [])))
       | none => none
      | _ => none
     | none => none
    | none => none
   | _ => none
  | none => none
 | _ => none
end
section
variable {P : Program} {G : Env P} {ρ : Rho} {I : Imm} {H : Heap} {w : World}
theorem litBuild_sound (c : Conc G.g ρ I H w) (ev : Operand → AV) (e : Operand → Value) (r : ∀ x, rel ρ I w (ev x) (e x)) (o : Oper) (E : Eff) (v : AV) (u : List (Nat × Ent)) (h : litBuild G o.op ev = some E) (hh : E.has v u) :
  EffOk G ρ I H w ((execOp e o).run P w) v u := by
 unfold litBuild at h
 split at h
 case h_2 => cases h
 rename_i t len parts hop
 split at h
 case h_2 => cases h
 rename_i ti hti
 obtain ⟨jt, d, _, q2, _, _, q5, _⟩ := ty_ok hti
 split at h
 case h_2 => cases h
 rename_i el hk
 rw [hk] at q5
 obtain rfl := TK.of_slice q5
 split at h
 case h_2 => cases h
 rename_i te hte
 split at h
 case h_2 => cases h
 rename_i z hz
 split at h
 case h_2 => cases h
 cases hl : len == 0 with
 | true => rw [hl] at h; simp at h
 | false =>
  rw [hl] at h
  simp only [cond_false] at h
  split at h
  case h_2 => cases h
  rename_i cc rows hfill
  simp only [Option.some.injEq] at h
  subst h
  obtain ⟨h1, h2, hcc, rfl, rfl⟩ := hh
  simp only [Bool.and_eq_true, beq_iff_eq] at h1
  obtain ⟨hok, hlen, hle⟩ := h1
  have hl0 : len ≠ 0 := by simpa using hl
  obtain ⟨j, zv, hj, hjs, hjb, hb0, hs0, hjz, hzs, hzr, hzR⟩ := el_info hte hz hok
  have hle := leB_iff.1 hle
  have hz0 : RL ρ I w (List.replicate len z) ((Array.range (len * j.size)).map (zv.cells[·% zv.cells.size]!)).toList := by
   rw [← hzs, made_list zv.cells (by omega) len]
   exact RL_replicate (hzR ρ I w) len
  have hi : (parts.toList.map fun p => (p.1, ev p.2)).map (·.1) = (parts.map fun p => (p.1, e p.2)).toList.map (·.1) := by simp
  have hr : RV ρ I w ((parts.toList.map fun p => (p.1, ev p.2)).map (·.2)) ((parts.map fun p => (p.1, e p.2)).toList.map (·.2)) := by
   refine RV_iff.2 ⟨by simp, fun i a x ha hx => ?_⟩
   simp only [List.map_map, Array.toList_map, List.getElem?_map] at ha hx
   cases hp : parts.toList[i]? with
   | none => simp [hp] at ha
   | some p =>
    simp only [hp, Option.map_some, Option.some.injEq] at ha hx
    subst ha; subst hx
    exact r p.2
  obtain ⟨out, o1, o2⟩ := afill_sound (place' := fun i => some (i * j.size, j.size)) hi hr (fun p _ q hq => by simpa [aplaceE, hjs] using hq) hz0 hfill hcc
  have hrun := run_buildSlice (P := P) w t el len (parts.map fun p => (p.1, e p.2)) out j zv q2 hj hjz (by rw [hjs]; omega) (by rw [Nat.mul_eq_zero]; omega) o1
  have hnew := alloc_new w (.cells out el)
  obtain ⟨g1, g2, g3⟩ := froz_new (w' := w.alloc (.cells out el)) c (by simp) (fun b hb => alloc_old w _ hb) (fun b o => b = w.heap.size) (fun b o h => by subst h; simp) rfl rfl rfl
  have hev : ∀ a ∈ rows, szA a = te.size := fun a ha => by
   rw [List.all_eq_true] at h2
   simpa using h2 a ha
  have run : (execOp e o).run P w = .ok (.value (.slice (some ⟨w.heap.size, 0, none⟩) len len)) (w.alloc (.cells out el)) := by
   simp only [execOp, hop, Sem.run_bind, hrun, Result.andThen_ok]
   rfl
  refine ⟨_, _, .inl run, ρ, _, g1, g2, g3, rel_vec.2 ⟨hev, out.toList, RL_mono g3 _ _ o2, some ⟨w.heap.size, 0, none⟩, len, by rw [hlen], by omega, fun _ => by omega, .inr ⟨w.heap.size, 0, rfl, by simp, fun i x hx => ?_⟩⟩⟩
  refine ⟨?_, .inr rfl⟩
  rw [Nat.zero_add, cell_of_heap (by rw [hnew])]
  exact hx
theorem litBuild_congr (op : Op) (ev ev' : Operand → AV) (he : ∀ x ∈ op.operands, ev' x = ev x) : litBuild G op ev' = litBuild G op ev := by
 cases op with
 | buildSlice t len parts =>
  have hp : (parts.toList.map fun p => (p.1, ev' p.2)) = parts.toList.map fun p => (p.1, ev p.2) := by
   apply List.map_congr_left
   intro p hp
   rw [he p.2 (by simp only [Op.operands, List.mem_toArray, List.mem_map]; exact ⟨p, hp, rfl⟩)]
  simp only [litBuild, hp]
 | _ => rfl
end
def ROps.lit {P : Program} {G : Env P} (R : ROps G) : ROps G where
 f := fun op ev H nid => match litBuild G op ev with
  | some E => some E
  | none => match R.f op ev H nid with
   | some E => some E
   | none => zeroOps G op ev
 congr := fun op ev ev' H H' nid he hr => by rw [litBuild_congr op ev ev' he, R.congr op ev ev' H H' nid he hr, zeroOps_congr op ev ev' he]
 sound := fun ρ I H w c ev e r o nid E v u h hh => by
  split at h
  ·rename_i E' hE
   simp only [Option.some.injEq] at h
   subst h
   exact litBuild_sound c ev e r o E' v u hE hh
  ·split at h
   ·rename_i E' hE
    simp only [Option.some.injEq] at h
    subst h
    exact R.sound ρ I H w c ev e r o nid E' v u hE hh
   ·exact zeroOps_sound c ev e r o E v u h hh
 pre := R.pre
 preC := R.preC
 preR := R.preR
 preS := R.preS
mutual
def inA (H : Heap) : AV → Bool × AV × List (Nat × Ent)
 | .vec full k rows => match coldL H rows with
  | (c, rows', u) => (c && rows'.all (fun a => szA a == k), .vec full k rows', u)
 | .agg l => match inL H l with
  | (c, l', u) => (c, .agg l', u)
 | a => (true, a, [])
def inL (H : Heap) : List AV → Bool × List AV × List (Nat × Ent)
 | [] => (true, [], [])
 | a :: as => match inA H a with
  | (c, a', u) => match inL (updH H u) as with
   | (c', as', u') => (c && c', a' :: as', u ++ u')
end
section
variable {P : Program} {G : Env P} {g : Nat → Option (List AV)} {ρ : Rho} {w : World}
mutual
theorem inA_sound : ∀ (a : AV) (I : Imm) (H : Heap), Conc g ρ I H w → (inA H a).1 = true → FrzOk g ρ I H w (inA H a).2.2 fun I' => ∀ xs, R ρ I w a xs → R ρ I' w (inA H a).2.1 xs
 | .vec full k rows, I, H, c, hc => by
  have hc2 : (coldL H rows).1 = true ∧ ((coldL H rows).2.1.all fun a => szA a == k) = true := by simpa [inA] using hc
  obtain ⟨I', f1, f2, f3, f4⟩ := coldL_sound rows I H c hc2.1
  refine ⟨I', f1, f2, f3, ?_⟩
  rintro xs ⟨v, rfl, h1, vs, h2, h3⟩
  refine ⟨v, rfl, fun a ha => by have := List.all_eq_true.1 hc2.2 a ha; simpa using this, vs, f4 vs h2, ?_⟩
  have := h3.mono f3
  rwa [show (coldL H rows).2.1.length = rows.length from coldL_len rows H]
 | .agg l, I, H, c, hc => by
  obtain ⟨I', f1, f2, f3, f4⟩ := inL_sound l I H c hc
  exact ⟨I', f1, f2, f3, fun xs h => f4 xs h⟩
 | .sl _ _ _ _, I, H, c, _ | .slv _ _ _ _, I, H, c, _ | .ptr _ _, I, H, c, _ | .any, I, H, c, _ | .raw _, I, H, c, _ | .int _ _, I, H, c, _ | .u8 _, I, H, c, _ | .u32 _, I, H, c, _ | .u64 _, I, H, c, _ | .bool _, I, H, c, _ | .str _, I, H, c, _ | .b8 _ _, I, H, c, _ | .w32 _ _, I, H, c, _ | .w64 _ _, I, H, c, _ | .n64 _ _, I, H, c, _
 | .pix _ _ _ _, I, H, c, _ | .vec8 _ _, I, H, c, _ | .vecr _ _ _ _, I, H, c, _ | .vp _ _, I, H, c, _ | .vpx _ _ _ _, I, H, c, _ | .fn _ _ _, I, H, c, _ | .tup _, I, H, c, _ => FrzOk.none c fun xs h => h
theorem inL_sound : ∀ (l : List AV) (I : Imm) (H : Heap), Conc g ρ I H w → (inL H l).1 = true → FrzOk g ρ I H w (inL H l).2.2 fun I' => ∀ xs, RL ρ I w l xs → RL ρ I' w (inL H l).2.1 xs
 | [], I, H, c, _ => FrzOk.none c fun xs h => h
 | a :: as, I, H, c, hc => by
  have hc2 : (inA H a).1 = true ∧ (inL (updH H (inA H a).2.2) as).1 = true := by simpa [inL] using hc
  obtain ⟨I1, f1, f2, f3, f4⟩ := inA_sound a I H c hc2.1
  obtain ⟨I2, g1, g2, g3, g4⟩ := inL_sound as I1 (updH H (inA H a).2.2) f2 hc2.2
  refine ⟨I2, ?_, ?_, f3.trans' g3, ?_⟩
  ·show Good ρ I H w ρ I2 (updH H ((inA H a).2.2 ++ (inL (updH H (inA H a).2.2) as).2.2)) w
   rw [updH_append]; exact f1.trans g1
  ·show Conc g ρ I2 (updH H ((inA H a).2.2 ++ (inL (updH H (inA H a).2.2) as).2.2)) w
   rw [updH_append]; exact g2
  ·rintro xs ⟨ys, zs, rfl, h1, h2⟩
   exact ⟨ys, zs, rfl, R_mono g3 _ _ (f4 ys h1), g4 zs (RL_mono f3 _ _ h2)⟩
end
end
section
variable {g : Nat → Option (List AV)} {ρ : Rho} {w : World}
end
section
variable {P : Program} {G : Env P} {R : ROps G} {T : Ctr G}
end
end
end Go.V
namespace Go.Rat
open Go Go.V
structure Kp where
 peer : List UInt8
 n : Int
 key : List UInt8
 deriving DecidableEq
def kp0 : Kp := ⟨[], 0, []⟩
def Kp.cells (p : Kp) : List AV := [.b8 32 p.peer, .int .i64 p.n, .b8 32 p.key]
def kcs (l : List Kp) (i : Nat) : List AV := (l.getD i kp0).cells
theorem kcs_ok (l : List Kp) (i : Nat) : leR (kcs l i) (kcs l i) := leR.refl rfl
theorem kcs_app1 {a b : List Kp} {x : Nat} (h : x < a.length) : kcs (a ++ b) x = kcs a x := by
 unfold kcs; rw [List.getD_eq_getElem?_getD, List.getD_eq_getElem?_getD, List.getElem?_append_left h]
theorem kcs_app2 {a b : List Kp} {x : Nat} : kcs (a ++ b) (a.length + x) = kcs b x := by
 unfold kcs; rw [List.getD_eq_getElem?_getD, List.getD_eq_getElem?_getD, List.getElem?_append_right (by omega), Nat.add_sub_cancel_left]
theorem kcs_inj {l l' : List Kp} (h1 : l.length = l'.length) (h2 : ∀ i, i < l.length → kcs l i = kcs l' i) : l = l' := by
 apply List.ext_getElem h1
 intro i hi hi'
 have := h2 i hi
 unfold kcs at this
 rw [List.getD_eq_getElem?_getD, List.getD_eq_getElem?_getD, List.getElem?_eq_getElem hi, List.getElem?_eq_getElem hi'] at this
 simp only [Option.getD_some, Kp.cells, List.cons.injEq, AV.b8.injEq, AV.int.injEq, true_and, and_true] at this
 obtain ⟨a, b, c⟩ := this
 cases h : l[i]; cases h' : l'[i]
 simp_all
noncomputable def kpsOf (n : Nat) (f : Nat → List AV) : List Kp := @dite _ (∃ l : List Kp, n = l.length ∧ ∀ i, i < n → f i = kcs l i) (Classical.propDecidable _) (fun h => Classical.choose h) (fun _ => [])
theorem kpsOf_eq {n : Nat} {f : Nat → List AV} (l : List Kp) (hn : n = l.length) (hf : ∀ i, i < n → f i = kcs l i) : kpsOf n f = l := by
 unfold kpsOf
 have h : ∃ l : List Kp, n = l.length ∧ ∀ i, i < n → f i = kcs l i := ⟨l, hn, hf⟩
 rw [dif_pos h]
 obtain ⟨h1, h2⟩ := Classical.choose_spec h
 exact kcs_inj (h1.symm.trans hn) fun i hi => by rw [← h2 i (by omega), hf i (by omega)]
noncomputable def isKpsF (n : Nat) (f : Nat → List AV) : Bool := yes (∃ l : List Kp, n = l.length ∧ ∀ i, i < n → f i = kcs l i)
noncomputable def isKps : Nat → (Nat → List AV) → Bool := (sealed isKpsF).val
theorem isKps_iff {n : Nat} {f : Nat → List AV} : isKps n f = true ↔ ∃ l : List Kp, n = l.length ∧ ∀ i, i < n → f i = kcs l i := by
 rw [isKps, (sealed isKpsF).property]; exact yes_iff
theorem isKps_kcs {l : List Kp} : isKps l.length (kcs l) = true := isKps_iff.2 ⟨l, rfl, fun _ _ => rfl⟩
structure Rt where
 root : List UInt8
 own : List UInt8
 peer : List UInt8
 send : List UInt8
 out : Int
 recv : List UInt8
 inn : Int
 last : Int
 can : Bool
 hear : Bool
 kept : List Kp
def Rt.av (r : Rt) (k : AV) : AV := .agg [.b8 32 r.root, .b8 32 r.own, .b8 32 r.peer, .b8 32 r.send, .int .i64 r.out, .b8 32 r.recv, .int .i64 r.inn, .int .i64 r.last, .bool r.can, .bool r.hear, k]
def inN (n : Int) : Bool := !(ltI n 0) && !(ltI 1073741824 n)
theorem inN_iff {n : Int} : inN n = true ↔ 0 ≤ n ∧ n ≤ 1073741824 := by
 unfold inN
 rw [Bool.and_eq_true, Bool.not_eq_true', Bool.not_eq_true', ← Bool.not_eq_true, ← Bool.not_eq_true, ltI_iff, ltI_iff]
 omega
def kpOk (l : List Kp) (i : Nat) : Prop := inN (l.getD i kp0).n = true ∧ ∀ j, j < i → ¬ ((l.getD j kp0).peer = (l.getD i kp0).peer ∧ (l.getD j kp0).n = (l.getD i kp0).n)
def kpsOk (l : List Kp) : Prop := ∀ i, i < l.length → kpOk l i
def chkP (out inn last : Int) (l : List Kp) : Prop := inN out = true ∧ inN inn = true ∧ inN last = true ∧ l.length ≤ 12 ∧ kpsOk l
noncomputable def chkF (out inn last : Int) (l : List Kp) : Int := bif yes (chkP out inn last l) then 0 else 9
noncomputable def chkS : Int → Int → Int → List Kp → Int := (sealed chkF).val
theorem chkS_ok {out inn last : Int} {l : List Kp} (h : chkP out inn last l) : chkS out inn last l = 0 := by
 rw [chkS, (sealed chkF).property, chkF, yes_iff.2 h]; rfl
theorem chkS_bad {out inn last : Int} {l : List Kp} (h : ¬ chkP out inn last l) : chkS out inn last l = 9 := by
 rw [chkS, (sealed chkF).property, chkF, show yes (chkP out inn last l) = false from by
  cases hb : yes (chkP out inn last l) with
  | false => rfl
  | true => exact absurd (yes_iff.1 hb) h]; rfl
theorem pos_slices (n k : Nat) (h : k ≤ n) : sliceOk none (some ((k : Nat) : Int)) n = true ∧ sliceOk (some ((k : Nat) : Int)) none n = true ∧ hiN n (some ((k : Nat) : Int)) - 0 = k ∧ hiN n none = n ∧ loN (some ((k : Nat) : Int)) = k ∧ loN none = 0 := by
 refine ⟨?_, ?_, ?_, rfl, Int.toNat_natCast _, rfl⟩
 ·show (nnB _ && leB (Int.toNat _) _) = true
  rw [nnB_nat, Int.toNat_natCast, leB_of h]; rfl
 ·show (nnB _ && leB (Int.toNat _) _) = true
  rw [nnB_nat, Int.toNat_natCast, leB_of h]; rfl
 ·show k - 0 = k; omega
def Rt.rv (r : Rt) : AV := .agg [.b8 32 r.root, .b8 32 r.own, .b8 32 r.peer, .b8 32 r.send, .int .i64 r.out, .b8 32 r.recv, .int .i64 r.inn, .int .i64 r.last, .bool r.can, .bool r.hear, .vecr false 65 r.kept.length (kcs r.kept)]
def iK (n : Int) : AV := .int .i64 n
def b8K (l : List UInt8) : AV := .b8 32 l
def z8K : AV := .b8 32 [0, 0, 0, 0, 0, 0, 0, 0, 0, 0, 0, 0, 0, 0, 0, 0, 0, 0, 0, 0, 0, 0, 0, 0, 0, 0, 0, 0, 0, 0, 0, 0]
def smK {α : Type} (a : α) (k : Prop) : Prop := (a = a) ∧ k
def q1K {α β γ : Type} (w : α × β × γ) : β := w.2.1
def q2K {α β γ : Type} (w : α × β × γ) : γ := w.2.2
def nK (n : Nat) : Int := ((n : Nat) : Int)
def rvK (a b : Rt) (k : Prop) : Prop := (b8K a.root = b8K b.root) ∧ ((b8K a.own = b8K b.own) ∧ ((b8K a.peer = b8K b.peer) ∧ ((b8K a.send = b8K b.send) ∧ ((iK a.out = iK b.out) ∧ ((b8K a.recv = b8K b.recv) ∧ ((iK a.inn = iK b.inn) ∧ ((iK a.last = iK b.last) ∧ ((AV.bool a.can = AV.bool b.can) ∧ ((AV.bool a.hear = AV.bool b.hear) ∧ ((AV.vecr false 65 (List.length a.kept) (kcs a.kept) = AV.vecr false 65 (List.length b.kept) (kcs b.kept)) ∧ k))))))))))
end Go.Rat
namespace Go.Pin
open Go Go.V
def kbytes (a b c d : UInt8) : List UInt8 := [a, b + 1, c + 4, d + 9, a + 16, b + 25, c + 36, d + 49, a + 64, b + 81, c + 100, d + 121, a + 144, b + 169, c + 196, d + 225, a, b + 33, c + 68, d + 105, a + 144, b + 185, c + 228, d + 17, a + 64, b + 113, c + 164, d + 217, a + 16, b + 73, c + 132, d + 193]
def kx (n : Int) (k : Nat) : UInt8 := UInt32.toUInt8 (shr32 (UInt32.ofNat (Int.toNat (n % 4294967296))) k)
def keyF (n : Int) : List UInt8 := kbytes (kx n 0) (kx n 8) (kx n 16) (kx n 24)
noncomputable def keyS : Int → List UInt8 := (sealed keyF).val
theorem keyS_eq (n : Int) : keyS n = keyF n := by rw [keyS, (sealed keyF).property]
theorem length_keyS (n : Int) : (keyS n).length = 32 := by rw [keyS_eq]; rfl
end Go.Pin