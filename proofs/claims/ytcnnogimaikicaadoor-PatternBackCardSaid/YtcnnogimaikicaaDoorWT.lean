/- The abstract layer (third state), part T: short rows of numbers that nobody writes from the beginning, and have no room behind them. -/
import Derived.Test.YtcnnogimaikicaaDoorWX
import Derived.Test.YtcnnogimaikicaaDoorUC
import Derived.Test.YtcnnogimaikicaaDoorUG

set_option linter.unusedSimpArgs false
set_option linter.unusedVariables false
namespace Go.V
open Go
noncomputable section
section
variable {P : Program} (G : Env P)
def litBuild (op : Op) (ev : Operand → AV) : Option Eff :=
  match op with
  | .buildSlice t len parts => match G.ty t with
    | some ti => match ti.kind with
      | .slice e => match G.ty e with
        | some te => match te.zero with
          | some z => match te.kind with
            | .int .i64 => bif len == 0 then none else match afill (aplaceE te.size) (List.replicate len z) (parts.toList.map fun p => (p.1, ev p.2)) with
              | some (c, rows) => some (.ck (elOk te z && (rows.length == len && leB (len * te.size) 16777216)) (.ck (rows.all fun r => szA r == te.size) (.one c (.vec true te.size rows) [])))
              | none => none
            | _ => none
          | none => none
        | none => none
      | _ => none
    | none => none
  | _ => none
end
section
variable {P : Program} {G : Env P} {ρ : Rho} {I : Imm} {H : Heap} {w : World}
theorem litBuild_sound (c : Conc G.g ρ I H w) (ev : Operand → AV) (e : Operand → Value) (r : ∀ x, rel ρ I w (ev x) (e x)) (o : Oper) (E : Eff) (v : AV) (u : List (Nat × Ent)) (h : litBuild G o.op ev = some E) (hh : E.has v u) :
    EffOk G ρ I H w ((execOp e o).run P w) v u := by
  unfold litBuild at h
  split at h
  case h_2 => cases h
  rename_i t len parts hop
  split at h
  case h_2 => cases h
  rename_i ti hti
  obtain ⟨jt, d, _, q2, _, _, q5, _⟩ := ty_ok hti
  split at h
  case h_2 => cases h
  rename_i el hk
  rw [hk] at q5
  obtain rfl := TK.of_slice q5
  split at h
  case h_2 => cases h
  rename_i te hte
  split at h
  case h_2 => cases h
  rename_i z hz
  split at h
  case h_2 => cases h
  cases hl : len == 0 with
  | true => rw [hl] at h; simp at h
  | false =>
    rw [hl] at h
    simp only [cond_false] at h
    split at h
    case h_2 => cases h
    rename_i cc rows hfill
    simp only [Option.some.injEq] at h
    subst h
    obtain ⟨h1, h2, hcc, rfl, rfl⟩ := hh
    simp only [Bool.and_eq_true, beq_iff_eq] at h1
    obtain ⟨hok, hlen, hle⟩ := h1
    have hl0 : len ≠ 0 := by simpa using hl
    obtain ⟨j, zv, hj, hjs, hjb, hb0, hs0, hjz, hzs, hzr, hzR⟩ := el_info hte hz hok
    have hle := leB_iff.1 hle
    have hz0 : RL ρ I w (List.replicate len z) ((Array.range (len * j.size)).map (zv.cells[· % zv.cells.size]!)).toList := by
      rw [← hzs, made_list zv.cells (by omega) len]
      exact RL_replicate (hzR ρ I w) len
    have hi : (parts.toList.map fun p => (p.1, ev p.2)).map (·.1) = (parts.map fun p => (p.1, e p.2)).toList.map (·.1) := by simp
    have hr : RV ρ I w ((parts.toList.map fun p => (p.1, ev p.2)).map (·.2)) ((parts.map fun p => (p.1, e p.2)).toList.map (·.2)) := by
      refine RV_iff.2 ⟨by simp, fun i a x ha hx => ?_⟩
      simp only [List.map_map, Array.toList_map, List.getElem?_map] at ha hx
      cases hp : parts.toList[i]? with
      | none => simp [hp] at ha
      | some p =>
        simp only [hp, Option.map_some, Option.some.injEq] at ha hx
        subst ha; subst hx
        exact r p.2
    obtain ⟨out, o1, o2⟩ := afill_sound (place' := fun i => some (i * j.size, j.size)) hi hr (fun p _ q hq => by simpa [aplaceE, hjs] using hq) hz0 hfill hcc
    have hrun := run_buildSlice (P := P) w t el len (parts.map fun p => (p.1, e p.2)) out j zv q2 hj hjz (by rw [hjs]; omega) (by rw [Nat.mul_eq_zero]; omega) o1
    have hnew := alloc_new w (.cells out el)
    obtain ⟨g1, g2, g3⟩ := froz_new (w' := w.alloc (.cells out el)) c (by simp) (fun b hb => alloc_old w _ hb) (fun b o => b = w.heap.size) (fun b o h => by subst h; simp) rfl rfl rfl
    have hev : ∀ a ∈ rows, szA a = te.size := fun a ha => by
      rw [List.all_eq_true] at h2
      simpa using h2 a ha
    have run : (execOp e o).run P w = .ok (.value (.slice (some ⟨w.heap.size, 0, none⟩) len len)) (w.alloc (.cells out el)) := by
      simp only [execOp, hop, Sem.run_bind, hrun, Result.andThen_ok]
      rfl
    refine ⟨_, _, .inl run, ρ, _, g1, g2, g3, rel_vec.2 ⟨hev, out.toList, RL_mono g3 _ _ o2, some ⟨w.heap.size, 0, none⟩, len, by rw [hlen], by omega, fun _ => by omega, .inr ⟨w.heap.size, 0, rfl, by simp, fun i x hx => ?_⟩⟩⟩
    refine ⟨?_, .inr rfl⟩
    rw [Nat.zero_add, cell_of_heap (by rw [hnew])]
    exact hx
theorem litBuild_congr (op : Op) (ev ev' : Operand → AV) (he : ∀ x ∈ op.operands, ev' x = ev x) : litBuild G op ev' = litBuild G op ev := by
  cases op with
  | buildSlice t len parts =>
    have hp : (parts.toList.map fun p => (p.1, ev' p.2)) = parts.toList.map fun p => (p.1, ev p.2) := by
      apply List.map_congr_left
      intro p hp
      rw [he p.2 (by simp only [Op.operands, List.mem_toArray, List.mem_map]; exact ⟨p, hp, rfl⟩)]
    simp only [litBuild, hp]
  | _ => rfl
end
/-- Operations: short rows of numbers are told at once. -/
def ROps.lit {P : Program} {G : Env P} (R : ROps G) : ROps G where
  f := fun op ev H nid => match litBuild G op ev with
    | some E => some E
    | none => match R.f op ev H nid with
      | some E => some E
      | none => zeroOps G op ev
  congr := fun op ev ev' H H' nid he hr => by rw [litBuild_congr op ev ev' he, R.congr op ev ev' H H' nid he hr, zeroOps_congr op ev ev' he]
  sound := fun ρ I H w c ev e r o nid E v u h hh => by
    split at h
    · rename_i E' hE
      simp only [Option.some.injEq] at h
      subst h
      exact litBuild_sound c ev e r o E' v u hE hh
    · split at h
      · rename_i E' hE
        simp only [Option.some.injEq] at h
        subst h
        exact R.sound ρ I H w c ev e r o nid E' v u hE hh
      · exact zeroOps_sound c ev e r o E v u h hh
  pre := R.pre
  preC := R.preC
  preR := R.preR
  preS := R.preS

mutual
/-- What is inside of rows, written no more. -/
def inA (H : Heap) : AV → Bool × AV × List (Nat × Ent)
  | .vec full k rows => match coldL H rows with
    | (c, rows', u) => (c && rows'.all (fun a => szA a == k), .vec full k rows', u)
  | .agg l => match inL H l with
    | (c, l', u) => (c, .agg l', u)
  | a => (true, a, [])
def inL (H : Heap) : List AV → Bool × List AV × List (Nat × Ent)
  | [] => (true, [], [])
  | a :: as => match inA H a with
    | (c, a', u) => match inL (updH H u) as with
      | (c', as', u') => (c && c', a' :: as', u ++ u')
end
theorem inA_ag (H : Heap) (a : AV) : isAg (inA H a).2.1 = isAg a := by cases a <;> rfl
section
variable {P : Program} {G : Env P} {g : Nat → Option (List AV)} {ρ : Rho} {w : World}
mutual
theorem inA_sound : ∀ (a : AV) (I : Imm) (H : Heap), Conc g ρ I H w → (inA H a).1 = true → FrzOk g ρ I H w (inA H a).2.2 fun I' => ∀ xs, R ρ I w a xs → R ρ I' w (inA H a).2.1 xs
  | .vec full k rows, I, H, c, hc => by
    have hc2 : (coldL H rows).1 = true ∧ ((coldL H rows).2.1.all fun a => szA a == k) = true := by simpa [inA] using hc
    obtain ⟨I', f1, f2, f3, f4⟩ := coldL_sound rows I H c hc2.1
    refine ⟨I', f1, f2, f3, ?_⟩
    rintro xs ⟨v, rfl, h1, vs, h2, h3⟩
    refine ⟨v, rfl, fun a ha => by have := List.all_eq_true.1 hc2.2 a ha; simpa using this, vs, f4 vs h2, ?_⟩
    have := h3.mono f3
    rwa [show (coldL H rows).2.1.length = rows.length from coldL_len rows H]
  | .agg l, I, H, c, hc => by
    obtain ⟨I', f1, f2, f3, f4⟩ := inL_sound l I H c hc
    exact ⟨I', f1, f2, f3, fun xs h => f4 xs h⟩
  | .sl _ _ _ _, I, H, c, _ | .slv _ _ _ _, I, H, c, _ | .ptr _ _, I, H, c, _ | .any, I, H, c, _ | .raw _, I, H, c, _ | .int _ _, I, H, c, _ | .u8 _, I, H, c, _ | .u32 _, I, H, c, _ | .u64 _, I, H, c, _ | .bool _, I, H, c, _ | .str _, I, H, c, _ | .b8 _ _, I, H, c, _ | .w32 _ _, I, H, c, _ | .w64 _ _, I, H, c, _ | .n64 _ _, I, H, c, _
  | .pix _ _ _ _, I, H, c, _ | .vec8 _ _, I, H, c, _ | .vecr _ _ _ _, I, H, c, _ | .vp _ _, I, H, c, _ | .vpx _ _ _ _, I, H, c, _ | .fn _ _ _, I, H, c, _ | .tup _, I, H, c, _ => FrzOk.none c fun xs h => h
theorem inL_sound : ∀ (l : List AV) (I : Imm) (H : Heap), Conc g ρ I H w → (inL H l).1 = true → FrzOk g ρ I H w (inL H l).2.2 fun I' => ∀ xs, RL ρ I w l xs → RL ρ I' w (inL H l).2.1 xs
  | [], I, H, c, _ => FrzOk.none c fun xs h => h
  | a :: as, I, H, c, hc => by
    have hc2 : (inA H a).1 = true ∧ (inL (updH H (inA H a).2.2) as).1 = true := by simpa [inL] using hc
    obtain ⟨I1, f1, f2, f3, f4⟩ := inA_sound a I H c hc2.1
    obtain ⟨I2, g1, g2, g3, g4⟩ := inL_sound as I1 (updH H (inA H a).2.2) f2 hc2.2
    refine ⟨I2, ?_, ?_, f3.trans' g3, ?_⟩
    · show Good ρ I H w ρ I2 (updH H ((inA H a).2.2 ++ (inL (updH H (inA H a).2.2) as).2.2)) w
      rw [updH_append]; exact f1.trans g1
    · show Conc g ρ I2 (updH H ((inA H a).2.2 ++ (inL (updH H (inA H a).2.2) as).2.2)) w
      rw [updH_append]; exact g2
    · rintro xs ⟨ys, zs, rfl, h1, h2⟩
      exact ⟨ys, zs, rfl, R_mono g3 _ _ (f4 ys h1), g4 zs (RL_mono f3 _ _ h2)⟩
end
theorem inL_rv : ∀ (l : List AV) (I : Imm) (H : Heap), Conc g ρ I H w → (inL H l).1 = true → FrzOk g ρ I H w (inL H l).2.2 fun I' => ∀ vs, RV ρ I w l vs → RV ρ I' w (inL H l).2.1 vs
  | [], I, H, c, _ => FrzOk.none c fun xs h => h
  | a :: as, I, H, c, hc => by
    have hc2 : (inA H a).1 = true ∧ (inL (updH H (inA H a).2.2) as).1 = true := by simpa [inL] using hc
    obtain ⟨I1, f1, f2, f3, f4⟩ := inA_sound a I H c hc2.1
    obtain ⟨I2, g1, g2, g3, g4⟩ := inL_rv as I1 (updH H (inA H a).2.2) f2 hc2.2
    refine ⟨I2, ?_, ?_, f3.trans' g3, ?_⟩
    · show Good ρ I H w ρ I2 (updH H ((inA H a).2.2 ++ (inL (updH H (inA H a).2.2) as).2.2)) w
      rw [updH_append]; exact f1.trans g1
    · show Conc g ρ I2 (updH H ((inA H a).2.2 ++ (inL (updH H (inA H a).2.2) as).2.2)) w
      rw [updH_append]; exact g2
    · intro vs h
      obtain ⟨x, xs, rfl, h1, h2⟩ := RV_cons.1 h
      exact RV_cons.2 ⟨x, xs, rfl, rel_mono g3 (rel_of_R (inA_ag H a) f4 h1), g4 xs (RV_mono f3 _ _ h2)⟩
end
/-- A result, written no more, nor what is inside of it. -/
def inT (H : Heap) : AV → Bool × AV × List (Nat × Ent)
  | .tup l => match inL H l with
    | (c, l', u) => (c, .tup l', u)
  | a => inA H a
def deepT (H : Heap) (v : AV) : Bool × AV × List (Nat × Ent) := match coldT H v with
  | (c1, v1, u1) => match inT (updH H u1) v1 with
    | (c2, v2, u2) => (c1 && c2, v2, u1 ++ u2)
section
variable {g : Nat → Option (List AV)} {ρ : Rho} {w : World}
theorem inT_sound (v : AV) (I : Imm) (H : Heap) (c : Conc g ρ I H w) (hc : (inT H v).1 = true) : FrzOk g ρ I H w (inT H v).2.2 fun I' => ∀ x, rel ρ I w v x → rel ρ I' w (inT H v).2.1 x := by
  have other : ∀ a, inT H a = inA H a → (inT H a).1 = true → FrzOk g ρ I H w (inT H a).2.2 fun I' => ∀ x, rel ρ I w a x → rel ρ I' w (inT H a).2.1 x := by
    intro a h h1
    rw [h] at h1 ⊢
    obtain ⟨I', f1, f2, f3, f4⟩ := inA_sound a I H c h1
    exact ⟨I', f1, f2, f3, fun x r => rel_of_R (inA_ag H a) f4 r⟩
  cases v with
  | tup l =>
    have hc' : (inL H l).1 = true := hc
    obtain ⟨I', f1, f2, f3, f4⟩ := inL_rv l I H c hc'
    refine ⟨I', f1, f2, f3, fun x r => ?_⟩
    obtain ⟨cs, h1, h2⟩ := rel_tup.1 r
    exact rel_tup.2 ⟨cs, h1, f4 _ h2⟩
  | _ => exact other _ rfl hc
theorem deepT_sound (v : AV) (I : Imm) (H : Heap) (c : Conc g ρ I H w) (hc : (deepT H v).1 = true) : FrzOk g ρ I H w (deepT H v).2.2 fun I' => ∀ x, rel ρ I w v x → rel ρ I' w (deepT H v).2.1 x := by
  have hc2 : (coldT H v).1 = true ∧ (inT (updH H (coldT H v).2.2) (coldT H v).2.1).1 = true := by simpa [deepT] using hc
  obtain ⟨I1, f1, f2, f3, f4⟩ := coldT_sound v I H c hc2.1
  obtain ⟨I2, g1, g2, g3, g4⟩ := inT_sound (coldT H v).2.1 I1 (updH H (coldT H v).2.2) f2 hc2.2
  refine ⟨I2, ?_, ?_, f3.trans' g3, fun x r => g4 x (f4 x r)⟩
  · show Good ρ I H w ρ I2 (updH H ((coldT H v).2.2 ++ (inT (updH H (coldT H v).2.2) (coldT H v).2.1).2.2)) w
    rw [updH_append]; exact f1.trans g1
  · show Conc g ρ I2 (updH H ((coldT H v).2.2 ++ (inT (updH H (coldT H v).2.2) (coldT H v).2.1).2.2)) w
    rw [updH_append]; exact g2
end
/-- A leaf that comes to a plain value in a few known forms, told by a question that can be asked. -/
def leafB (q : AV → Bool) (v : AV) (H : Heap) : Prop := (deepT H v).1 = true ∧ q (deepT H v).2.1 = true
/-- Walks of many cases. -/
def wAll {α : Type} (W : α → Prop) : List α → Prop
  | [] => True
  | a :: r => W a ∧ wAll W r
def tAll {α : Type} : List α → Prop
  | [] => True
  | _ :: r => (true = true ∧ true = true) ∧ tAll r
theorem tAll_ok {α : Type} : ∀ l : List α, tAll l
  | [] => trivial
  | _ :: r => ⟨⟨rfl, rfl⟩, tAll_ok r⟩
theorem wAll_mem {α : Type} {W : α → Prop} : ∀ {l : List α}, wAll W l → ∀ a ∈ l, W a
  | _ :: _, h, a, ha => by
    rcases List.mem_cons.1 ha with rfl | ha
    · exact h.1
    · exact wAll_mem h.2 a ha
theorem wAll_of {α : Type} {W : α → Prop} {l : List α} (h : wAll W l = tAll l) : ∀ a ∈ l, W a := wAll_mem (h.symm ▸ tAll_ok l)
section
variable {P : Program} {G : Env P} {R : ROps G} {T : Ctr G}
theorem ACall.of_walkH {L : FuncId → Nat → LPlan} {n : Nat} {f : FuncId} {args : List AV} {H : Heap} {K : AV → Heap → Prop} (h : walkH G R T.C L n f args H K) : ACall G f args H K := by
  unfold walkH at h
  split at h
  · rename_i fn hf
    split at h
    · rename_i c hb
      exact body_sound hf hb (aw3_sound (cinl_sound L n) (L f) c (by
        simp only [fL_eq] at h
        exact h))
    · exact h.elim
  · exact h.elim
theorem HCall.of_walkB (L : FuncId → Nat → LPlan) (n : Nat) {f : FuncId} {args : List AV} {q : AV → Bool} {w0 : AV} (hp : pureL args = true) (h : walkH G R T.C L n f args [] (leafB q)) (hq : ∀ x, q x = true → leV x w0) (hw : pureA w0 = true) :
    HCall G f args (.ret w0 []) := by
  refine ⟨hp, by simp [Out.okB, refsA_pure _ hw], fun ρ I w vs c r => (ACall.of_walkH h ρ I w vs c r).mono ?_⟩
  rintro e w' ⟨x, rfl, ρ', I', v, H', gd, c', hr, h1, h2⟩
  obtain ⟨I2, f1, f2, f3, f4⟩ := deepT_sound v I' H' c' h1
  obtain ⟨c2, g2⟩ := cut_conc f2 0 (fun e he => by simp at he)
  exact ⟨x, rfl, cutR 0 ρ', I2, w0, [], g2 (gd.trans f1) (fun id h => absurd (c.dom id h) (by simp)) (Nat.le_refl _), c2, rel_pure hw (hq _ h2 _ _ _ _ (f4 _ hr)), ⟨rfl, rfl⟩⟩
end
end
end Go.V
