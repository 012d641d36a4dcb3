/- The abstract layer (second state), part I: the model agrees with each operation. -/
import Derived.Test.YtfjmpdoidkblcaaDoorVH
set_option linter.unusedSimpArgs false
set_option linter.unusedVariables false
namespace Go.V
open Go
noncomputable section

section
variable {P : Program} {G : Env P} {ρ : Rho} {I : Imm} {H : Heap} {w : World}

theorem places_of : ∀ (fs : List Field), allTy G (fs.map fun f => (f.offset, f.type)) = true →
    ∃ places, fs.mapM (fun f => (P.info? f.type).map fun i => (f.offset, i.size)) = some places ∧ ∀ i q, aplace G (fs.map fun f => (f.offset, f.type)) i = some q → places[i]? = some q
  | [], _ => ⟨[], rfl, fun i q h => by simp [aplace] at h⟩
  | f :: fs, h => by
    simp only [allTy, List.map_cons, List.all_cons, Bool.and_eq_true] at h
    obtain ⟨pl, p1, p2⟩ := places_of fs h.2
    obtain ⟨tf, htf⟩ := Option.isSome_iff_exists.1 h.1
    obtain ⟨j, d, h1, h2, h3, h4, h5⟩ := ty_ok htf
    refine ⟨(f.offset, j.size) :: pl, ?_, ?_⟩
    · simp [List.mapM_cons, h1, p1]
    · intro i q hq
      cases i with
      | zero => simp [aplace, htf] at hq; simp [← hq, h3]
      | succ i => simp only [List.getElem?_cons_succ]; exact p2 i q (by simpa [aplace] using hq)

theorem zero_cells {z : AV} {v : Value} (hz : isAg z = true) (h : rel ρ I w z v) : RL ρ I w z.cells v.cells.toList := by
  obtain ⟨cs, rfl, hr⟩ := (rel_ag hz).1 h
  exact R_cells hr

theorem abuild_sound {ev : Operand → AV} {e : Operand → Value} (r : ∀ x, rel ρ I w (ev x) (e x)) {t : Nat} {parts : Array (Nat × Operand)} {p : Bool × AV}
    (h : abuild G t (parts.toList.map fun p => (p.1, ev p.2)) = some p) (hp : p.1 = true) : ∃ cells, P.built t (parts.map fun (i, x) => (i, e x)).toList = some cells ∧ rel ρ I w p.2 (.agg cells) := by
  have hm1 : (parts.toList.map fun p => (p.1, ev p.2)).map (·.1) = (parts.map fun (i, x) => (i, e x)).toList.map (·.1) := by simp
  have hm2 : RV ρ I w ((parts.toList.map fun p => (p.1, ev p.2)).map (·.2)) ((parts.map fun (i, x) => (i, e x)).toList.map (·.2)) := by
    simp only [Array.toList_map, List.map_map]
    exact RV_mapev2 r parts.toList
  unfold abuild at h
  split at h
  · rename_i ti ht
    obtain ⟨j, d, h1, h2, h3, h4, h5, h6, _⟩ := ty_ok ht
    split at h
    · rename_i z hz
      obtain ⟨zv, hzv, hck⟩ := h6 z hz
      have hzr := chkV_sound hck ρ I w
      split at h
      · rename_i n el hk
        rw [hk] at h5
        obtain rfl := TK.of_arr h5
        split at h
        · rename_i ie hie
          obtain ⟨je, de, e1, e2, e3, _⟩ := ty_ok hie
          split at h
          · rename_i c l hf
            simp only [Option.some.injEq] at h
            subst h
            simp only [Bool.and_eq_true] at hp
            obtain ⟨out, o1, o2⟩ := afill_sound (place' := fun i => some (i * je.size, je.size)) hm1 hm2 (fun p _ q hq => by simp only [aplaceE, e3] at hq; exact hq) (zero_cells hp.1 hzr) hf hp.2
            refine ⟨out, ?_, by simpa using mkAg_sound o2⟩
            simp only [Program.built, h1, h2, hzv, e1]
            exact o1
          · simp at h
        · simp at h
      · rename_i fs hk
        rw [hk] at h5
        obtain ⟨fields, rfl, rfl⟩ := TK.of_str h5
        split at h
        · rename_i c l hf
          simp only [Option.some.injEq] at h
          subst h
          simp only [Bool.and_eq_true] at hp
          obtain ⟨places, q1, q2⟩ := places_of (G := G) fields.toList hp.1.2
          obtain ⟨out, o1, o2⟩ := afill_sound (place' := (places.toArray[·]?)) hm1 hm2 (fun p _ q hq => by
            rw [List.getElem?_toArray]; exact q2 _ _ hq) (zero_cells hp.1.1 hzr) hf hp.2
          refine ⟨out, ?_, by simpa using mkAg_sound o2⟩
          simp only [Program.built, h1, h2, hzv, q1]
          exact o1
        · simp at h
      · simp at h
    · simp at h
  · simp at h

/-- What a slice of bytes holds, in memory. -/
theorem content8_sound {g : Nat → Option (List AV)} (c : Conc g ρ I H w) {a : AV} {v : Value} {p : Bool} {l : List UInt8} (h : content8 H a = some (p, l)) (hp : p = true) (r : rel ρ I w a v) :
    ∃ x cap, v = .slice x l.length cap ∧ (l = [] ∨ ∃ b off, x = some ⟨b, off, none⟩ ∧ ∀ (j : Nat) (y : Value), (v8 l)[j]? = some y → w.cell? ⟨b, off + j, none⟩ = some y) := by
  unfold content8 at h
  split at h
  · simp only [Option.some.injEq, Prod.mk.injEq] at h
    obtain ⟨rfl, rfl⟩ := h
    obtain ⟨x, cap, rfl, _, _, h4⟩ := rel_vec8.1 r
    refine ⟨x, cap, rfl, h4.imp (fun h => List.eq_nil_of_length_eq_zero h) ?_⟩
    rintro ⟨b, off, rfl, _, hl⟩
    exact ⟨b, off, rfl, fun j y hy => (hl j y hy).1⟩
  · rename_i id off k len
    have hr := rel_sl.1 r
    split at h
    · rename_i l0 f hid
      simp only [Option.some.injEq, Prod.mk.injEq] at h
      obtain ⟨rfl, rfl⟩ := h
      simp only [Bool.and_eq_true, beq_iff_eq] at hp
      obtain ⟨rfl, hp⟩ := hp
      have hp := leB_iff.1 hp
      have hl : ((l0.drop off).take len).length = len := by simp; omega
      rcases hr with ⟨b, cap, g1, rfl, g2, g3, g4⟩ | ⟨rfl, x, rfl⟩
      · refine ⟨_, cap, by rw [hl], .inr ⟨b, off, rfl, fun j y hy => ?_⟩⟩
        obtain ⟨vs, k1, k2⟩ := ent_cells c (l := [.b8 l0.length l0]) (by simp [entCells, hid]) g1
        obtain ⟨ys, zs, e0, ⟨rfl, e1⟩, e2⟩ := RL_head k1
        cases e2
        simp only [List.append_nil] at e0
        subst e0
        refine k2 _ _ ?_
        have hj : j < len := by have := (List.getElem?_eq_some_iff.1 hy).1; rw [length_v8, hl] at this; exact this
        rw [← hy]
        simp only [v8, List.getElem?_map, List.getElem?_take, List.getElem?_drop]
        rw [if_pos hj]
      · exact ⟨x, 0, by simp, .inl (by simp)⟩
    · rename_i cs f hid
      split at h
      · rename_i m l' hm
        simp only [Option.some.injEq, Prod.mk.injEq] at h
        obtain ⟨rfl, rfl⟩ := h
        simp only [Bool.and_eq_true, beq_iff_eq] at hp
        obtain ⟨rfl, rfl⟩ := hp
        rcases hr with ⟨b, cap, g1, rfl, g2, g3, g4⟩ | ⟨rfl, x, rfl⟩
        · obtain ⟨vs, k1, k2⟩ := ent_cells c (l := cs) (by simp [entCells, hid]) g1
          have hr := RL_take _ _ m (RL_drop _ _ off k1)
          rw [hm] at hr
          obtain ⟨ys, zs, e0, ⟨rfl, e1⟩, e2⟩ := RL_head hr
          cases e2
          simp only [List.append_nil] at e0
          refine ⟨_, cap, by rw [e1], .inr ⟨b, off, rfl, fun j y hy => k2 _ _ ?_⟩⟩
          have hj : j < m := by have := (List.getElem?_eq_some_iff.1 hy).1; rw [length_v8, e1] at this; exact this
          rw [← hy, ← e0, List.getElem?_take, if_pos hj, List.getElem?_drop]
        · exfalso
          cases hd : dropL cs off <;> simp [hd, takeL] at hm
      · simp at h
    · simp at h
  · simp at h

theorem run_loadBytes (b off : Nat) (l : List UInt8) (h : ∀ (j : Nat) (y : Value), (v8 l)[j]? = some y → w.cell? ⟨b, off + j, none⟩ = some y) :
    (loadCells ⟨b, off, none⟩ l.length).run P w = .ok (v8 l).toArray w := by
  have := run_loadCells_list (P := P) w ⟨b, off, none⟩ (v8 l) (fun j y hy => by rw [Addr.add_mid]; exact h j y hy)
  rwa [length_v8] at this

theorem push_bytes : ∀ (l : List UInt8) (acc : ByteArray), (l.map (fun x => (x.toNat : Int))).foldl (fun r n => r.push (UInt8.ofNat n.toNat)) acc = ⟨acc.data ++ l.toArray⟩
  | [], acc => by simp
  | x :: l, acc => by
    simp only [List.map_cons, List.foldl_cons, Int.toNat_natCast]
    rw [push_bytes l]
    simp [ByteArray.push]

theorem run_toString {v : Value} {l : List UInt8} {x : Option Addr} {cap : Nat} (hv : v = .slice x l.length cap)
    (h : l = [] ∨ ∃ b off, x = some ⟨b, off, none⟩ ∧ ∀ (j : Nat) (y : Value), (v8 l)[j]? = some y → w.cell? ⟨b, off + j, none⟩ = some y) :
    (Conv.bytesToString v).run P w = .ok (.string ⟨l.toArray⟩) w := by
  subst hv
  rcases h with rfl | ⟨b, off, rfl, h⟩
  · cases x with
    | none => simp [Conv.bytesToString, Sem.run_pure]; rfl
    | some a =>
      have := run_loadCells_list (P := P) w a [] (fun j y hy => by simp at hy)
      rw [run_bytesToString w _ _ _ [] (by simpa using this)]
      rfl
  · have h1 := run_loadBytes (P := P) b off l h
    rw [run_bytesToString w _ _ _ (l.map fun x => (x.toNat : Int)) (by rw [h1]; simp [v8])]
    rw [push_bytes]
    simp

theorem aval0_sound (c : Conc G.g ρ I H w) {ev : Operand → AV} {e : Operand → Value} (r : ∀ x, rel ρ I w (ev x) (e x)) {o : Oper} {p : Bool × AV} (h : aval0 G o.op ev H = some p) (hp : p.1 = true) :
    ∃ x, (execOp e o).run P w = .ok (.value x) w ∧ rel ρ I w p.2 x := by
  unfold aval0 at h
  split at h
  case h_1 x hop =>
    simp only [Option.some.injEq] at h
    subst h
    exact ⟨e x, by simp [execOp, hop], r x⟩
  case h_2 x hop =>
    simp only [Option.some.injEq] at h
    subst h
    exact ⟨e x, by simp [execOp, hop], r x⟩
  case h_3 cc a b hop =>
    split at h
    · rename_i b' hb
      simp only [Option.some.injEq] at h
      subst h
      have hc : e cc = .bool b' := by have := r cc; rw [hb, rel_bool] at this; exact this
      refine ⟨if b' then e a else e b, ?_, rel_pickA (r a) (r b)⟩
      simp only [execOp, hop, hc, asBool]
      cases b' <;> simp
    · simp at h
  case h_4 t i hop =>
    split at h
    · rename_i l hl
      simp only [Option.some.injEq] at h
      subst h
      have ht := r t
      rw [hl] at ht
      obtain ⟨cs, hcs, hr⟩ := rel_tup.1 ht
      have hp := ltB_iff.1 hp
      have hlen := RV_len hr
      have hi : i < cs.size := by simp at hlen; omega
      refine ⟨cs[i], ?_, ?_⟩
      · simp [execOp, hop, hcs, Instr.extract, hi]
      · have := RV_getD hr i
        simpa [List.getD, hi] using this
    · simp at h
  case h_5 t a hop =>
    split at h
    · rename_i ti ht
      obtain ⟨y, h1, h2⟩ := run_loadAt c ht (r a) h hp
      exact ⟨y, by simp [execOp, hop, h1], h2⟩
    · simp at h
  case h_6 s x f hop =>
    split at h
    · rename_i ti ht
      split at h
      · rename_i fs hk
        obtain ⟨j, d, h1, h2, _, _, h5, _⟩ := ty_ok ht
        rw [hk] at h5
        obtain ⟨fields, rfl, rfl⟩ := TK.of_str h5
        split at h
        · rename_i off ft hf
          rw [List.getElem?_map, Option.map_eq_some_iff] at hf
          obtain ⟨fd, hfd, hfd2⟩ := hf
          simp only [Prod.mk.injEq] at hfd2
          obtain ⟨rfl, rfl⟩ := hfd2
          have hfd' : fields[f]? = some fd := by simpa using hfd
          split at h
          · rename_i tf htf
            split at h
            · rename_i v hv
              simp only [Option.some.injEq] at h
              subst h
              obtain ⟨b, o', hx, hr⟩ := addrAdd_sound (r x) hv
              obtain ⟨jf, df, f1, f2, f3, _, _⟩ := ty_ok htf
              refine ⟨_, ?_, hr⟩
              have hnz' : ¬ jf.size = 0 := by rw [← f3]; simpa using hp
              simp [execOp, hop, Instr.fieldAt, run_underlying h2, hfd', hx, Instr.sureAddr, fieldPlace, run_sizeOf f1, hnz', addr_add]
            · simp at h
          · simp at h
        · simp at h
      · simp at h
    · simp at h
  case h_7 t x i hop =>
    split at h
    · rename_i k n hi
      split at h
      · rename_i ti ht
        obtain ⟨y, h1, h2⟩ := run_indexAt ht (r x) (r i) hi h hp
        exact ⟨y, by simp [execOp, hop, h1], h2⟩
      · simp at h
    · simp at h
  case h_8 t x i hop =>
    split at h
    · rename_i k n hi
      split at h
      · rename_i ti ht
        obtain ⟨y, h1, h2⟩ := run_index ht (r x) (r i) hi h hp
        exact ⟨y, by simp [execOp, hop, h1], h2⟩
      · simp at h
    · simp at h
  case h_9 t x f hop =>
    split at h
    · rename_i ti ht
      obtain ⟨y, h1, h2⟩ := run_field ht (r x) h hp
      exact ⟨y, by simp [execOp, hop, h1], h2⟩
    · simp at h
  case h_10 op t x y ty hop =>
    obtain ⟨hpl, z, h1, h2⟩ := run_bin (r x) (r y) h hp
    exact ⟨z, by simp [execOp, hop, hpl x y, h1], h2⟩
  case h_11 op t x hop =>
    split at h
    · rename_i v hv
      simp only [Option.some.injEq] at h
      subst h
      obtain ⟨y, h1, h2⟩ := run_unary (P := P) (r x) hv
      exact ⟨y, by simp [execOp, hop, h1], h2⟩
    · simp at h
  case h_12 s d x hop =>
    split at h
    · rename_i ts hs
      split at h
      · rename_i td hd
        obtain ⟨_, ds, _, s2, _, _, s5, _⟩ := ty_ok hs
        obtain ⟨_, dd, _, d2, _, _, d5, _⟩ := ty_ok hd
        unfold aConvert at h
        split at h
        · rename_i k k' hk1 hk2
          rw [hk2] at d5
          obtain rfl := TK.of_int d5
          split at h
          · rename_i v hv
            simp only [Option.some.injEq] at h
            subst h
            obtain ⟨y, h1, h2⟩ := run_cvt s2 d2 (r x) hv
            exact ⟨y, by simp [execOp, hop, h1], h2⟩
          · simp at h
        · rename_i hk1 hk2
          rw [hk1] at s5
          rw [hk2] at d5
          obtain rfl := TK.of_string s5
          obtain rfl := TK.of_string d5
          split at h
          · rename_i l hv
            simp only [Option.some.injEq] at h
            subst h
            have hx := r x
            rw [hv, rel_str] at hx
            exact ⟨e x, by simp [execOp, hop, convert, run_underlying s2, run_underlying d2, hx], by rw [hx]; exact rel_str.2 rfl⟩
          · simp at h
        · rename_i te0 hk1 hk2
          rw [hk1] at s5
          rw [hk2] at d5
          obtain rfl := TK.of_slice s5
          obtain rfl := TK.of_string d5
          split at h
          · rename_i te hte
            split at h
            · rename_i hk
              obtain ⟨_, de, _, e2, _, _, e5, _⟩ := ty_ok hte
              rw [hk] at e5
              obtain rfl := TK.of_int e5
              split at h
              · rename_i q l hv
                simp only [Option.some.injEq] at h
                subst h
                obtain ⟨x', cap, h1, h2⟩ := content8_sound c hv hp (r x)
                refine ⟨_, ?_, rel_str.2 rfl⟩
                simp only [execOp, hop]
                rw [h1]
                simp only [Sem.run_bind, run_convert_bytes_string w s d _ _ _ _ s2 e2 d2, run_toString rfl h2, Result.andThen_ok]
                rfl
              · simp at h
            · simp at h
          · simp at h
        · simp at h
      · simp at h
    · simp at h
  case h_13 fn first caps hop =>
    simp only [Option.some.injEq] at h
    subst h
    refine ⟨.func fn (first.map e) (caps.map e), by simp [execOp, hop, Instr.makeFunc], rel_fn.2 ⟨_, _, rfl, ?_, ?_⟩⟩
    · simp only [Array.toList_map]; exact RV_mapev r _
    · simp only [Array.toList_map]; exact RV_mapev r _
  case h_14 x hop =>
    have hx := r x
    split at h
    · rename_i id off hv
      simp only [Option.some.injEq] at h
      subst h
      rw [hv] at hx
      obtain ⟨b, hb, hex⟩ := rel_ptr.1 hx
      exact ⟨e x, by simp [execOp, hop, hex], hx⟩
    · rename_i cs i hv
      simp only [Option.some.injEq] at h
      subst h
      rw [hv] at hx
      obtain ⟨vs, _, b, off, hex, _⟩ := rel_vp.1 hx
      exact ⟨e x, by simp [execOp, hop, hex], hx⟩
    · rename_i f a b hv
      simp only [Option.some.injEq] at h
      subst h
      rw [hv] at hx
      obtain ⟨x', y', hex, _⟩ := rel_fn.1 hx
      exact ⟨e x, by simp [execOp, hop, hex], hx⟩
    · simp at h
  case h_15 cl hop =>
    split at h
    · rename_i fo hfo
      split at h
      · rename_i f hf
        have hr := r fo
        rw [hf] at hr
        obtain ⟨x, y, hx, h1, h2⟩ := rel_fn.1 hr
        rw [RV_nil] at h1 h2
        have hx1 : x = #[] := by simpa using h1
        have hy1 : y = #[] := by simpa using h2
        subst hx1 hy1
        obtain ⟨z, k1, k2⟩ := run_aext (RV_mapev r cl.args.toList) h hp
        refine ⟨z, ?_, k2⟩
        rw [run_call_value hop hfo hx]
        rw [mapArr] at k1
        simpa using k1
      · simp at h
    · rename_i hfo
      split at h
      · rename_i x t hx ht
        split at h
        · rename_i ti hti
          split at h
          · rename_i v hv
            simp only [Option.some.injEq] at h
            subst h
            have hl := RV_mapev r cl.args.toList
            rw [hx] at hl
            obtain ⟨vx, _, hvx, hr, hnil⟩ := RV_cons.1 hl
            rw [RV_nil] at hnil
            subst hnil
            obtain ⟨y, k1, k2⟩ := run_alen (P := P) (w := w) hti hr hv ht o.type
            have hargs : cl.args.map e = #[vx] := by
              apply Array.toList_inj.1
              simpa using hvx
            exact ⟨y, by rw [run_call_builtin hop hfo, hargs]; simp [builtin, k1], k2⟩
          · simp at h
        · simp at h
      · simp at h
    · rename_i hfo
      split at h
      · rename_i v hv
        simp only [Option.some.injEq] at h
        subst h
        obtain ⟨y, k1, k2⟩ := run_aminmax (P := P) (RV_mapev r cl.args.toList) hv cl.argTypes o.type
        refine ⟨y, ?_, k2⟩
        rw [run_call_builtin hop hfo]
        simp only [Bool.false_eq_true, if_false, mapArr] at k1
        simp [builtin, k1]
      · simp at h
    · rename_i hfo
      split at h
      · rename_i v hv
        simp only [Option.some.injEq] at h
        subst h
        obtain ⟨y, k1, k2⟩ := run_aminmax (P := P) (RV_mapev r cl.args.toList) hv cl.argTypes o.type
        refine ⟨y, ?_, k2⟩
        rw [run_call_builtin hop hfo]
        simp only [if_true, mapArr] at k1
        simp [builtin, k1]
      · simp at h
    · simp at h
  case h_16 t parts hop =>
    obtain ⟨cells, h1, h2⟩ := abuild_sound (r := fun x => r x) h hp
    exact ⟨_, by simp only [execOp, hop, Sem.run_bind, run_build w t _ cells h1, Result.andThen_ok]; rfl, h2⟩
  case h_17 => simp at h
end
end
end Go.V
