/- Patterns of handshakes: how they are told as values, and read. -/
import Derived.Test.YtcnnogimaikicaaDoorUG
import Derived.Test.YtcnnogimaikicaaDoorTm

set_option linter.unusedSimpArgs false
set_option linter.unusedVariables false
namespace Go.V
open Go
theorem leV_vec {full : Bool} {k : Nat} {rows : List AV} (ho : ∀ i, i < rows.length → okL (rowF rows i) = true) : leV (.vec full k rows) (.vecr full k rows.length (rowF rows)) := by
  intro ρ I w v h
  obtain ⟨hsz, vs, hr, hv⟩ := rel_vec.1 h
  obtain ⟨h1, h2⟩ := RL_rowF hsz hr
  obtain ⟨h3, h4⟩ := rows_of_RL h2 h1
  exact rel_vecr.2 ⟨ho, vs, h3, h4, hv⟩
theorem leV.trans {a b c : AV} (h : leV a b) (g : leV b c) : leV a c := fun _ _ _ _ r => g _ _ _ _ (h _ _ _ _ r)
end Go.V
namespace Go.Pat
open Go Go.V
theorem map_range {α β : Type} (f : α → β) (d : α) (l : List α) (g : Nat → β) (h : ∀ i, i < l.length → g i = f (l.getD i d)) : (List.range l.length).map g = l.map f := by
  apply List.ext_getElem
  · simp
  · intro i h1 h2
    have hi : i < l.length := by simpa using h2
    rw [List.getElem_map, List.getElem_range, List.getElem_map, h i hi, List.getD_eq_getElem?_getD, List.getElem?_eq_getElem hi, Option.getD_some]
def intF (l : List Int) (i : Nat) : List AV := [.int .i64 (l.getD i 0)]
def vI (l : List Int) : AV := .vecr false 1 l.length (intF l)
def trF (ts : List (List Int)) (i : Nat) : List AV := [.vecr false 1 (ts.getD i []).length (intF (ts.getD i []))]
def vT (ts : List (List Int)) : AV := .vecr false 1 ts.length (trF ts)
def iv : AV → Int
  | .int _ k => k
  | _ => 0
def iok : AV → Bool
  | .int .i64 _ => true
  | _ => false
theorem iok_eq {a : AV} (h : iok a = true) : a = .int .i64 (iv a) := by
  cases a with
  | int k n => cases k <;> first | rfl | simp [iok] at h
  | _ => simp [iok] at h
def iv1 : List AV → Int
  | a :: _ => iv a
  | [] => 0
def iok1 : List AV → Bool
  | [a] => iok a
  | _ => false
theorem iok1_eq {l : List AV} (h : iok1 l = true) : l = [.int .i64 (iv1 l)] := by
  match l, h with
  | [a], h => rw [iok_eq (a := a) h]; rfl
def rdIs : AV → List Int
  | .vecr _ _ n f => (List.range n).map fun i => iv1 (f i)
  | .vec _ _ l => l.map fun a => iv1 a.cells
  | _ => []
def okIs : AV → Bool
  | .vecr _ k n f => k == 1 && (List.range n).all fun i => iok1 (f i)
  | .vec _ k l => k == 1 && l.all fun a => iok1 a.cells
  | .vec8 b l => b && l.isEmpty
  | _ => false
theorem okL_int (l : List Int) (i : Nat) : okL (intF l i) = true := rfl
theorem okIs_le {x : AV} (h : okIs x = true) : leV x (vI (rdIs x)) := by
  cases x with
  | vecr b k n f =>
    simp only [okIs, Bool.and_eq_true, beq_iff_eq, List.all_eq_true] at h
    obtain ⟨rfl, h⟩ := h
    have hl : (rdIs (.vecr b 1 n f)).length = n := by rw [rdIs, List.length_map, List.length_range]
    unfold vI
    rw [hl]
    refine leV_vecr (by simp) fun i hi => leR.of_eq (okL_int _ _) ?_
    rw [iok1_eq (h i (List.mem_range.2 hi))]
    unfold intF
    rw [rdIs, List.getD_eq_getElem?_getD, List.getElem?_map, List.getElem?_range hi]; rfl
  | vec b k l =>
    simp only [okIs, Bool.and_eq_true, beq_iff_eq, List.all_eq_true] at h
    obtain ⟨rfl, h⟩ := h
    have hr : ∀ i, i < l.length → rowF l i = intF (l.map fun a => iv1 a.cells) i := by
      intro i hi
      have := iok1_eq (h l[i] (List.getElem_mem hi))
      unfold rowF intF
      rw [List.getD_eq_getElem?_getD, List.getD_eq_getElem?_getD, List.getElem?_map, List.getElem?_eq_getElem hi]
      simp only [Option.getD_some, Option.map_some]
      exact this
    have e : (rdIs (.vec b 1 l)) = l.map fun a => iv1 a.cells := rfl
    rw [e]
    unfold vI
    rw [List.length_map]
    refine (leV_vec fun i hi => by rw [hr i hi]; rfl).trans (leV_vecr (by simp) fun i hi => leR.of_eq (okL_int _ _) (hr i hi))
  | vec8 b l =>
    simp only [okIs, Bool.and_eq_true] at h
    exact leV_nil (by cases b <;> simp_all [nilS])
  | _ => simp [okIs] at h
theorem rdIs_vI (l : List Int) : rdIs (vI l) = l := by
  unfold vI
  have := map_range (fun x => x) 0 l (fun i => iv1 (intF l i)) fun i _ => rfl
  rw [rdIs, this, List.map_id']
theorem okIs_vI (l : List Int) : okIs (vI l) = true := by
  unfold vI
  simp only [okIs, beq_self_eq_true, Bool.true_and, List.all_eq_true]
  exact fun i _ => rfl
def rd1 : List AV → List Int
  | a :: _ => rdIs a
  | [] => []
def ok1 : List AV → Bool
  | [a] => okIs a
  | _ => false
def rdTs : AV → List (List Int)
  | .vecr _ _ n f => (List.range n).map fun i => rd1 (f i)
  | .vec _ _ l => l.map rdIs
  | _ => []
def okTs : AV → Bool
  | .vecr _ k n f => k == 1 && (List.range n).all fun i => ok1 (f i)
  | .vec _ k l => k == 1 && l.all okIs
  | .vec8 b l => b && l.isEmpty
  | _ => false
theorem okL_tr (ts : List (List Int)) (i : Nat) : okL (trF ts i) = true := rfl
theorem okIs_ag {x : AV} (h : okIs x = true) : isAg x = false ∧ x ≠ .any ∧ szA x = 1 ∧ x.cells = [x] := by
  cases x <;> first | (simp [okIs] at h; done) | exact ⟨rfl, nofun, rfl, rfl⟩
theorem okIs_pure {x : AV} (h : okIs x = true) : pureA x = true := by
  cases x with
  | vec b k l =>
    simp only [okIs, Bool.and_eq_true, List.all_eq_true] at h
    have key : ∀ m : List AV, (∀ a ∈ m, iok1 a.cells = true) → pureL m = true := by
      intro m
      induction m with
      | nil => intro _; rfl
      | cons a m ih =>
        intro h
        have h1 := iok1_eq (h a (by simp))
        have h2 : pureA a = true := by
          cases a with
          | agg l => simp only [AV.cells] at h1; rw [h1]; rfl
          | _ => simp only [AV.cells, List.cons.injEq, and_true] at h1; rw [h1]; rfl
        rw [pureL, ih (fun b hb => h b (by simp [hb])), h2]; rfl
    exact key l h.2
  | _ => first | rfl | simp [okIs] at h
theorem leR_one {x : AV} {l : List Int} (h : okIs x = true) (hl : rdIs x = l) : leR [x] [.vecr false 1 l.length (intF l)] := by
  subst hl
  obtain ⟨h1, h2, h3, _⟩ := okIs_ag h
  exact Go.Tm.leR_leV h1 h2 h3 rfl (by simp) rfl (okIs_le h) leR_end
theorem okTs_le {x : AV} (h : okTs x = true) : leV x (vT (rdTs x)) := by
  cases x with
  | vecr b k n f =>
    simp only [okTs, Bool.and_eq_true, beq_iff_eq, List.all_eq_true] at h
    obtain ⟨rfl, h⟩ := h
    have hl : (rdTs (.vecr b 1 n f)).length = n := by rw [rdTs, List.length_map, List.length_range]
    unfold vT
    rw [hl]
    refine leV_vecr (by simp) fun i hi => ?_
    have h1 := h i (List.mem_range.2 hi)
    have e : (rdTs (.vecr b 1 n f)).getD i [] = rd1 (f i) := by
      rw [rdTs, List.getD_eq_getElem?_getD, List.getElem?_map, List.getElem?_range hi]; rfl
    unfold trF
    rw [e]
    match hf : f i, h1 with
    | [a], h1 => exact leR_one h1 rfl
  | vec b k l =>
    simp only [okTs, Bool.and_eq_true, beq_iff_eq, List.all_eq_true] at h
    obtain ⟨rfl, h⟩ := h
    have hr : ∀ i, i < l.length → leR (rowF l i) (trF (l.map rdIs) i) := by
      intro i hi
      have h1 := h l[i] (List.getElem_mem hi)
      have e1 : rowF l i = [l[i]] := by
        unfold rowF
        rw [List.getD_eq_getElem?_getD, List.getElem?_eq_getElem hi]
        exact (okIs_ag h1).2.2.2
      have e2 : (l.map rdIs).getD i [] = rdIs l[i] := by
        rw [List.getD_eq_getElem?_getD, List.getElem?_map, List.getElem?_eq_getElem hi]; rfl
      unfold trF
      rw [e1, e2]
      exact leR_one h1 rfl
    have e : (rdTs (.vec b 1 l)) = l.map rdIs := rfl
    rw [e]
    unfold vT
    rw [List.length_map]
    intro ρ I w v r
    obtain ⟨hsz, vs, hrl, hv⟩ := rel_vec.1 r
    obtain ⟨h1, h2⟩ := RL_rowF hsz hrl
    obtain ⟨h3, h4⟩ := rows_of_RL h2 h1
    exact rel_vecr.2 ⟨fun i _ => rfl, vs, h3, fun i hi => (hr i hi).rl _ _ _ _ (h4 i hi), hv.imp fun a => fun ⟨c, k1, k2, k3, k4⟩ => ⟨c, k1, k2, fun h => (by cases h), k4⟩⟩
  | vec8 b l =>
    simp only [okTs, Bool.and_eq_true] at h
    exact leV_nil (by cases b <;> simp_all [nilS])
  | _ => simp [okTs] at h
theorem rdTs_vT (l : List (List Int)) : rdTs (vT l) = l := by
  unfold vT
  have := map_range (fun x => x) [] l (fun i => rd1 (trF l i)) fun i _ => rdIs_vI _
  rw [rdTs, this, List.map_id']
theorem okTs_vT (l : List (List Int)) : okTs (vT l) = true := by
  unfold vT
  simp only [okTs, beq_self_eq_true, Bool.true_and, List.all_eq_true]
  exact fun i _ => okIs_vI _

theorem RL_imp {ρ : Rho} {I : Imm} {w : World} {α : Type} (f g : α → AV) : ∀ (l : List α) (_ : ∀ a ∈ l, ∀ xs, R ρ I w (f a) xs → R ρ I w (g a) xs) (vs : List Value), RL ρ I w (l.map f) vs → RL ρ I w (l.map g) vs
  | [], _, _, h => h
  | a :: l, hi, vs, h => by
    obtain ⟨ys, zs, rfl, h1, h2⟩ := RL_cons.1 h
    exact RL_cons.2 ⟨ys, zs, rfl, hi a (by simp) _ h1, RL_imp f g l (fun b hb => hi b (by simp [hb])) zs h2⟩
/-- Rows told by number, one by one. -/
theorem leV_unrow {k n : Nat} {f : Nat → List AV} {g : Nat → AV} (hg : ∀ i, i < n → szA (g i) = k) (h : ∀ (ρ : Rho) (I : Imm) (w : World) (i : Nat) (xs : List Value), i < n → RL ρ I w (f i) xs → R ρ I w (g i) xs) : leV (.vecr false k n f) (.vec false k ((List.range n).map g)) := by
  intro ρ I w v r
  obtain ⟨ho, vs, hl, hr, hv⟩ := rel_vecr.1 r
  obtain ⟨r1, _⟩ := RL_of_rows hl hr
  have hlen : ((List.range n).map g).length = n := by rw [List.length_map, List.length_range]
  refine rel_vec.2 ⟨fun a ha => ?_, vs, ?_, by rw [hlen]; exact hv⟩
  · obtain ⟨i, hi, rfl⟩ := List.mem_map.1 ha
    exact hg i (List.mem_range.1 hi)
  · exact RL_imp (fun i => AV.agg (f i)) g (List.range n) (fun i hi xs hx => h ρ I w i xs (List.mem_range.1 hi) hx) vs r1
theorem R_of_RL1 {ρ : Rho} {I : Imm} {w : World} {a : AV} {xs : List Value} (h : RL ρ I w [a] xs) : R ρ I w a xs := by
  obtain ⟨ys, zs, rfl, h1, h2⟩ := RL_cons.1 h
  cases h2
  rw [List.append_nil]; exact h1
/-- The same, all told. -/
def vL (l : List Int) : AV := .vec false 1 (l.map fun x => .int .i64 x)
def vLL (ts : List (List Int)) : AV := .vec false 1 (ts.map vL)
theorem leV_vL (l : List Int) : leV (.vecr false 1 l.length (intF l)) (vL l) := by
  have := leV_unrow (k := 1) (n := l.length) (f := intF l) (g := fun i => .int .i64 (l.getD i 0)) (fun _ _ => rfl) fun ρ I w i xs _ hx => R_of_RL1 hx
  rwa [map_range (fun x => AV.int .i64 x) 0 l (fun i => .int .i64 (l.getD i 0)) fun _ _ => rfl] at this
theorem leV_vLL (ts : List (List Int)) : leV (.vecr false 1 ts.length (trF ts)) (vLL ts) := by
  have := leV_unrow (k := 1) (n := ts.length) (f := trF ts) (g := fun i => vL (ts.getD i [])) (fun _ _ => rfl) fun ρ I w i xs _ hx => by
    have h1 := R_of_RL1 hx
    have hx : ∃ v, xs = [v] := by obtain ⟨v, h0, _⟩ := h1; exact ⟨v, h0⟩
    obtain ⟨v, rfl⟩ := hx
    exact leV_vL (ts.getD i []) ρ I w v h1
  rwa [map_range vL [] ts (fun i => vL (ts.getD i [])) fun _ _ => rfl] at this
theorem pure_vL (l : List Int) : pureA (vL l) = true := by
  show pureL (l.map _) = true
  induction l with
  | nil => rfl
  | cons a l ih => exact ih
theorem pure_vLL (ts : List (List Int)) : pureA (vLL ts) = true := by
  show pureL (ts.map _) = true
  induction ts with
  | nil => rfl
  | cons a l ih => rw [List.map_cons, pureL, pure_vL, ih]; rfl
/-- A pattern. -/
structure Pat where
  base : List UInt8
  late : Bool
  psks : List Int
  pre0 : List Int
  pre1 : List Int
  turns : List (List Int)
  deriving DecidableEq, Inhabited
def patC (p : Pat) : List AV := [.str p.base, .bool p.late, .vecr false 1 p.psks.length (intF p.psks), .vecr false 1 p.pre0.length (intF p.pre0), .vecr false 1 p.pre1.length (intF p.pre1), .vecr false 1 p.turns.length (trF p.turns)]
def patV (p : Pat) : AV := .agg (patC p)
def patL (p : Pat) : AV := .agg [.str p.base, .bool p.late, vL p.psks, vL p.pre0, vL p.pre1, vLL p.turns]
theorem pure_patL (p : Pat) : pureA (patL p) = true := by
  show pureL _ = true
  simp only [pureL, pureA, pure_vL, pure_vLL, Bool.and_self]
theorem leR_1 {x y : AV} {as bs : List AV} (h1 : isAg x = false) (h2 : x ≠ .any) (h3 : szA x = 1) (h4 : isAg y = false) (h5 : y ≠ .any) (h6 : pureA y = true) (h7 : oneA y = true) (h : leV x y) (hr : leR as bs) : leR (x :: as) (y :: bs) :=
  Go.Tm.leR_leV h1 h2 h3 h4 h5 (by simp [okL, pureL, oneL, h6, h7]) h hr
theorem leV_patL (p : Pat) : leV (patV p) (patL p) :=
  leV_agg (leR_same rfl (leR_same rfl (leR_1 rfl (by simp) rfl rfl (by simp [vL]) (pure_vL _) rfl (leV_vL _) (leR_1 rfl (by simp) rfl rfl (by simp [vL]) (pure_vL _) rfl (leV_vL _) (leR_1 rfl (by simp) rfl rfl (by simp [vL]) (pure_vL _) rfl (leV_vL _) (leR_1 rfl (by simp) rfl rfl (by simp [vLL]) (pure_vLL _) rfl (leV_vLL _) leR_end))))))
def rdPat : List AV → Pat
  | [.str b, .bool l, x, y, z, t] => ⟨b, l, rdIs x, rdIs y, rdIs z, rdTs t⟩
  | _ => default
def okPat : List AV → Bool
  | [.str _, .bool _, x, y, z, t] => okIs x && (okIs y && (okIs z && okTs t))
  | _ => false
theorem okTs_ag {x : AV} (h : okTs x = true) : isAg x = false ∧ x ≠ .any ∧ szA x = 1 := by
  cases x <;> first | (simp [okTs] at h; done) | exact ⟨rfl, nofun, rfl⟩
theorem okPat_leR : ∀ {l : List AV}, okPat l = true → leR l (patC (rdPat l))
  | [.str b, .bool lt, x, y, z, t], h => by
    simp only [okPat, Bool.and_eq_true] at h
    obtain ⟨h1, h2, h3, h4⟩ := h
    obtain ⟨a1, a2, a3, _⟩ := okIs_ag h1
    obtain ⟨b1, b2, b3, _⟩ := okIs_ag h2
    obtain ⟨c1, c2, c3, _⟩ := okIs_ag h3
    obtain ⟨d1, d2, d3⟩ := okTs_ag h4
    exact leR_same rfl (leR_same rfl (Go.Tm.leR_leV a1 a2 a3 rfl (by simp) rfl (okIs_le h1) (Go.Tm.leR_leV b1 b2 b3 rfl (by simp) rfl (okIs_le h2) (Go.Tm.leR_leV c1 c2 c3 rfl (by simp) rfl (okIs_le h3) (Go.Tm.leR_leV d1 d2 d3 rfl (by simp) rfl (okTs_le h4) leR_end)))))
theorem okPat_C (p : Pat) : okPat (patC p) = true := by
  unfold patC okPat
  have h1 := okIs_vI p.psks
  have h2 := okIs_vI p.pre0
  have h3 := okIs_vI p.pre1
  have h4 := okTs_vT p.turns
  unfold vI at h1 h2 h3
  unfold vT at h4
  dsimp only
  rw [h1, h2, h3, h4]; rfl
theorem rdPat_C (p : Pat) : rdPat (patC p) = p := by
  have h1 := rdIs_vI p.psks
  have h2 := rdIs_vI p.pre0
  have h3 := rdIs_vI p.pre1
  have h4 := rdTs_vT p.turns
  unfold vI at h1 h2 h3
  unfold vT at h4
  unfold patC rdPat
  dsimp only
  rw [h1, h2, h3, h4]
/-- A pattern as an argument. -/
theorem arg_pat {l : List AV} (h : okPat (flL l) = true) : leV (.agg l) (patV (rdPat (flL l))) :=
  (leV_flat l).trans (leV_agg (okPat_leR h))
end Go.Pat
