/- Terms as rows: what they say, and how rows are read as terms. -/
import Derived.Test.YtcnnogimaikicaaDoorUG

set_option linter.unusedSimpArgs false
set_option linter.unusedVariables false
namespace Go.Tm
open Go Go.V
inductive Tm where
  | mk (kind id other : Int) (args : List Tm)
  deriving Inhabited
namespace Tm
def kind : Tm → Int | .mk k _ _ _ => k
def id : Tm → Int | .mk _ i _ _ => i
def other : Tm → Int | .mk _ _ o _ => o
def args : Tm → List Tm | .mk _ _ _ a => a
end Tm
def tm0 : Tm := .mk 0 0 0 []
mutual
def tmC : Tm → List AV
  | .mk k i o as => [.int .i64 k, .int .i64 i, .int .i64 o, .vecr false 4 as.length (tmL as)]
def tmL : List Tm → Nat → List AV
  | [], _ => []
  | a :: _, 0 => tmC a
  | _ :: as, n + 1 => tmL as n
end
noncomputable def tmG : List Tm → Nat → List AV := (sealed tmL).val
theorem tmG_eq : tmG = tmL := by rw [tmG, (sealed tmL).property]
/-- The cells of a term, one level of them told. -/
noncomputable def tmK (t : Tm) : List AV := [.int .i64 t.kind, .int .i64 t.id, .int .i64 t.other, .vecr false 4 t.args.length (tmG t.args)]
noncomputable def tmF (as : List Tm) (i : Nat) : List AV := [.int .i64 (as.getD i tm0).kind, .int .i64 (as.getD i tm0).id, .int .i64 (as.getD i tm0).other, .vecr false 4 (as.getD i tm0).args.length (tmG (as.getD i tm0).args)]
theorem tmK_eq (t : Tm) : tmK t = tmC t := by cases t; rw [tmK, tmG_eq, tmC]; rfl
theorem tmF_eq (as : List Tm) (i : Nat) : tmF as i = tmK (as.getD i tm0) := rfl
theorem tmL_get : ∀ {as : List Tm} {i : Nat}, i < as.length → tmL as i = tmK (as.getD i tm0)
  | a :: as, 0, _ => by rw [tmL, ← tmK_eq]; rfl
  | a :: as, n + 1, h => by
    rw [tmL, tmL_get (as := as) (i := n) (by simpa using h)]; rfl
theorem tmG_get {as : List Tm} {i : Nat} (h : i < as.length) : tmG as i = tmF as i := by rw [tmG_eq, tmL_get h]; rfl

mutual
/-- Terms that a slice is read as. -/
def rdA : AV → List Tm
  | .vecr _ _ n f => (List.range n).map fun i => rdL (f i)
  | .vec _ _ l => rdR l
  | _ => []
def rdL : List AV → Tm
  | [] => tm0
  | a :: l => rd1 (rdI a) l
def rd1 (k : Int) : List AV → Tm
  | [] => tm0
  | a :: l => rd2 k (rdI a) l
def rd2 (k i : Int) : List AV → Tm
  | [] => tm0
  | a :: l => rd3 k i (rdI a) l
def rd3 (k i o : Int) : List AV → Tm
  | [] => tm0
  | a :: _ => .mk k i o (rdA a)
def rdI : AV → Int
  | .int _ k => k
  | _ => 0
def rdR : List AV → List Tm
  | [] => []
  | a :: l => rdG a :: rdR l
def rdG : AV → Tm
  | .agg cs => rdL cs
  | _ => tm0
end
end Go.Tm
namespace Go.Tm
open Go Go.V
mutual
/-- Is it a slice that can be read as terms? -/
def okT : AV → Bool
  | .vecr _ k n f => k == 4 && (leB n 1000 && (List.range n).all fun i => okC (f i))
  | .vec _ k l => k == 4 && (leB l.length 1000 && okR l)
  | .vec8 b l => b && l.isEmpty
  | _ => false
def okC : List AV → Bool
  | [] => false
  | a :: l => okI a && okC1 l
def okC1 : List AV → Bool
  | [] => false
  | a :: l => okI a && okC2 l
def okC2 : List AV → Bool
  | [] => false
  | a :: l => okI a && okC3 l
def okC3 : List AV → Bool
  | [] => false
  | a :: l => okT a && okE l
def okE : List AV → Bool
  | [] => true
  | _ :: _ => false
def okI : AV → Bool
  | .int .i64 _ => true
  | _ => false
def okR : List AV → Bool
  | [] => true
  | a :: l => okG1 a && okR l
def okG1 : AV → Bool
  | .agg cs => okC cs
  | _ => false
end
theorem okI_eq {a : AV} (h : okI a = true) : a = .int .i64 (rdI a) := by
  cases a with
  | int k n => cases k <;> first | rfl | simp [okI] at h
  | _ => simp [okI] at h
theorem okL_tmK (t : Tm) : okL (tmK t) = true := rfl
theorem leR_leV {a b : AV} {as bs : List AV} (ha : isAg a = false) (ha2 : a ≠ .any) (ha3 : szA a = 1) (hb : isAg b = false) (hb2 : b ≠ .any) (hok : okL [b] = true) (h : leV a b) (hr : leR as bs) : leR (a :: as) (b :: bs) := by
  refine leR.mk ?_ fun ρ I w vs r => ?_
  · have h1 := okL_pure hr.ok; have h2 := okL_one hr.ok
    have h3 := okL_pure hok; have h4 := okL_one hok
    simp only [pureL, oneL, Bool.and_true] at h3 h4
    simp only [okL, pureL, oneL, h1, h2, h3, h4, Bool.and_self]
  · obtain ⟨ys, zs, rfl, q, r2⟩ := RL_cons.1 r
    have hl := R_len a ys q
    rw [ha3] at hl
    obtain ⟨v, rfl⟩ : ∃ v, ys = [v] := by
      cases ys with
      | nil => simp at hl
      | cons v t => cases t with
        | nil => exact ⟨v, rfl⟩
        | cons _ _ => simp at hl
    have h1 : rel ρ I w a v := (valOf_ag ha2).2 (by rw [ha]; exact q)
    have h2 := (valOf_ag hb2).1 (h ρ I w v h1)
    rw [hb] at h2
    exact RL_cons.2 ⟨[v], zs, rfl, h2, hr.rl _ _ _ _ r2⟩
theorem okT_ag {x : AV} (h : okT x = true) : isAg x = false ∧ x ≠ .any ∧ szA x = 1 := by
  cases x <;> first | (simp [okT] at h; done) | exact ⟨rfl, nofun, rfl⟩
mutual
theorem okT_pure : ∀ (x : AV), okT x = true → pureA x = true
  | .vecr b k n f, h => rfl
  | .vec b k l, h => by
    simp only [okT, Bool.and_eq_true] at h
    exact okR_pure l h.2.2
  | .vec8 b l, h => rfl
  | .any, h => by simp [okT] at h
  | .raw _, h => by simp [okT] at h
  | .int _ _, h => by simp [okT] at h
  | .u8 _, h => by simp [okT] at h
  | .u32 _, h => by simp [okT] at h
  | .u64 _, h => by simp [okT] at h
  | .bool _, h => by simp [okT] at h
  | .str _, h => by simp [okT] at h
  | .b8 _ _, h => by simp [okT] at h
  | .w32 _ _, h => by simp [okT] at h
  | .w64 _ _, h => by simp [okT] at h
  | .n64 _ _, h => by simp [okT] at h
  | .ptr _ _, h => by simp [okT] at h
  | .pix _ _ _ _, h => by simp [okT] at h
  | .sl _ _ _ _, h => by simp [okT] at h
  | .slv _ _ _ _, h => by simp [okT] at h
  | .vp _ _, h => by simp [okT] at h
  | .vpx _ _ _ _, h => by simp [okT] at h
  | .fn _ _ _, h => by simp [okT] at h
  | .agg _, h => by simp [okT] at h
  | .tup _, h => by simp [okT] at h
theorem okC_ok : ∀ (cs : List AV), okC cs = true → okL cs = true
  | [a, b, c, x], h => by
    simp only [okC, okC1, okC2, okC3, Bool.and_eq_true] at h
    obtain ⟨h1, h2, h3, h4, h5⟩ := h
    rw [okI_eq h1, okI_eq h2, okI_eq h3]
    have hp := okT_pure x h4
    have ho : oneA x = true := by cases x <;> first | rfl | simp [okT] at h4
    simp [okL, pureL, pureA, oneL, oneA, hp, ho]
  | [], h => by simp [okC] at h
  | [_], h => by simp [okC, okC1] at h
  | [_, _], h => by simp [okC, okC1, okC2] at h
  | [_, _, _], h => by simp [okC, okC1, okC2, okC3] at h
  | _ :: _ :: _ :: _ :: _ :: _, h => by simp [okC, okC1, okC2, okC3, okE] at h
theorem okR_pure : ∀ (l : List AV), okR l = true → pureL l = true
  | [], _ => rfl
  | a :: l, h => by
    simp only [okR, Bool.and_eq_true] at h
    have h2 := okR_pure l h.2
    have h1 := okG_pure a h.1
    simp [pureL, h1, h2]
theorem okG_pure : ∀ (a : AV), okG1 a = true → pureA a = true
  | .agg cs, h => by
    have := okC_ok cs (by simpa [okG1] using h)
    simpa [pureA] using okL_pure this
  | .vecr _ _ _ _, h => by simp [okG1] at h
  | .vec _ _ _, h => by simp [okG1] at h
  | .vec8 _ _, h => by simp [okG1] at h
  | .any, h => by simp [okG1] at h
  | .raw _, h => by simp [okG1] at h
  | .int _ _, h => by simp [okG1] at h
  | .u8 _, h => by simp [okG1] at h
  | .u32 _, h => by simp [okG1] at h
  | .u64 _, h => by simp [okG1] at h
  | .bool _, h => by simp [okG1] at h
  | .str _, h => by simp [okG1] at h
  | .b8 _ _, h => by simp [okG1] at h
  | .w32 _ _, h => by simp [okG1] at h
  | .w64 _ _, h => by simp [okG1] at h
  | .n64 _ _, h => by simp [okG1] at h
  | .ptr _ _, h => by simp [okG1] at h
  | .pix _ _ _ _, h => by simp [okG1] at h
  | .sl _ _ _ _, h => by simp [okG1] at h
  | .slv _ _ _ _, h => by simp [okG1] at h
  | .vp _ _, h => by simp [okG1] at h
  | .vpx _ _ _ _, h => by simp [okG1] at h
  | .fn _ _ _, h => by simp [okG1] at h
  | .tup _, h => by simp [okG1] at h
end
theorem okG_agg {a : AV} (h : okG1 a = true) : ∃ cs, a = .agg cs ∧ okC cs = true := by
  cases a <;> first | exact ⟨_, rfl, by simpa [okG1] using h⟩ | simp [okG1] at h
mutual
theorem okT_le : ∀ (x : AV), okT x = true → leV x (.vecr false 4 (rdA x).length (tmF (rdA x)))
  | .vecr b k n f, h => by
    simp only [okT, Bool.and_eq_true, beq_iff_eq, List.all_eq_true] at h
    obtain ⟨rfl, _, h⟩ := h
    have hl : (rdA (.vecr b 4 n f)).length = n := by rw [rdA, List.length_map, List.length_range]
    rw [hl]
    refine leV_vecr (by simp) fun i hi => ?_
    have hg : (rdA (.vecr b 4 n f)).getD i tm0 = rdL (f i) := by
      rw [rdA, List.getD_eq_getElem?_getD, List.getElem?_map, List.getElem?_range hi]; rfl
    rw [tmF_eq, hg]
    exact okC_le (f i) (h i (List.mem_range.2 hi))
  | .vec b k l, h => by
    simp only [okT, Bool.and_eq_true, beq_iff_eq] at h
    obtain ⟨rfl, _, h⟩ := h
    obtain ⟨L, rfl, h1, h2⟩ := okR_all l h
    have e : rdA (.vec b 4 (L.map AV.agg)) = L.map rdL := by rw [rdA]; exact h1
    rw [e, List.length_map]
    intro ρ I w v r
    refine leV_vecr (f := fun i => L.getD i []) (full := false) (full' := b) (by simp) (fun i hi => ?_) _ _ _ _ (leV_rows L (fun i => L.getD i []) (fun _ _ => rfl) (fun i hi => ?_) _ _ _ _ r)
    · rw [tmF_eq, List.getD_eq_getElem?_getD, List.getD_eq_getElem?_getD, List.getElem?_map, List.getElem?_eq_getElem hi]
      exact (h2 _ (List.getElem_mem hi)).2
    · rw [List.getD_eq_getElem?_getD, List.getElem?_eq_getElem hi]
      exact (h2 _ (List.getElem_mem hi)).1
  | .vec8 b l, h => by
    simp only [okT, Bool.and_eq_true] at h
    have e : rdA (.vec8 b l) = [] := by simp [rdA]
    rw [e]
    exact leV_nil (by cases b <;> simp_all [nilS])
  | .any, h => by simp [okT] at h
  | .raw _, h => by simp [okT] at h
  | .int _ _, h => by simp [okT] at h
  | .u8 _, h => by simp [okT] at h
  | .u32 _, h => by simp [okT] at h
  | .u64 _, h => by simp [okT] at h
  | .bool _, h => by simp [okT] at h
  | .str _, h => by simp [okT] at h
  | .b8 _ _, h => by simp [okT] at h
  | .w32 _ _, h => by simp [okT] at h
  | .w64 _ _, h => by simp [okT] at h
  | .n64 _ _, h => by simp [okT] at h
  | .ptr _ _, h => by simp [okT] at h
  | .pix _ _ _ _, h => by simp [okT] at h
  | .sl _ _ _ _, h => by simp [okT] at h
  | .slv _ _ _ _, h => by simp [okT] at h
  | .vp _ _, h => by simp [okT] at h
  | .vpx _ _ _ _, h => by simp [okT] at h
  | .fn _ _ _, h => by simp [okT] at h
  | .agg _, h => by simp [okT] at h
  | .tup _, h => by simp [okT] at h
theorem okC_le : ∀ (cs : List AV), okC cs = true → leR cs (tmK (rdL cs))
  | [a, b, c, x], h => by
    simp only [okC, okC1, okC2, okC3, Bool.and_eq_true] at h
    obtain ⟨h1, h2, h3, h4, h5⟩ := h
    rw [okI_eq h1, okI_eq h2, okI_eq h3]
    obtain ⟨q1, q2, q3⟩ := okT_ag h4
    have hx := okT_le x h4
    have e : tmK (rdL [.int .i64 (rdI a), .int .i64 (rdI b), .int .i64 (rdI c), x]) = [.int .i64 (rdI a), .int .i64 (rdI b), .int .i64 (rdI c), .vecr false 4 (rdA x).length (tmG (rdA x))] := rfl
    rw [e]
    refine leR_same rfl (leR_same rfl (leR_same rfl (leR_leV q1 q2 q3 rfl (by simp) rfl (fun ρ I w v r => ?_) leR_end)))
    exact leV_vecr (f := tmF (rdA x)) (by simp) (fun i hi => by rw [tmG_get hi]; exact leR.refl (okL_tmK _)) _ _ _ _ (hx _ _ _ _ r)
  | [], h => by simp [okC] at h
  | [_], h => by simp [okC, okC1] at h
  | [_, _], h => by simp [okC, okC1, okC2] at h
  | [_, _, _], h => by simp [okC, okC1, okC2, okC3] at h
  | _ :: _ :: _ :: _ :: _ :: _, h => by simp [okC, okC1, okC2, okC3, okE] at h
theorem okR_all : ∀ (l : List AV), okR l = true → ∃ L : List (List AV), l = L.map AV.agg ∧ rdR l = L.map rdL ∧ ∀ cs ∈ L, okL cs = true ∧ leR cs (tmK (rdL cs))
  | [], _ => ⟨[], rfl, by rw [rdR]; rfl, fun _ h => absurd h (by simp)⟩
  | .agg cs :: l, h => by
    simp only [okR, okG1, Bool.and_eq_true] at h
    obtain ⟨L, h1, h2, h3⟩ := okR_all l h.2
    have k1 := okC_ok cs h.1
    have k2 := okC_le cs h.1
    refine ⟨cs :: L, by rw [h1]; rfl, by rw [rdR, h2, rdG]; rfl, ?_⟩
    intro c hc
    rcases List.mem_cons.1 hc with hc | hc
    · rw [hc]; exact ⟨k1, k2⟩
    · exact h3 c hc
  | .vecr _ _ _ _ :: _, h => by simp [okR, okG1] at h
  | .vec _ _ _ :: _, h => by simp [okR, okG1] at h
  | .vec8 _ _ :: _, h => by simp [okR, okG1] at h
  | .any :: _, h => by simp [okR, okG1] at h
  | .raw _ :: _, h => by simp [okR, okG1] at h
  | .int _ _ :: _, h => by simp [okR, okG1] at h
  | .u8 _ :: _, h => by simp [okR, okG1] at h
  | .u32 _ :: _, h => by simp [okR, okG1] at h
  | .u64 _ :: _, h => by simp [okR, okG1] at h
  | .bool _ :: _, h => by simp [okR, okG1] at h
  | .str _ :: _, h => by simp [okR, okG1] at h
  | .b8 _ _ :: _, h => by simp [okR, okG1] at h
  | .w32 _ _ :: _, h => by simp [okR, okG1] at h
  | .w64 _ _ :: _, h => by simp [okR, okG1] at h
  | .n64 _ _ :: _, h => by simp [okR, okG1] at h
  | .ptr _ _ :: _, h => by simp [okR, okG1] at h
  | .pix _ _ _ _ :: _, h => by simp [okR, okG1] at h
  | .sl _ _ _ _ :: _, h => by simp [okR, okG1] at h
  | .slv _ _ _ _ :: _, h => by simp [okR, okG1] at h
  | .vp _ _ :: _, h => by simp [okR, okG1] at h
  | .vpx _ _ _ _ :: _, h => by simp [okR, okG1] at h
  | .fn _ _ _ :: _, h => by simp [okR, okG1] at h
  | .tup _ :: _, h => by simp [okR, okG1] at h
end
end Go.Tm
