import Derived.Test.YtehaohfglolljaaGreatDoorZzai
import Derived.LaidSub
set_option linter.unusedSimpArgs false
set_option linter.unusedVariables false
namespace Go.V
open Go Go.Lib Go.RowKit
def zkk {H : Type} (ss : List (List UInt8)) : DataW H := .agg (ss.map fun s => .lit (.string s))
theorem zs8 {H : Type} {enc : TypeId × Value → H} {P : Program} {w : World} {base : Nat} {sp : Nat → Bool} {held : Bool} {fuel : Nat} {t e : TypeId} {n : Nat} {cs : List Value} {ss : List (List UInt8)} {p : List MemPlace}
  (ht : P.underlying t = some (.array n e)) (he : P.underlying e = some .string) (hce : P.cellsOf e = 1) (hct : P.cellsOf t = n)
  (h : DataW.trod enc P w base sp held fuel t cs = some (zkk ss, p)) : cs = ss.map fun s => Value.string ⟨s.toArray⟩ := by
 cases fuel with
 | zero => simp [DataW.trod] at h
 | succ fuel =>
  simp only [DataW.trod, ht, hce, hct, Nat.mul_one] at h
  split at h
  ·rename_i hl;obtain ⟨xs, hm, hx⟩ := Option.map_eq_some_iff.1 h;have hxs : xs.map (·.1) = ss.map fun s => (DataW.lit (.string s) : DataW H) := by
    have := congrArg Prod.fst hx;simpa [zkk] using this
   have hxl : xs.length = n := by simpa using mapM_length hm
   have hzl : ss.length = n := by
    have := congrArg List.length hxs;simp at this;omega
   apply List.ext_getElem?;intro i
   by_cases hi : i < n
   ·obtain ⟨b, hb, hf⟩ := mapM_at hm i i (by simp [hi])
    obtain ⟨z, hc, rfl, _⟩ := DataW.trod_string he hf;have h1 : cs[i]? = some (.string z) := by
     have := congrArg (·[0]?) hc;simpa [List.getElem?_take, List.getElem?_drop] using this
    have h2 : (xs.map (·.1))[i]? = some (DataW.lit (.string z.data.toList) : DataW H) := by simp [hb]
    rw [hxs] at h2;simp only [List.getElem?_map, Option.map_eq_some_iff, DataW.lit.injEq, Lit.string.injEq] at h2;obtain ⟨z', hz', hz2⟩ := h2;simp [h1, hz', hz2]
   ·rw [List.getElem?_eq_none (by omega), List.getElem?_eq_none (by simp; omega)]
  ·cases h
theorem z14t {P : Program} {W : World} {name : String} {ss : List (List UInt8)} {rest : List (String × DataW Unit)} {g : Nat} {t e : TypeId} {n : Nat}
  (hg : P.globalNamed name = some g) (hty : (P.globals[g]?).map (·.type) = some t) (ht : P.underlying t = some (.array n e)) (he : P.underlying e = some .string) (hce : P.cellsOf e = 1) (hct : P.cellsOf t = n)
  (h : laidMet P ((name, zkk ss) :: rest) W) (hf : zsd (ss.map AV.str) = true) : ∃ vs, GL (I0 W) W (ss.map AV.str) vs ∧ Lies (I0 W) W g 0 vs := by
 obtain ⟨ps, ⟨g', t', cs, fuel, p, q, hg', ht', hvar, hd, _, _⟩, _⟩ := h;obtain rfl := Option.some.inj (hg.symm.trans hg');obtain rfl := Option.some.inj (hty.symm.trans ht');have hc := zs8 ht he hce hct hd;have hr : ∀ m : List (List UInt8), RL (fun _ => none) (I0 W) W (m.map AV.str) (m.map fun s => Value.string ⟨s.toArray⟩) := by
  intro m
  induction m with
  | nil => rfl
  | cons s m ih => exact z12.2 ⟨[.string ⟨s.toArray⟩], _, rfl, rfl, ih⟩
 refine ⟨_, ⟨hr ss, zyi hf⟩, fun i x hx => ?_⟩
 unfold World.var? at hvar;rw [hg] at hvar;simp only [Option.bind_some] at hvar
 split at hvar
 ·rename_i cells el fr hh;simp only [Option.some.injEq] at hvar;subst hvar;refine ⟨?_, (Array.getElem?_eq_some_iff.1 hh).1⟩;simp only [World.cell?, hh, Nat.zero_add];rw [← hc] at hx;simpa using hx
 ·simp at hvar
theorem z19p {W : World} {g : Nat} (h : ∃ m, W.cell? ⟨g, 0, none⟩ = some (.int .i64 m)) : ∃ vs, GL (I0 W) W [.any] vs ∧ Lies (I0 W) W g 0 vs := by
 obtain ⟨m, hm⟩ := h;refine ⟨[.int .i64 m], ⟨⟨[.int .i64 m], [], rfl, ⟨_, rfl⟩, rfl⟩, m, rfl⟩, fun i x hx => ?_⟩
 cases i with
 | zero =>
  simp only [List.getElem?_cons_zero, Option.some.injEq] at hx;subst hx;refine ⟨hm, ?_⟩;exact World.block_lt_of_cell? _ _ hm
 | succ i => simp at hx
end Go.V