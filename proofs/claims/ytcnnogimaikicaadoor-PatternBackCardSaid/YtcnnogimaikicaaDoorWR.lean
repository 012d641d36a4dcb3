/- The abstract layer (third state): a struct of three ints and a text that comes in, alone or in a slice. -/
import Derived.Test.YtcnnogimaikicaaDoorWP

set_option linter.unusedSimpArgs false
set_option linter.unusedVariables false
namespace Go.V
open Go Go.ChangeShapes Go.WideShapes Go.RowKit

/-- Three ints and a text. -/
structure Raw3 where
  kind : Int
  a : Int
  b : Int
  text : List UInt8
def inI (n : Int) : Prop := -9223372036854775808 ≤ n ∧ n ≤ 9223372036854775807
def Raw3.ok (r : Raw3) : Prop := inI r.kind ∧ inI r.a ∧ inI r.b ∧ r.text.length ≤ maxLen
def Raw3.av (r : Raw3) : AV := .agg [.int .i64 r.kind, .int .i64 r.a, .int .i64 r.b, .str r.text]

section
variable {H : Type} {enc : TypeId × Value → H} {P : Program} {W : World} {b0 base : Nat} {sp : Nat → Bool} {held : Bool} {r : Reach}

theorem raw_cells {t ti ts fuel : Nat} {fs : Array Field} (ht : P.underlying t = some (.struct fs)) (h0 : (fs[0]?).map (fun f => (f.offset, f.type)) = some (0, ti)) (h1 : (fs[1]?).map (fun f => (f.offset, f.type)) = some (1, ti))
    (h2 : (fs[2]?).map (fun f => (f.offset, f.type)) = some (2, ti)) (h3 : (fs[3]?).map (fun f => (f.offset, f.type)) = some (3, ts)) (hi : P.underlying ti = some (.int .i64)) (hs : P.underlying ts = some .string) (hci : P.cellsOf ti = 1) (hcs : P.cellsOf ts = 1) (hct : P.cellsOf t = 4)
    {cs : List Value} {x : DataW H × List MemPlace} (h : DataW.trod enc P W base sp held fuel t cs = some x) : ∃ r : Raw3, r.ok ∧ cs = [.int .i64 r.kind, .int .i64 r.a, .int .i64 r.b, .string ⟨r.text.toArray⟩] := by
  obtain ⟨xs, n, rfl, rfl, hl, hx, hf⟩ := DataW.trod_struct ht h
  rw [hct] at hl
  obtain ⟨f0, e0, k0⟩ := Option.map_eq_some_iff.1 h0
  obtain ⟨f1, e1, k1⟩ := Option.map_eq_some_iff.1 h1
  obtain ⟨f2, e2, k2⟩ := Option.map_eq_some_iff.1 h2
  obtain ⟨f3, e3, k3⟩ := Option.map_eq_some_iff.1 h3
  simp only [Prod.mk.injEq] at k0 k1 k2 k3
  have len : ∀ {i : Nat} {f : Field}, fs[i]? = some f → i < xs.length := by
    intro i f e
    rw [hx]
    exact (Array.getElem?_eq_some_iff.1 e).1
  have g0 := hf 0 f0 e0
  have g1 := hf 1 f1 e1
  have g2 := hf 2 f2 e2
  have g3 := hf 3 f3 e3
  rw [k0.1, k0.2, hci, List.getElem?_eq_getElem (len e0)] at g0
  rw [k1.1, k1.2, hci, List.getElem?_eq_getElem (len e1)] at g1
  rw [k2.1, k2.2, hci, List.getElem?_eq_getElem (len e2)] at g2
  rw [k3.1, k3.2, hcs, List.getElem?_eq_getElem (len e3)] at g3
  obtain ⟨a, c0, _, w0⟩ := DataW.trod_int hi g0
  obtain ⟨b, c1, _, w1⟩ := DataW.trod_int hi g1
  obtain ⟨c, c2, _, w2⟩ := DataW.trod_int hi g2
  obtain ⟨s, c3, _, w3⟩ := DataW.trod_string hs g3
  refine ⟨⟨a, b, c, s.data.toList⟩, ⟨wf_i64 w0, wf_i64 w1, wf_i64 w2, by rw [Array.length_toList]; exact w3⟩, ?_⟩
  match cs, hl with
  | [y0, y1, y2, y3], _ =>
    simp only [List.drop_zero, List.drop_succ_cons, List.take_succ_cons, List.take_zero, List.cons.injEq, and_true] at c0 c1 c2 c3
    subst c0 c1 c2 c3
    rfl

theorem raw_R (r : Raw3) (ρ : Rho) (I : Imm) (w : World) : R ρ I w r.av [.int .i64 r.kind, .int .i64 r.a, .int .i64 r.b, .string ⟨r.text.toArray⟩] :=
  ⟨_, _, rfl, rfl, _, _, rfl, rfl, _, _, rfl, rfl, _, [], rfl, rfl, rfl⟩

theorem open_raw {t ti ts : Nat} {fs : Array Field} (ht : P.underlying t = some (.struct fs)) (h0 : (fs[0]?).map (fun f => (f.offset, f.type)) = some (0, ti)) (h1 : (fs[1]?).map (fun f => (f.offset, f.type)) = some (1, ti))
    (h2 : (fs[2]?).map (fun f => (f.offset, f.type)) = some (2, ti)) (h3 : (fs[3]?).map (fun f => (f.offset, f.type)) = some (3, ts)) (hi : P.underlying ti = some (.int .i64)) (hs : P.underlying ts = some .string) (hci : P.cellsOf ti = 1) (hcs : P.cellsOf ts = 1) (hct : P.cellsOf t = 4)
    {v : Value} {d : DataW H} {p : List MemPlace} (hval : Value.okWide P W r b0 t v) (hd : DataW.Trod enc P W base sp held t v d p) : ∃ r : Raw3, r.ok ∧ ∀ ρ I w, rel ρ I w r.av v := by
  obtain ⟨cs, rfl, _⟩ := okWide_struct ht hval
  obtain ⟨fuel, hf⟩ := hd
  obtain ⟨r, hr, hcs⟩ := raw_cells ht h0 h1 h2 h3 hi hs hci hcs hct hf
  refine ⟨r, hr, fun ρ I w => ?_⟩
  refine rel_agg.2 ⟨cs, rfl, ?_⟩
  have : cs.toList = _ := hcs
  rw [this]
  exact raw_R r ρ I w

theorem open_raws {te t ti ts : Nat} {fs : Array Field} (hte : P.underlying te = some (.slice t)) (ht : P.underlying t = some (.struct fs)) (h0 : (fs[0]?).map (fun f => (f.offset, f.type)) = some (0, ti)) (h1 : (fs[1]?).map (fun f => (f.offset, f.type)) = some (1, ti))
    (h2 : (fs[2]?).map (fun f => (f.offset, f.type)) = some (2, ti)) (h3 : (fs[3]?).map (fun f => (f.offset, f.type)) = some (3, ts)) (hi : P.underlying ti = some (.int .i64)) (hs : P.underlying ts = some .string) (hci : P.cellsOf ti = 1) (hcs : P.cellsOf ts = 1) (hct : P.cellsOf t = 4)
    {v : Value} {d : DataW H} {p : List MemPlace} (hval : Value.okWide P W r b0 te v) (hd : DataW.Trod enc P W base sp held te v d p) : ∃ l : List Raw3, (l.length ≤ maxLen ∧ ∀ r ∈ l, r.ok) ∧ rel noR (I0 W) W (.vec false 4 (l.map Raw3.av)) v := by
  obtain ⟨l, hl, h⟩ := open_rows (α := {r : Raw3 // r.ok}) (W := W) (fun r => r.1.av) (k := 4) (fun _ => rfl) (by decide) hte hct (fun fuel cs x h hl => by
    obtain ⟨r, hr, hcs⟩ := raw_cells ht h0 h1 h2 h3 hi hs hci hcs hct h
    exact ⟨⟨r, hr⟩, by rw [hcs]; exact raw_R r _ _ _⟩) hval hd
  refine ⟨l.map (·.1), ⟨by rw [List.length_map]; exact hl, fun r hr => ?_⟩, ?_⟩
  · obtain ⟨x, _, rfl⟩ := List.mem_map.1 hr
    exact x.2
  · rw [List.map_map]; exact h
end
end Go.V
