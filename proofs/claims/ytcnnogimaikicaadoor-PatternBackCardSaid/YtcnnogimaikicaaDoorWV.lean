/- The abstract layer (third state): raw things that come in a slice, each told by its number. -/
import Derived.Test.YtcnnogimaikicaaDoorWR

set_option linter.unusedSimpArgs false
set_option linter.unusedVariables false
namespace Go.V
open Go Go.ChangeShapes Go.WideShapes Go.RowKit

def Raw3.cells (r : Raw3) : List AV := [.int .i64 r.kind, .int .i64 r.a, .int .i64 r.b, .str r.text]
def raw0 : Raw3 := ⟨0, 0, 0, []⟩
def rawsF (l : List Raw3) (i : Nat) : List AV := (l.getD i raw0).cells

theorem rel_raws {ρ : Rho} {I : Imm} {w : World} {full : Bool} {l : List Raw3} {v : Value} (h : rel ρ I w (.vec full 4 (l.map Raw3.av)) v) : rel ρ I w (.vecr full 4 l.length (rawsF l)) v := by
  obtain ⟨hsz, vs, hr, hv⟩ := rel_vec.1 h
  rw [List.length_map] at hv
  have hlen : vs.length = l.length * 4 := by
    have : ∀ (rows : List AV) (us : List Value), (∀ a ∈ rows, szA a = 4) → RL ρ I w rows us → us.length = rows.length * 4 := by
      intro rows
      induction rows with
      | nil => intro us _ h; cases h; simp
      | cons a as ih =>
        intro us hk h
        obtain ⟨ys, zs, rfl, h1, h2⟩ := RL_cons.1 h
        rw [List.length_append, R_len a ys h1, hk a (by simp), ih zs (fun b hb => hk b (by simp [hb])) h2, List.length_cons, Nat.add_mul, Nat.one_mul, Nat.add_comm]
    have := this _ _ hsz hr
    rwa [List.length_map] at this
  refine rel_vecr.2 ⟨fun i _ => rfl, vs, hlen, fun i hi => ?_, hv⟩
  obtain ⟨ys, q1, q2, q3, _⟩ := RL_rows hsz hr (i := i) (a := l[i].av) (by simp [hi])
  have hy : ys.length = 4 := by have := R_len _ _ q1; exact this
  have he : (vs.drop (i * 4)).take 4 = ys := by
    apply List.ext_getElem?
    intro j
    rw [List.getElem?_take, List.getElem?_drop]
    split
    · rename_i hj
      rw [List.getElem?_eq_getElem (l := ys) (by omega)]
      exact q3 j _ (List.getElem?_eq_getElem (by omega))
    · rw [List.getElem?_eq_none (by omega)]
  rw [he]
  have hc : rawsF l i = (l[i]).cells := by unfold rawsF; rw [List.getD_eq_getElem?_getD, List.getElem?_eq_getElem hi]; rfl
  rw [hc]
  exact q1

theorem open_rawsR {H : Type} {enc : TypeId × Value → H} {P : Program} {W : World} {b0 base : Nat} {sp : Nat → Bool} {held : Bool} {r : Reach} {te t ti ts : Nat} {fs : Array Field} (hte : P.underlying te = some (.slice t)) (ht : P.underlying t = some (.struct fs)) (h0 : (fs[0]?).map (fun f => (f.offset, f.type)) = some (0, ti)) (h1 : (fs[1]?).map (fun f => (f.offset, f.type)) = some (1, ti))
    (h2 : (fs[2]?).map (fun f => (f.offset, f.type)) = some (2, ti)) (h3 : (fs[3]?).map (fun f => (f.offset, f.type)) = some (3, ts)) (hi : P.underlying ti = some (.int .i64)) (hs : P.underlying ts = some .string) (hci : P.cellsOf ti = 1) (hcs : P.cellsOf ts = 1) (hct : P.cellsOf t = 4)
    {v : Value} {d : DataW H} {p : List MemPlace} (hval : Value.okWide P W r b0 te v) (hd : DataW.Trod enc P W base sp held te v d p) : ∃ l : List Raw3, (l.length ≤ maxLen ∧ ∀ r ∈ l, r.ok) ∧ rel noR (I0 W) W (.vecr false 4 l.length (rawsF l)) v := by
  obtain ⟨l, hl, h⟩ := open_raws hte ht h0 h1 h2 h3 hi hs hci hcs hct hval hd
  exact ⟨l, hl, rel_raws h⟩
end Go.V
