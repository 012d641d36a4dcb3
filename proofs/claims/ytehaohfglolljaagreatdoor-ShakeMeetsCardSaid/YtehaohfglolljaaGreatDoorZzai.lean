import Derived.Test.YtehaohfglolljaaGreatDoorZzaf
import Derived.ProofKit
import Derived.OpenShut
import Derived.Carry
import Derived.Deep.DeepHandedRow
import Derived.Lib.LaidTab
import Derived.Deep.Slices
import Derived.ChangeMaps5
set_option linter.unusedSimpArgs false
set_option linter.unusedVariables false
namespace Go.V
open Go Go.ChangeShapes Go.WideShapes Go.RowKit Go.ChangeMaps Go.Deep
noncomputable section
def I0 (W : World) : Imm := fun b _ => b < W.heap.size
def noR : Rho := fun _ => none
theorem z16m {g : Nat → Option (List AV)} {W : World} (hg : ∀ n c, g n = some c → ∃ vs, GL (I0 W) W c vs ∧ Lies (I0 W) W n 0 vs) : Conc g noR (I0 W) [] W :=
 ⟨fun _ h => absurd rfl h, fun _ h => by simp at h, fun _ _ h => by simp [noR] at h, fun _ _ _ _ _ h => by simp at h, fun _ _ _ h => by simp at h, fun _ _ h => by simp at h,
  fun _ _ hb => ⟨hb, fun ⟨_, _, h, _⟩ => by simp at h⟩, hg⟩
theorem Good.below {ρ : Rho} {I : Imm} {W : World} {ρ' : Rho} {I' : Imm} {H' : Heap} {W' : World} (g : Good ρ I [] W ρ' I' H' W') : Below W.heap.size W W' :=
 ⟨g.os, g.tape, g.out, g.size, fun b hb => g.block b hb fun _ => zku⟩
theorem ztq {P : Program} {G : Env P} {f : FuncId} {avs : List AV} {W : World} {args : Array Value} (hc : Conc G.g noR (I0 W) [] W) (hr : RV noR (I0 W) W avs args.toList)
  (h : HCall G f avs (.ret (.bool true) [])) : Calls P f args W fun e W' => e = .returned (.bool true) ∧ Below W.heap.size W W' := by
 have := h.call noR (I0 W) W args.toList hc hr;rw [Array.toArray_toList] at this;refine this.mono ?_;rintro e W' ⟨y, rfl, ρ', I', v', H', g, c', hr', hv⟩;obtain ⟨rfl, rfl⟩ := hv;exact ⟨by rw [zl.1 hr'], g.below⟩
theorem zlx {P : Program} {W : World} {name : String} {k : IntKind} {zs : List Int} {g : Nat} {c : List AV} (hg : P.globalNamed name = some g) (h : Lib.TabIs P W name k zs)
  (hc : ∀ ρ I w, RL ρ I w c (zs.map fun z => Value.int k z)) (hf : zsd c = true := by rfl) : ∃ vs, GL (I0 W) W c vs ∧ Lies (I0 W) W g 0 vs := by
 refine ⟨_, ⟨hc _ _ _, zyi hf⟩, fun i x hx => ?_⟩
 unfold Lib.TabIs World.var? at h;rw [hg] at h;simp only [Option.bind_some] at h
 split at h
 ·rename_i cs el fr hh;simp only [Option.some.injEq] at h;subst h;refine ⟨?_, (Array.getElem?_eq_some_iff.1 hh).1⟩;simp only [World.cell?, hh, Nat.zero_add];simpa using hx
 ·simp at h
section
variable {H : Type} {enc : TypeId × Value → H} {P : Program} {W : World} {b0 base : Nat} {sp : Nat → Bool} {held : Bool} {r : Reach}
theorem wf_u8 {n : Int} (h : (Lit.int .u8 n).wf = true) : ∃ x : UInt8, n = x.toNat := by
 simp only [Lit.wf, Bool.and_eq_true, decide_eq_true_eq] at h;have e1 : IntKind.u8.min = 0 := rfl;have e2 : IntKind.u8.max = 255 := rfl;rw [e1, e2] at h;exact ⟨UInt8.ofNat n.toNat, by simp only [UInt8.toNat_ofNat']; omega⟩
theorem wf_i64 {n : Int} (h : (Lit.int .i64 n).wf = true) : -9223372036854775808 ≤ n ∧ n ≤ 9223372036854775807 := by
 simp only [Lit.wf, Bool.and_eq_true, decide_eq_true_eq] at h;have e1 : IntKind.i64.min = -9223372036854775808 := rfl;have e2 : IntKind.i64.max = 9223372036854775807 := rfl;rw [e1, e2] at h;exact h
theorem z1b9 : ∀ {cs : List Value}, (∀ v ∈ cs, ∃ n : Int, v = .int .u8 n ∧ (Lit.int .u8 n).wf = true) → ∃ l : List UInt8, l.length = cs.length ∧ cs = v8 l
 | [], _ => ⟨[], rfl, rfl⟩
 | v :: cs, h => by
  obtain ⟨l, h1, h2⟩ := z1b9 (cs := cs) fun v hv => h v (by simp [hv])
  obtain ⟨n, rfl, hn⟩ := h v (by simp)
  obtain ⟨x, rfl⟩ := wf_u8 hn;exact ⟨x :: l, by simp [h1], by rw [h2]; rfl⟩
theorem zw2 {t e n : Nat} {q : IntKind} {fuel : Nat} {cs : List Value} {x : DataW H × List MemPlace} (ht : P.underlying t = some (.array n e)) (he : P.underlying e = some (.int q)) (hce : P.cellsOf e = 1) (hct : P.cellsOf t = n)
  (h : DataW.trod enc P W base sp held fuel t cs = some x) : cs.length = n ∧ ∀ v ∈ cs, ∃ m : Int, v = .int q m ∧ (Lit.int q m).wf = true := by
 cases fuel with
 | zero => simp [DataW.trod] at h
 | succ fuel =>
  simp only [DataW.trod, ht, hce, hct, Nat.mul_one] at h
  split at h
  ·rename_i hl;obtain ⟨xs, hm, hx⟩ := Option.map_eq_some_iff.1 h;refine ⟨hl, fun v hv => ?_⟩
   obtain ⟨i, hi, rfl⟩ := List.getElem_of_mem hv;obtain ⟨b, hb, hf⟩ := Lib.mapM_at hm i i (by rw [List.getElem?_range (by omega)])
   obtain ⟨z, hc, _, hz⟩ := DataW.trod_int he hf;have h1 : cs[i]? = some (.int q z) := by
    have := congrArg (·[0]?) hc;simpa [List.getElem?_take, List.getElem?_drop] using this
   rw [List.getElem?_eq_getElem hi] at h1;exact ⟨z, by simpa using h1, hz⟩
  ·simp at h
theorem zdr {t e n : Nat} {v : Value} {d : DataW H} {p : List MemPlace} (ht : P.underlying t = some (.array n e)) (he : P.underlying e = some (.int .u8)) (hce : P.cellsOf e = 1) (hct : P.cellsOf t = n)
  (hval : Value.okWide P W r b0 t v) (hd : DataW.Trod enc P W base sp held t v d p) : ∃ l : List UInt8, l.length = n ∧ ∀ ρ I w, rel ρ I w (.b8 n l) v := by
 simp only [Value.okWide, ht] at hval;obtain ⟨cs, rfl, h2, _⟩ := hval;obtain ⟨fuel, hf⟩ := hd;obtain ⟨h3, h4⟩ := zw2 ht he hce hct hf;obtain ⟨l, h5, h6⟩ := z1b9 h4;exact ⟨l, by rw [h5, h3], fun ρ I w => zfr.2 ⟨cs, rfl, h6, by rw [h5, h3]⟩⟩
theorem zly {t : Nat} {v : Value} {d : DataW H} {p : List MemPlace} (ht : P.underlying t = some (.int .i64)) (hval : Value.okWide P W r b0 t v) (hd : DataW.Trod enc P W base sp held t v d p) :
  ∃ n : Int, (-9223372036854775808 ≤ n ∧ n ≤ 9223372036854775807) ∧ ∀ ρ I w, rel ρ I w (.int .i64 n) v := by
 obtain ⟨n, rfl, _, _, hn⟩ := open_int ht hval hd;exact ⟨n, wf_i64 hn, fun _ _ _ => zj.2 rfl⟩
theorem z1a5 {t : Nat} {v : Value} {d : DataW H} {p : List MemPlace} (ht : P.underlying t = some .string) (hval : Value.okWide P W r b0 t v) (hd : DataW.Trod enc P W base sp held t v d p) :
  ∃ s : List UInt8, s.length ≤ maxLen ∧ ∀ ρ I w, rel ρ I w (.str s) v := by
 obtain ⟨s, rfl, _, _, hs⟩ := open_string ht hval hd;exact ⟨s.data.toList, by rw [Array.length_toList]; exact hs, fun _ _ _ => zi.2 (by simp)⟩
theorem zie {W' : World} (hl : laidOutB P = true) (hb : Below W.heap.size W W') {sp' : Nat → Bool} : ∀ {ts : List TypeId} {vs : List Value} {ds : List (DataW H)} {ps : List MemPlace},
  (∀ t ∈ ts, P.readableRec t = true ∧ t < P.types.size) → DataW.TrodAll enc P W 0 (fun _ => true) true ts vs ds ps → (∀ p ∈ ps, p.block < W.heap.size) → (∀ p ∈ ps, sp' p.block = true) → DataW.TrodAll enc P W' 0 sp' true ts vs ds ps
 | [], [], [], _, _, h, _, _ => h
 | t :: ts, v :: vs, d :: ds, ps, ht, ⟨p, q, h1, h2, e⟩, hlt, hs => by
  obtain ⟨k1, k2⟩ := ht t (by simp)
  refine ⟨p, q, WideElems.Trod_stays hl k1 k2 h1 (fun x hx => hb.same (hlt x (by rw [e]; simp [hx]))) (fun x hx => hs x (by rw [e]; simp [hx])), ?_, e⟩
  exact zie hl hb (fun t h => ht t (by simp [h])) h2 (fun x hx => hlt x (by rw [e]; simp [hx])) (fun x hx => hs x (by rw [e]; simp [hx]))
theorem zwp {f : Func} {s : ChangeSpec} {apart fresh handsOn again : Bool} {W' : World} {args : Array Value} {ds gs : List (DataW H)} {before : List MemPlace} {tb : TypeId}
  (hW : DataW.Whole enc P f.params.toList s.vars apart W args.toList ds gs before) (hv : s.vars = []) (hfn : s.fn H (ds ++ gs) = { results := [.lit (.bool true)], args := ds })
  (hres : f.resultTypes = #[tb]) (hb : P.underlying tb = some .bool) (hl : laidOutB P = true) (hrd : ∀ t ∈ f.params.toList, P.readableRec t = true ∧ t < P.types.size) (hbelow : Below W.heap.size W W') :
  s.post enc P f apart fresh handsOn again W args (.bool true) W' := by
 have hW' := hW;obtain ⟨pa, pv, h1, h2, rfl, h4, h5⟩ := hW;rw [hv] at h2;obtain ⟨rfl, rfl⟩ := trodVars_none h2;have hlt : ∀ p ∈ pa, p.block < W.heap.size := fun p hp => hW'.lt p (by simp [hp])
 have hold : ∀ q ∈ pa ++ ([] : List MemPlace), (fun b => decide (b < W.heap.size)) q.block = true := fun q hq => by simpa using hlt q (by simpa using hq)
 have ha : ∀ sp' : Nat → Bool, (∀ q ∈ pa, sp' q.block = true) → DataW.TrodAll enc P W' 0 sp' true f.params.toList args.toList (s.fn H (ds ++ [])).args pa := fun sp' hs => by
  rw [hfn]; exact zie hl hbelow hrd h1 hlt hs
 have hr : ∀ (b : Nat) (sp' : Nat → Bool) (hd : Bool), DataW.TrodAll enc P W' b sp' hd f.resultTypes.toList ((Value.bool true).resultList f.resultTypes.size) (s.fn H (ds ++ [])).results [] := fun b sp' hd => by
  rw [hfn, hres]; exact trodAll_mk1 (shut_bool hb _)
 have hg : ∀ sp' : Nat → Bool, DataW.TrodVars enc P W' sp' s.vars (s.fn H (ds ++ [])).vars [] := fun sp' => by
  rw [hfn, hv]; rfl
 refine ⟨ds, [], pa ++ [], [], pa, [], hW', hr _ _ _, ha _ (fun q hq => hold q (by simpa using hq)), hg _, World.keptBut_mono (fun q hq => ⟨hq, .inr (by simpa using hq)⟩) (hbelow.frame (·∈ pa ++ [])), fun _ => ?_⟩
 refine ⟨ok_one hres rfl (okWide_bool_mk hb _), _, _, ([] ++ pa) ++ [], ⟨[] ++ pa, [], trodAll_append (ha _ fun _ _ => rfl) (hr _ _ _), hg _, rfl, ?_, ?_⟩, ?_⟩
 ·intro b off hq;have hq' : MemPlace.cell b off ∈ pa := by simpa using hq
  rw [hbelow.frozen (hlt _ hq')];exact h4 b off (by simpa using hq')
 ·intro hh;simpa using h5 hh
 ·intro q hq _;simpa using hq
end
end
end Go.V
namespace Go.V
open Go Go.ChangeShapes Go.WideShapes Go.RowKit
structure Raw3 where
 kind : Int
 a : Int
 b : Int
 text : List UInt8
def inI (n : Int) : Prop := -9223372036854775808 ≤ n ∧ n ≤ 9223372036854775807
def Raw3.ok (r : Raw3) : Prop := inI r.kind ∧ inI r.a ∧ inI r.b ∧ r.text.length ≤ maxLen
section
variable {H : Type} {enc : TypeId × Value → H} {P : Program} {W : World} {b0 base : Nat} {sp : Nat → Bool} {held : Bool} {r : Reach}
end
def Raw3.cells (r : Raw3) : List AV := [.int .i64 r.kind, .int .i64 r.a, .int .i64 r.b, .str r.text]
end Go.V
namespace Go.V
open Go
theorem zrc {α : Type} {m : Nat} : ∀ {l : List (List α)} (i : Nat) {r : List α}, (∀ x ∈ l, x.length = m) → l[i]? = some r → (l.flatten.drop (i * m)).take m = r
 | [], i, r, _, h => by simp at h
 | x :: l, 0, r, hm, h => by
  simp at h;subst h;rw [Nat.zero_mul, List.drop_zero, List.flatten_cons, List.take_left' (hm _ (by simp))]
 | x :: l, i + 1, r, hm, h => by
  have hx := hm x (by simp)
  rw [List.flatten_cons, show (i + 1) * m = x.length + i * m by rw [hx, Nat.add_mul, Nat.one_mul, Nat.add_comm], ← List.drop_drop, List.drop_left]
  exact zrc (l := l) i (fun y hy => hm y (by simp [hy])) (by simpa using h)
theorem zl4 {α : Type} {m : Nat} : ∀ {l : List (List α)}, (∀ x ∈ l, x.length = m) → l.flatten.length = l.length * m
 | [], _ => by simp
 | x :: l, hm => by
  rw [List.flatten_cons, List.length_append, hm x (by simp), zl4 (fun y hy => hm y (by simp [hy])), List.length_cons, Nat.add_mul, Nat.one_mul, Nat.add_comm]
theorem z15g {α : Type} {m : Nat} (hm : 0 < m) {n : Nat} {a b : List α} (ha : a.length = n * m) (hb : b.length = n * m) (h : ∀ i, i < n → (a.drop (i * m)).take m = (b.drop (i * m)).take m) : a = b := by
 apply List.ext_getElem?;intro j;rcases Nat.lt_or_ge j (n * m) with hj | hj
 ·have hi : j / m < n := by rw [Nat.div_lt_iff_lt_mul hm]; exact hj
  have e := congrArg (·[j % m]?) (h (j / m) hi);have hlt := Nat.mod_lt j hm;simp only [List.getElem?_take, hlt, if_true, List.getElem?_drop] at e
  rwa [Nat.mul_comm, Nat.div_add_mod] at e
 ·rw [List.getElem?_eq_none (by omega), List.getElem?_eq_none (by omega)]
theorem zry {H : Type} {enc : TypeId × Value → H} {P : Program} {w : World} {base : Nat} {sp : Nat → Bool} {held : Bool} {fuel : Nat} {t e e' : TypeId} {n m : Nat} {k : IntKind} {cs : List Value} {zss : List (List Int)} {p : List MemPlace}
  (hm : 0 < m) (ht : P.underlying t = some (.array n e)) (he : P.underlying e = some (.array m e')) (he' : P.underlying e' = some (.int k)) (hce' : P.cellsOf e' = 1) (hce : P.cellsOf e = m) (hct : P.cellsOf t = n * m) (hz : ∀ zs ∈ zss, zs.length = m)
  (h : DataW.trod enc P w base sp held fuel t cs = some (.agg (zss.map (Lib.tabData k)), p)) : cs = zss.flatten.map fun z => Value.int k z := by
 cases fuel with
 | zero => simp [DataW.trod] at h
 | succ fuel =>
  simp only [DataW.trod, ht, hce, hct] at h
  split at h
  ·rename_i hl;obtain ⟨xs, hmm, hx⟩ := Option.map_eq_some_iff.1 h;have hxs : xs.map (·.1) = zss.map (Lib.tabData k) := by
    have := congrArg Prod.fst hx;simpa using this
   have hxl : xs.length = n := by simpa using Lib.mapM_length hmm
   have hzl : zss.length = n := by
    have := congrArg List.length hxs;simp at this;omega
   refine z15g hm (n := n) hl (by rw [List.length_map, zl4 hz, hzl]) fun i hi => ?_
   obtain ⟨b, hb, hf⟩ := Lib.mapM_at hmm i i (by simp [hi])
   obtain ⟨zs, hzs⟩ : ∃ zs, zss[i]? = some zs := ⟨zss[i], by simp [hzl, hi]⟩
   have h2 : (xs.map (·.1))[i]? = some b.1 := by simp [hb]
   rw [hxs] at h2;simp only [List.getElem?_map, hzs, Option.map_some, Option.some.injEq] at h2;have hf' : DataW.trod enc P w base sp held fuel e ((cs.drop (i * m)).take m) = some (Lib.tabData k zs, b.2) := by rw [h2]; exact hf
   rw [Lib.cells_of_tab he he' hce' hce hf', ← List.map_drop, ← List.map_take, zrc i hz hzs]
  ·cases h
theorem zpl {P : Program} {W : World} {n1 name : String} {d1 : DataW Unit} {k : IntKind} {zss : List (List Int)} {rest : List (String × DataW Unit)} {g : Nat} {t e e' : TypeId} {n m : Nat}
  (hg : P.globalNamed name = some g) (hty : (P.globals[g]?).map (·.type) = some t) (hm : 0 < m) (ht : P.underlying t = some (.array n e)) (he : P.underlying e = some (.array m e')) (he' : P.underlying e' = some (.int k)) (hce' : P.cellsOf e' = 1) (hce : P.cellsOf e = m) (hct : P.cellsOf t = n * m) (hz : ∀ zs ∈ zss, zs.length = m)
  (h : laidMet P ((n1, d1) :: (name, .agg (zss.map (Lib.tabData k))) :: rest) W) : Lib.TabIs P W name k zss.flatten := by
 obtain ⟨ps, ⟨_, _, _, _, _, _, _, _, _, _, h2, _⟩, _⟩ := h;obtain ⟨g', t', cs, fuel, p, q, hg', ht', hvar, hd, _, _⟩ := h2;obtain rfl := Option.some.inj (hg.symm.trans hg');obtain rfl := Option.some.inj (hty.symm.trans ht');unfold Lib.TabIs;rw [hvar, ← zry hm ht he he' hce' hce hct hz hd]
end Go.V