import Derived.Test.YtehaohfglolljaaDoorZzaf
import Derived.ProofKit
import Derived.OpenShut
import Derived.Carry
import Derived.Deep.DeepHandedRow
import Derived.Lib.LaidTab
import Derived.Deep.Slices
import Derived.ChangeMaps5
set_option linter.unusedSimpArgs false
set_option linter.unusedVariables false
namespace Go.V
open Go Go.ChangeShapes Go.WideShapes Go.RowKit Go.ChangeMaps Go.Deep
noncomputable section
def I0 (W : World) : Imm := fun b _ => b < W.heap.size
def noR : Rho := fun _ => none
theorem base_conc {g : Nat → Option (List AV)} {W : World} (hg : ∀ n c, g n = some c → ∃ vs, GL (I0 W) W c vs ∧ Lies (I0 W) W n 0 vs) : Conc g noR (I0 W) [] W :=
 ⟨fun _ h => absurd rfl h, fun _ h => by simp at h, fun _ _ h => by simp [noR] at h, fun _ _ _ _ _ h => by simp at h, fun _ _ _ h => by simp at h, fun _ _ h => by simp at h,
  fun _ _ hb => ⟨hb, fun ⟨_, _, h, _⟩ => by simp at h⟩, hg⟩
theorem Good.below {ρ : Rho} {I : Imm} {W : World} {ρ' : Rho} {I' : Imm} {H' : Heap} {W' : World} (g : Good ρ I [] W ρ' I' H' W') : Below W.heap.size W W' :=
 ⟨g.os, g.tape, g.out, g.size, fun b hb => g.block b hb fun _ => noMut⟩
theorem calls_of_law {P : Program} {G : Env P} {f : FuncId} {avs : List AV} {W : World} {args : Array Value} (hc : Conc G.g noR (I0 W) [] W) (hr : RV noR (I0 W) W avs args.toList)
  (h : HCall G f avs (.ret (.bool true) [])) : Calls P f args W fun e W' => e = .returned (.bool true) ∧ Below W.heap.size W W' := by
 have := h.call noR (I0 W) W args.toList hc hr
 rw [Array.toArray_toList] at this
 refine this.mono ?_
 rintro e W' ⟨y, rfl, ρ', I', v', H', g, c', hr', hv⟩
 obtain ⟨rfl, rfl⟩ := hv
 exact ⟨by rw [rel_bool.1 hr'], g.below⟩
theorem glob_row {P : Program} {W : World} {name : String} {k : IntKind} {zs : List Int} {g : Nat} {c : List AV} (hg : P.globalNamed name = some g) (h : Lib.TabIs P W name k zs)
  (hc : ∀ ρ I w, RL ρ I w c (zs.map fun z => Value.int k z)) (hf : gfree c = true := by rfl) : ∃ vs, GL (I0 W) W c vs ∧ Lies (I0 W) W g 0 vs := by
 refine ⟨_, ⟨hc _ _ _, gtyp_of hf⟩, fun i x hx => ?_⟩
 unfold Lib.TabIs World.var? at h
 rw [hg] at h
 simp only [Option.bind_some] at h
 split at h
 ·rename_i cs el fr hh
  simp only [Option.some.injEq] at h
  subst h
  refine ⟨?_, (Array.getElem?_eq_some_iff.1 hh).1⟩
  simp only [World.cell?, hh, Nat.zero_add]
  simpa using hx
 ·simp at h
section
variable {H : Type} {enc : TypeId × Value → H} {P : Program} {W : World} {b0 base : Nat} {sp : Nat → Bool} {held : Bool} {r : Reach}
theorem wf_i64 {n : Int} (h : (Lit.int .i64 n).wf = true) : -9223372036854775808 ≤ n ∧ n ≤ 9223372036854775807 := by
 simp only [Lit.wf, Bool.and_eq_true, decide_eq_true_eq] at h
 have e1 : IntKind.i64.min = -9223372036854775808 := rfl
 have e2 : IntKind.i64.max = 9223372036854775807 := rfl
 rw [e1, e2] at h
 exact h
theorem open_i64 {t : Nat} {v : Value} {d : DataW H} {p : List MemPlace} (ht : P.underlying t = some (.int .i64)) (hval : Value.okWide P W r b0 t v) (hd : DataW.Trod enc P W base sp held t v d p) :
  ∃ n : Int, (-9223372036854775808 ≤ n ∧ n ≤ 9223372036854775807) ∧ ∀ ρ I w, rel ρ I w (.int .i64 n) v := by
 obtain ⟨n, rfl, _, _, hn⟩ := open_int ht hval hd
 exact ⟨n, wf_i64 hn, fun _ _ _ => rel_int.2 rfl⟩
theorem open_str {t : Nat} {v : Value} {d : DataW H} {p : List MemPlace} (ht : P.underlying t = some .string) (hval : Value.okWide P W r b0 t v) (hd : DataW.Trod enc P W base sp held t v d p) :
  ∃ s : List UInt8, s.length ≤ maxLen ∧ ∀ ρ I w, rel ρ I w (.str s) v := by
 obtain ⟨s, rfl, _, _, hs⟩ := open_string ht hval hd
 exact ⟨s.data.toList, by rw [Array.length_toList]; exact hs, fun _ _ _ => rel_str.2 (by simp)⟩
theorem RL_map {α : Type} {f : α → AV} {ρ : Rho} {I : Imm} {w : World} {k : Nat} (g : Nat → List Value) : ∀ (n i : Nat), (∀ j, i ≤ j → j < i + n → ∃ x : α, R ρ I w (f x) (g j) ∧ (g j).length = k) →
  ∃ l : List α, l.length = n ∧ RL ρ I w (l.map f) ((List.range' i n).flatMap g)
 | 0, _, _ => ⟨[], rfl, rfl⟩
 | n + 1, i, h => by
  obtain ⟨x, h1, h2⟩ := h i (Nat.le_refl _) (by omega)
  obtain ⟨l, h3, h4⟩ := RL_map g n (i + 1) fun j hj hj' => h j (by omega) (by omega)
  refine ⟨x :: l, by simp [h3], ?_⟩
  rw [List.range'_succ, List.flatMap_cons, List.map_cons]
  exact ⟨_, _, rfl, h1, h4⟩
theorem open_rows {α : Type} (f : α → AV) {k : Nat} (hk : ∀ x, szA (f x) = k) (hpos : 0 < k) {t e : Nat} (ht : P.underlying t = some (.slice e)) (hce : P.cellsOf e = k)
  (hel : ∀ fuel cs x, DataW.trod enc P W base sp held fuel e cs = some x → cs.length = k → ∃ x : α, R noR (I0 W) W (f x) cs) {v : Value} {d : DataW H} {p : List MemPlace}
  (hval : Value.okWide P W r b0 t v) (hd : DataW.Trod enc P W base sp held t v d p) : ∃ l : List α, l.length ≤ maxLen ∧ rel noR (I0 W) W (.vec false k (l.map f)) v := by
 obtain ⟨a, len, cap, rfl⟩ := okWide_slice ht hval
 obtain ⟨fuel, hf⟩ := hd
 rcases open_slice ht hf with ⟨h0, _⟩ | ⟨a', len', cap', m, n, D, Pl, h0, _, hl, hm, hmm, _, hx⟩
 ·simp only [Value.cells, List.cons.injEq, Value.slice.injEq, and_true] at h0
  obtain ⟨rfl, rfl, rfl⟩ := h0
  exact ⟨[], by simp, rel_vec.2 ⟨by simp, [], by simp [RL], none, 0, by simp, by simp, by simp, .inl (by simp)⟩⟩
 ·simp only [Value.cells, List.cons.injEq, Value.slice.injEq, and_true] at h0
  obtain ⟨rfl, rfl, rfl⟩ := h0
  have hlm : len ≤ m := by rw [hmm]; split <;> omega
  let g : Nat → List Value := fun i => (W.cells? base (a'.add (i * P.cellsOf e)) (P.cellsOf e)).getD []
  obtain ⟨l, h1, h2⟩ := RL_map (f := f) (ρ := noR) (I := I0 W) (w := W) (k := k) g len 0 fun j _ hj => by
   obtain ⟨cs', k1, k2⟩ := hx j (by omega)
   have k3 := (World.cells?_some k1).2.1
   rw [hce] at k3
   obtain ⟨x, k4⟩ := hel n cs' _ k2 k3
   have : g j = cs' := by simp [g, k1]
   exact ⟨x, by rw [this]; exact k4, by rw [this]; exact k3⟩
  refine ⟨l, by omega, rel_vec.2 ⟨?_, _, h2, some a', cap, by rw [List.length_map, h1], by rw [List.length_map, h1]; exact hl, by simp, ?_⟩⟩
  ·intro b hb
   obtain ⟨x, _, rfl⟩ := List.mem_map.1 hb
   exact hk x
  ·rcases Nat.eq_zero_or_pos len with hz | hz
   ·exact .inl (by rw [List.length_map, h1, hz])
   ·have cell : ∀ i, i < len → ∀ j, j < k → W.cell? (a'.add (i * k + j)) = (g i)[j]? := by
     intro i hi j hj
     obtain ⟨cs', k1, k2⟩ := hx i (by omega)
     have k3 := (World.cells?_some k1).2.2 j (by rw [hce]; exact hj)
     have : g i = cs' := by simp [g, k1]
     rw [this, ← k3, hce, add_add]
    have hg : ∀ i, i < len → (g i).length = k := by
     intro i hi
     obtain ⟨cs', k1, k2⟩ := hx i (by omega)
     have k3 := (World.cells?_some k1).2.1
     rw [hce] at k3
     simp [g, k1, k3]
    have h00 : ∃ y, W.cell? (a'.add 0) = some y := by
     have := cell 0 hz 0 hpos
     rw [Nat.zero_mul, Nat.zero_add] at this
     exact ⟨(g 0)[0]'(by rw [hg 0 hz]; exact hpos), by rw [this]; simp [hg 0 hz, hpos]⟩
    obtain ⟨y, hy⟩ := h00
    have hspot : a'.spot = none := by
     have := World.cell?_spot hy
     simpa [Addr.add] using this
    obtain ⟨b, off, spot⟩ := a'
    simp only at hspot
    subst hspot
    have hadd : ∀ n, (⟨b, off, none⟩ : Addr).add n = ⟨b, off + n, none⟩ := addr_add b off
    have hb : b < W.heap.size := by
     rw [hadd] at hy
     unfold World.cell? at hy
     split at hy
     ·rename_i hq; exact (Array.getElem?_eq_some_iff.1 hq).1
     ·simp at hy
    refine .inr ⟨b, off, rfl, hb, fun i x hi => ⟨?_, hb⟩⟩
    have get : ∀ (n s i : Nat) (x : Value), (∀ j, s ≤ j → j < s + n → (g j).length = k) → ((List.range' s n).flatMap g)[i]? = some x → i / k < n ∧ (g (s + i / k))[i % k]? = some x := by
     intro n
     induction n with
     | zero => intro s i x _ h; simp at h
     | succ n ih =>
      intro s i x hgl h
      rw [List.range'_succ, List.flatMap_cons] at h
      have hs := hgl s (Nat.le_refl _) (by omega)
      rcases Nat.lt_or_ge i k with hik | hik
      ·rw [List.getElem?_append_left (by omega)] at h
       rw [Nat.div_eq_of_lt hik, Nat.mod_eq_of_lt hik]
       exact ⟨by omega, h⟩
      ·rw [List.getElem?_append_right (by omega), hs] at h
       obtain ⟨q1, q2⟩ := ih (s + 1) (i - k) x (fun j hj hj' => hgl j (by omega) (by omega)) h
       have e1 : i / k = (i - k) / k + 1 := by
        have : i = (i - k) + k := by omega
        conv => lhs; rw [this]
        rw [Nat.add_div_right _ hpos]
       have e2 : i % k = (i - k) % k := by
        have : i = (i - k) + k := by omega
        conv => lhs; rw [this]
        rw [Nat.add_mod_right]
       rw [e1, e2]
       exact ⟨by omega, by rw [show s + ((i - k) / k + 1) = s + 1 + (i - k) / k by omega]; exact q2⟩
    obtain ⟨q1, q2⟩ := get len 0 i x (fun j _ hj => hg j (by omega)) hi
    rw [Nat.zero_add] at q2
    have := cell (i / k) q1 (i % k) (Nat.mod_lt _ hpos)
    rw [q2, hadd] at this
    rw [show off + i = off + (i / k * k + i % k) by rw [Nat.mul_comm, Nat.div_add_mod]]
    exact this
theorem trodAll_kept {W' : World} (hl : laidOutB P = true) (hb : Below W.heap.size W W') {sp' : Nat → Bool} : ∀ {ts : List TypeId} {vs : List Value} {ds : List (DataW H)} {ps : List MemPlace},
  (∀ t ∈ ts, P.readableRec t = true ∧ t < P.types.size) → DataW.TrodAll enc P W 0 (fun _ => true) true ts vs ds ps → (∀ p ∈ ps, p.block < W.heap.size) → (∀ p ∈ ps, sp' p.block = true) → DataW.TrodAll enc P W' 0 sp' true ts vs ds ps
 | [], [], [], _, _, h, _, _ => h
 | t :: ts, v :: vs, d :: ds, ps, ht, ⟨p, q, h1, h2, e⟩, hlt, hs => by
  obtain ⟨k1, k2⟩ := ht t (by simp)
  refine ⟨p, q, WideElems.Trod_stays hl k1 k2 h1 (fun x hx => hb.same (hlt x (by rw [e]; simp [hx]))) (fun x hx => hs x (by rw [e]; simp [hx])), ?_, e⟩
  exact trodAll_kept hl hb (fun t h => ht t (by simp [h])) h2 (fun x hx => hlt x (by rw [e]; simp [hx])) (fun x hx => hs x (by rw [e]; simp [hx]))
theorem post_of_true {f : Func} {s : ChangeSpec} {apart fresh handsOn again : Bool} {W' : World} {args : Array Value} {ds gs : List (DataW H)} {before : List MemPlace} {tb : TypeId}
  (hW : DataW.Whole enc P f.params.toList s.vars apart W args.toList ds gs before) (hv : s.vars = []) (hfn : s.fn H (ds ++ gs) = { results := [.lit (.bool true)], args := ds })
  (hres : f.resultTypes = #[tb]) (hb : P.underlying tb = some .bool) (hl : laidOutB P = true) (hrd : ∀ t ∈ f.params.toList, P.readableRec t = true ∧ t < P.types.size) (hbelow : Below W.heap.size W W') :
  s.post enc P f apart fresh handsOn again W args (.bool true) W' := by
 have hW' := hW
 obtain ⟨pa, pv, h1, h2, rfl, h4, h5⟩ := hW
 rw [hv] at h2
 obtain ⟨rfl, rfl⟩ := trodVars_none h2
 have hlt : ∀ p ∈ pa, p.block < W.heap.size := fun p hp => hW'.lt p (by simp [hp])
 have hold : ∀ q ∈ pa ++ ([] : List MemPlace), (fun b => decide (b < W.heap.size)) q.block = true := fun q hq => by simpa using hlt q (by simpa using hq)
 have ha : ∀ sp' : Nat → Bool, (∀ q ∈ pa, sp' q.block = true) → DataW.TrodAll enc P W' 0 sp' true f.params.toList args.toList (s.fn H (ds ++ [])).args pa := fun sp' hs => by
  rw [hfn]; exact trodAll_kept hl hbelow hrd h1 hlt hs
 have hr : ∀ (b : Nat) (sp' : Nat → Bool) (hd : Bool), DataW.TrodAll enc P W' b sp' hd f.resultTypes.toList ((Value.bool true).resultList f.resultTypes.size) (s.fn H (ds ++ [])).results [] := fun b sp' hd => by
  rw [hfn, hres]; exact trodAll_mk1 (shut_bool hb _)
 have hg : ∀ sp' : Nat → Bool, DataW.TrodVars enc P W' sp' s.vars (s.fn H (ds ++ [])).vars [] := fun sp' => by
  rw [hfn, hv]; rfl
 refine ⟨ds, [], pa ++ [], [], pa, [], hW', hr _ _ _, ha _ (fun q hq => hold q (by simpa using hq)), hg _, World.keptBut_mono (fun q hq => ⟨hq, .inr (by simpa using hq)⟩) (hbelow.frame (·∈ pa ++ [])), fun _ => ?_⟩
 refine ⟨ok_one hres rfl (okWide_bool_mk hb _), _, _, ([] ++ pa) ++ [], ⟨[] ++ pa, [], trodAll_append (ha _ fun _ _ => rfl) (hr _ _ _), hg _, rfl, ?_, ?_⟩, ?_⟩
 ·intro b off hq
  have hq' : MemPlace.cell b off ∈ pa := by simpa using hq
  rw [hbelow.frozen (hlt _ hq')]
  exact h4 b off (by simpa using hq')
 ·intro hh
  simpa using h5 hh
 ·intro q hq _
  simpa using hq
end
end
end Go.V
namespace Go.V
open Go Go.ChangeShapes Go.WideShapes Go.RowKit
structure Raw3 where
 kind : Int
 a : Int
 b : Int
 text : List UInt8
def inI (n : Int) : Prop := -9223372036854775808 ≤ n ∧ n ≤ 9223372036854775807
def Raw3.ok (r : Raw3) : Prop := inI r.kind ∧ inI r.a ∧ inI r.b ∧ r.text.length ≤ maxLen
def Raw3.av (r : Raw3) : AV := .agg [.int .i64 r.kind, .int .i64 r.a, .int .i64 r.b, .str r.text]
section
variable {H : Type} {enc : TypeId × Value → H} {P : Program} {W : World} {b0 base : Nat} {sp : Nat → Bool} {held : Bool} {r : Reach}
end
def Raw3.cells (r : Raw3) : List AV := [.int .i64 r.kind, .int .i64 r.a, .int .i64 r.b, .str r.text]
def intsF (l : List Int) (i : Nat) : List AV := [.int .i64 (l.getD i 0)]
theorem rel_ints {ρ : Rho} {I : Imm} {w : World} {full : Bool} {l : List Int} {v : Value} (h : rel ρ I w (.vec full 1 (l.map (AV.int .i64))) v) : rel ρ I w (.vecr full 1 l.length (intsF l)) v := by
 obtain ⟨hsz, vs, hr, hv⟩ := rel_vec.1 h
 rw [List.length_map] at hv
 have hlen : vs.length = l.length * 1 := by
  have : ∀ (rows : List AV) (us : List Value), (∀ a ∈ rows, szA a = 1) → RL ρ I w rows us → us.length = rows.length * 1 := by
   intro rows
   induction rows with
   | nil => intro us _ h; cases h; simp
   | cons a as ih =>
    intro us hk h
    obtain ⟨ys, zs, rfl, h1, h2⟩ := RL_cons.1 h
    rw [List.length_append, R_len a ys h1, hk a (by simp), ih zs (fun b hb => hk b (by simp [hb])) h2, List.length_cons, Nat.add_mul, Nat.one_mul, Nat.add_comm]
  have := this _ _ hsz hr
  rwa [List.length_map] at this
 refine rel_vecr.2 ⟨fun i _ => rfl, vs, hlen, fun i hi => ?_, hv⟩
 obtain ⟨ys, q1, q2, q3, _⟩ := RL_rows hsz hr (i := i) (a := .int .i64 l[i]) (by simp [hi])
 have hy : ys.length = 1 := by have := R_len _ _ q1; exact this
 have he : (vs.drop (i * 1)).take 1 = ys := by
  apply List.ext_getElem?
  intro j
  rw [List.getElem?_take, List.getElem?_drop]
  split
  ·rename_i hj
   rw [List.getElem?_eq_getElem (l := ys) (by omega)]
   exact q3 j _ (List.getElem?_eq_getElem (by omega))
  ·rw [List.getElem?_eq_none (by omega)]
 rw [he]
 have hc : intsF l i = [.int .i64 l[i]] := by unfold intsF; rw [List.getD_eq_getElem?_getD, List.getElem?_eq_getElem hi]; rfl
 rw [hc]
 exact RL_cons.2 ⟨ys, [], by simp, q1, rfl⟩
theorem open_ints {H : Type} {enc : TypeId × Value → H} {P : Program} {W : World} {b0 base : Nat} {sp : Nat → Bool} {held : Bool} {r : Reach} {te t : Nat} (hte : P.underlying te = some (.slice t)) (hi : P.underlying t = some (.int .i64)) (hct : P.cellsOf t = 1)
  {v : Value} {d : DataW H} {p : List MemPlace} (hval : Value.okWide P W r b0 te v) (hd : DataW.Trod enc P W base sp held te v d p) : ∃ l : List Int, l.length ≤ maxLen ∧ rel noR (I0 W) W (.vecr false 1 l.length (intsF l)) v := by
 obtain ⟨l, hl, h⟩ := open_rows (α := Int) (W := W) (AV.int .i64) (k := 1) (fun _ => rfl) Nat.one_pos hte hct (fun fuel cs x h hl => by
  obtain ⟨n, h3, _, h4⟩ := DataW.trod_int hi h
  exact ⟨n, h3⟩) hval hd
 exact ⟨l, hl, rel_ints h⟩
end Go.V
namespace Go.V
open Go
theorem flat_drop {α : Type} {m : Nat} : ∀ {l : List (List α)} (i : Nat) {r : List α}, (∀ x ∈ l, x.length = m) → l[i]? = some r → (l.flatten.drop (i * m)).take m = r
 | [], i, r, _, h => by simp at h
 | x :: l, 0, r, hm, h => by
  simp at h
  subst h
  rw [Nat.zero_mul, List.drop_zero, List.flatten_cons, List.take_left' (hm _ (by simp))]
 | x :: l, i + 1, r, hm, h => by
  have hx := hm x (by simp)
  rw [List.flatten_cons, show (i + 1) * m = x.length + i * m by rw [hx, Nat.add_mul, Nat.one_mul, Nat.add_comm], ← List.drop_drop, List.drop_left]
  exact flat_drop (l := l) i (fun y hy => hm y (by simp [hy])) (by simpa using h)
theorem length_flat {α : Type} {m : Nat} : ∀ {l : List (List α)}, (∀ x ∈ l, x.length = m) → l.flatten.length = l.length * m
 | [], _ => by simp
 | x :: l, hm => by
  rw [List.flatten_cons, List.length_append, hm x (by simp), length_flat (fun y hy => hm y (by simp [hy])), List.length_cons, Nat.add_mul, Nat.one_mul, Nat.add_comm]
theorem ext_parts {α : Type} {m : Nat} (hm : 0 < m) {n : Nat} {a b : List α} (ha : a.length = n * m) (hb : b.length = n * m) (h : ∀ i, i < n → (a.drop (i * m)).take m = (b.drop (i * m)).take m) : a = b := by
 apply List.ext_getElem?
 intro j
 rcases Nat.lt_or_ge j (n * m) with hj | hj
 ·have hi : j / m < n := by rw [Nat.div_lt_iff_lt_mul hm]; exact hj
  have e := congrArg (·[j % m]?) (h (j / m) hi)
  have hlt := Nat.mod_lt j hm
  simp only [List.getElem?_take, hlt, if_true, List.getElem?_drop] at e
  rwa [Nat.mul_comm, Nat.div_add_mod] at e
 ·rw [List.getElem?_eq_none (by omega), List.getElem?_eq_none (by omega)]
theorem cells_of_tab2 {H : Type} {enc : TypeId × Value → H} {P : Program} {w : World} {base : Nat} {sp : Nat → Bool} {held : Bool} {fuel : Nat} {t e e' : TypeId} {n m : Nat} {k : IntKind} {cs : List Value} {zss : List (List Int)} {p : List MemPlace}
  (hm : 0 < m) (ht : P.underlying t = some (.array n e)) (he : P.underlying e = some (.array m e')) (he' : P.underlying e' = some (.int k)) (hce' : P.cellsOf e' = 1) (hce : P.cellsOf e = m) (hct : P.cellsOf t = n * m) (hz : ∀ zs ∈ zss, zs.length = m)
  (h : DataW.trod enc P w base sp held fuel t cs = some (.agg (zss.map (Lib.tabData k)), p)) : cs = zss.flatten.map fun z => Value.int k z := by
 cases fuel with
 | zero => simp [DataW.trod] at h
 | succ fuel =>
  simp only [DataW.trod, ht, hce, hct] at h
  split at h
  ·rename_i hl
   obtain ⟨xs, hmm, hx⟩ := Option.map_eq_some_iff.1 h
   have hxs : xs.map (·.1) = zss.map (Lib.tabData k) := by
    have := congrArg Prod.fst hx
    simpa using this
   have hxl : xs.length = n := by simpa using Lib.mapM_length hmm
   have hzl : zss.length = n := by
    have := congrArg List.length hxs
    simp at this
    omega
   refine ext_parts hm (n := n) hl (by rw [List.length_map, length_flat hz, hzl]) fun i hi => ?_
   obtain ⟨b, hb, hf⟩ := Lib.mapM_at hmm i i (by simp [hi])
   obtain ⟨zs, hzs⟩ : ∃ zs, zss[i]? = some zs := ⟨zss[i], by simp [hzl, hi]⟩
   have h2 : (xs.map (·.1))[i]? = some b.1 := by simp [hb]
   rw [hxs] at h2
   simp only [List.getElem?_map, hzs, Option.map_some, Option.some.injEq] at h2
   have hf' : DataW.trod enc P w base sp held fuel e ((cs.drop (i * m)).take m) = some (Lib.tabData k zs, b.2) := by rw [h2]; exact hf
   rw [Lib.cells_of_tab he he' hce' hce hf', ← List.map_drop, ← List.map_take, flat_drop i hz hzs]
  ·cases h
theorem tab2_of_second {P : Program} {W : World} {n1 name : String} {d1 : DataW Unit} {k : IntKind} {zss : List (List Int)} {rest : List (String × DataW Unit)} {g : Nat} {t e e' : TypeId} {n m : Nat}
  (hg : P.globalNamed name = some g) (hty : (P.globals[g]?).map (·.type) = some t) (hm : 0 < m) (ht : P.underlying t = some (.array n e)) (he : P.underlying e = some (.array m e')) (he' : P.underlying e' = some (.int k)) (hce' : P.cellsOf e' = 1) (hce : P.cellsOf e = m) (hct : P.cellsOf t = n * m) (hz : ∀ zs ∈ zss, zs.length = m)
  (h : laidMet P ((n1, d1) :: (name, .agg (zss.map (Lib.tabData k))) :: rest) W) : Lib.TabIs P W name k zss.flatten := by
 obtain ⟨ps, ⟨_, _, _, _, _, _, _, _, _, _, h2, _⟩, _⟩ := h
 obtain ⟨g', t', cs, fuel, p, q, hg', ht', hvar, hd, _, _⟩ := h2
 obtain rfl := Option.some.inj (hg.symm.trans hg')
 obtain rfl := Option.some.inj (hty.symm.trans ht')
 unfold Lib.TabIs
 rw [hvar, ← cells_of_tab2 hm ht he he' hce' hce hct hz hd]
end Go.V