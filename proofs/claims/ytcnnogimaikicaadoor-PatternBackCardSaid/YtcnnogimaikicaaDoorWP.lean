/- The abstract layer (third state), part P: from a given statement to a contract: arguments opened, what is asked behind the call. -/
import Derived.Test.YtcnnogimaikicaaDoorW2
import Derived.ProofKit
import Derived.OpenShut
import Derived.Carry
import Derived.Deep.DeepHandedRow
import Derived.Lib.LaidTab
import Derived.Deep.Slices
import Derived.ChangeMaps5

set_option linter.unusedSimpArgs false
set_option linter.unusedVariables false
namespace Go.V
open Go Go.ChangeShapes Go.WideShapes Go.RowKit Go.ChangeMaps Go.Deep
noncomputable section

def I0 (W : World) : Imm := fun b _ => b < W.heap.size
def noR : Rho := fun _ => none

theorem base_conc {g : Nat → Option (List AV)} {W : World} (hg : ∀ n c, g n = some c → ∃ vs, GL (I0 W) W c vs ∧ Lies (I0 W) W n 0 vs) : Conc g noR (I0 W) [] W :=
  ⟨fun _ h => absurd rfl h, fun _ h => by simp at h, fun _ _ h => by simp [noR] at h, fun _ _ _ _ _ h => by simp at h, fun _ _ _ h => by simp at h, fun _ _ h => by simp at h,
    fun _ _ hb => ⟨hb, fun ⟨_, _, h, _⟩ => by simp at h⟩, hg⟩

theorem Good.below {ρ : Rho} {I : Imm} {W : World} {ρ' : Rho} {I' : Imm} {H' : Heap} {W' : World} (g : Good ρ I [] W ρ' I' H' W') : Below W.heap.size W W' :=
  ⟨g.os, g.tape, g.out, g.size, fun b hb => g.block b hb fun _ => noMut⟩

/-- A law that holds: it returns true. -/
theorem calls_of_law {P : Program} {G : Env P} {f : FuncId} {avs : List AV} {W : World} {args : Array Value} (hc : Conc G.g noR (I0 W) [] W) (hr : RV noR (I0 W) W avs args.toList)
    (h : HCall G f avs (.ret (.bool true) [])) : Calls P f args W fun e W' => e = .returned (.bool true) ∧ Below W.heap.size W W' := by
  have := h.call noR (I0 W) W args.toList hc hr
  rw [Array.toArray_toList] at this
  refine this.mono ?_
  rintro e W' ⟨y, rfl, ρ', I', v', H', g, c', hr', hv⟩
  obtain ⟨rfl, rfl⟩ := hv
  exact ⟨by rw [rel_bool.1 hr'], g.below⟩

theorem glob_row {P : Program} {W : World} {name : String} {k : IntKind} {zs : List Int} {g : Nat} {c : List AV} (hg : P.globalNamed name = some g) (h : Lib.TabIs P W name k zs)
    (hc : ∀ ρ I w, RL ρ I w c (zs.map fun z => Value.int k z)) (hf : gfree c = true := by rfl) : ∃ vs, GL (I0 W) W c vs ∧ Lies (I0 W) W g 0 vs := by
  refine ⟨_, ⟨hc _ _ _, gtyp_of hf⟩, fun i x hx => ?_⟩
  unfold Lib.TabIs World.var? at h
  rw [hg] at h
  simp only [Option.bind_some] at h
  split at h
  · rename_i cs el fr hh
    simp only [Option.some.injEq] at h
    subst h
    refine ⟨?_, (Array.getElem?_eq_some_iff.1 hh).1⟩
    simp only [World.cell?, hh, Nat.zero_add]
    simpa using hx
  · simp at h

section
variable {H : Type} {enc : TypeId × Value → H} {P : Program} {W : World} {b0 base : Nat} {sp : Nat → Bool} {held : Bool} {r : Reach}

theorem wf_u8 {n : Int} (h : (Lit.int .u8 n).wf = true) : ∃ x : UInt8, n = x.toNat := by
  simp only [Lit.wf, Bool.and_eq_true, decide_eq_true_eq] at h
  have e1 : IntKind.u8.min = 0 := rfl
  have e2 : IntKind.u8.max = 255 := rfl
  rw [e1, e2] at h
  exact ⟨UInt8.ofNat n.toNat, by simp only [UInt8.toNat_ofNat']; omega⟩

theorem wf_i64 {n : Int} (h : (Lit.int .i64 n).wf = true) : -9223372036854775808 ≤ n ∧ n ≤ 9223372036854775807 := by
  simp only [Lit.wf, Bool.and_eq_true, decide_eq_true_eq] at h
  have e1 : IntKind.i64.min = -9223372036854775808 := rfl
  have e2 : IntKind.i64.max = 9223372036854775807 := rfl
  rw [e1, e2] at h
  exact h

theorem v8_of : ∀ {cs : List Value}, (∀ v ∈ cs, ∃ n : Int, v = .int .u8 n ∧ (Lit.int .u8 n).wf = true) → ∃ l : List UInt8, l.length = cs.length ∧ cs = v8 l
  | [], _ => ⟨[], rfl, rfl⟩
  | v :: cs, h => by
    obtain ⟨l, h1, h2⟩ := v8_of (cs := cs) fun v hv => h v (by simp [hv])
    obtain ⟨n, rfl, hn⟩ := h v (by simp)
    obtain ⟨x, rfl⟩ := wf_u8 hn
    exact ⟨x :: l, by simp [h1], by rw [h2]; rfl⟩

theorem cells_of_arr {t e n : Nat} {q : IntKind} {fuel : Nat} {cs : List Value} {x : DataW H × List MemPlace} (ht : P.underlying t = some (.array n e)) (he : P.underlying e = some (.int q)) (hce : P.cellsOf e = 1) (hct : P.cellsOf t = n)
    (h : DataW.trod enc P W base sp held fuel t cs = some x) : cs.length = n ∧ ∀ v ∈ cs, ∃ m : Int, v = .int q m ∧ (Lit.int q m).wf = true := by
  cases fuel with
  | zero => simp [DataW.trod] at h
  | succ fuel =>
    simp only [DataW.trod, ht, hce, hct, Nat.mul_one] at h
    split at h
    · rename_i hl
      obtain ⟨xs, hm, hx⟩ := Option.map_eq_some_iff.1 h
      refine ⟨hl, fun v hv => ?_⟩
      obtain ⟨i, hi, rfl⟩ := List.getElem_of_mem hv
      obtain ⟨b, hb, hf⟩ := Lib.mapM_at hm i i (by rw [List.getElem?_range (by omega)])
      obtain ⟨z, hc, _, hz⟩ := DataW.trod_int he hf
      have h1 : cs[i]? = some (.int q z) := by
        have := congrArg (·[0]?) hc
        simpa [List.getElem?_take, List.getElem?_drop] using this
      rw [List.getElem?_eq_getElem hi] at h1
      exact ⟨z, by simpa using h1, hz⟩
    · simp at h

/-- An array of bytes that comes in. -/
theorem open_arr8 {t e n : Nat} {v : Value} {d : DataW H} {p : List MemPlace} (ht : P.underlying t = some (.array n e)) (he : P.underlying e = some (.int .u8)) (hce : P.cellsOf e = 1) (hct : P.cellsOf t = n)
    (hval : Value.okWide P W r b0 t v) (hd : DataW.Trod enc P W base sp held t v d p) : ∃ l : List UInt8, l.length = n ∧ ∀ ρ I w, rel ρ I w (.b8 n l) v := by
  simp only [Value.okWide, ht] at hval
  obtain ⟨cs, rfl, h2, _⟩ := hval
  obtain ⟨fuel, hf⟩ := hd
  obtain ⟨h3, h4⟩ := cells_of_arr ht he hce hct hf
  obtain ⟨l, h5, h6⟩ := v8_of h4
  exact ⟨l, by rw [h5, h3], fun ρ I w => rel_b8.2 ⟨cs, rfl, h6, by rw [h5, h3]⟩⟩

/-- An int that comes in. -/
theorem open_i64 {t : Nat} {v : Value} {d : DataW H} {p : List MemPlace} (ht : P.underlying t = some (.int .i64)) (hval : Value.okWide P W r b0 t v) (hd : DataW.Trod enc P W base sp held t v d p) :
    ∃ n : Int, (-9223372036854775808 ≤ n ∧ n ≤ 9223372036854775807) ∧ ∀ ρ I w, rel ρ I w (.int .i64 n) v := by
  obtain ⟨n, rfl, _, _, hn⟩ := open_int ht hval hd
  exact ⟨n, wf_i64 hn, fun _ _ _ => rel_int.2 rfl⟩

/-- A byte that comes in. -/
theorem open_u8 {t : Nat} {v : Value} {d : DataW H} {p : List MemPlace} (ht : P.underlying t = some (.int .u8)) (hval : Value.okWide P W r b0 t v) (hd : DataW.Trod enc P W base sp held t v d p) :
    ∃ x : UInt8, True ∧ ∀ ρ I w, rel ρ I w (.u8 x) v := by
  obtain ⟨n, rfl, _, _, hn⟩ := open_int ht hval hd
  obtain ⟨x, rfl⟩ := wf_u8 hn
  exact ⟨x, trivial, fun _ _ _ => rel_u8.2 rfl⟩

/-- A text that comes in. -/
theorem open_str {t : Nat} {v : Value} {d : DataW H} {p : List MemPlace} (ht : P.underlying t = some .string) (hval : Value.okWide P W r b0 t v) (hd : DataW.Trod enc P W base sp held t v d p) :
    ∃ s : List UInt8, s.length ≤ maxLen ∧ ∀ ρ I w, rel ρ I w (.str s) v := by
  obtain ⟨s, rfl, _, _, hs⟩ := open_string ht hval hd
  exact ⟨s.data.toList, by rw [Array.length_toList]; exact hs, fun _ _ _ => rel_str.2 (by simp)⟩

/-- Rows of one form. -/
theorem RL_map {α : Type} {f : α → AV} {ρ : Rho} {I : Imm} {w : World} {k : Nat} (g : Nat → List Value) : ∀ (n i : Nat), (∀ j, i ≤ j → j < i + n → ∃ x : α, R ρ I w (f x) (g j) ∧ (g j).length = k) →
    ∃ l : List α, l.length = n ∧ RL ρ I w (l.map f) ((List.range' i n).flatMap g)
  | 0, _, _ => ⟨[], rfl, rfl⟩
  | n + 1, i, h => by
    obtain ⟨x, h1, h2⟩ := h i (Nat.le_refl _) (by omega)
    obtain ⟨l, h3, h4⟩ := RL_map g n (i + 1) fun j hj hj' => h j (by omega) (by omega)
    refine ⟨x :: l, by simp [h3], ?_⟩
    rw [List.range'_succ, List.flatMap_cons, List.map_cons]
    exact ⟨_, _, rfl, h1, h4⟩

/-- A slice that comes in. -/
theorem open_rows {α : Type} (f : α → AV) {k : Nat} (hk : ∀ x, szA (f x) = k) (hpos : 0 < k) {t e : Nat} (ht : P.underlying t = some (.slice e)) (hce : P.cellsOf e = k)
    (hel : ∀ fuel cs x, DataW.trod enc P W base sp held fuel e cs = some x → cs.length = k → ∃ x : α, R noR (I0 W) W (f x) cs) {v : Value} {d : DataW H} {p : List MemPlace}
    (hval : Value.okWide P W r b0 t v) (hd : DataW.Trod enc P W base sp held t v d p) : ∃ l : List α, l.length ≤ maxLen ∧ rel noR (I0 W) W (.vec false k (l.map f)) v := by
  obtain ⟨a, len, cap, rfl⟩ := okWide_slice ht hval
  obtain ⟨fuel, hf⟩ := hd
  rcases open_slice ht hf with ⟨h0, _⟩ | ⟨a', len', cap', m, n, D, Pl, h0, _, hl, hm, hmm, _, hx⟩
  · simp only [Value.cells, List.cons.injEq, Value.slice.injEq, and_true] at h0
    obtain ⟨rfl, rfl, rfl⟩ := h0
    exact ⟨[], by simp, rel_vec.2 ⟨by simp, [], by simp [RL], none, 0, by simp, by simp, by simp, .inl (by simp)⟩⟩
  · simp only [Value.cells, List.cons.injEq, Value.slice.injEq, and_true] at h0
    obtain ⟨rfl, rfl, rfl⟩ := h0
    have hlm : len ≤ m := by rw [hmm]; split <;> omega
    let g : Nat → List Value := fun i => (W.cells? base (a'.add (i * P.cellsOf e)) (P.cellsOf e)).getD []
    obtain ⟨l, h1, h2⟩ := RL_map (f := f) (ρ := noR) (I := I0 W) (w := W) (k := k) g len 0 fun j _ hj => by
      obtain ⟨cs', k1, k2⟩ := hx j (by omega)
      have k3 := (World.cells?_some k1).2.1
      rw [hce] at k3
      obtain ⟨x, k4⟩ := hel n cs' _ k2 k3
      have : g j = cs' := by simp [g, k1]
      exact ⟨x, by rw [this]; exact k4, by rw [this]; exact k3⟩
    refine ⟨l, by omega, rel_vec.2 ⟨?_, _, h2, some a', cap, by rw [List.length_map, h1], by rw [List.length_map, h1]; exact hl, by simp, ?_⟩⟩
    · intro b hb
      obtain ⟨x, _, rfl⟩ := List.mem_map.1 hb
      exact hk x
    · rcases Nat.eq_zero_or_pos len with hz | hz
      · exact .inl (by rw [List.length_map, h1, hz])
      · have cell : ∀ i, i < len → ∀ j, j < k → W.cell? (a'.add (i * k + j)) = (g i)[j]? := by
          intro i hi j hj
          obtain ⟨cs', k1, k2⟩ := hx i (by omega)
          have k3 := (World.cells?_some k1).2.2 j (by rw [hce]; exact hj)
          have : g i = cs' := by simp [g, k1]
          rw [this, ← k3, hce, add_add]
        have hg : ∀ i, i < len → (g i).length = k := by
          intro i hi
          obtain ⟨cs', k1, k2⟩ := hx i (by omega)
          have k3 := (World.cells?_some k1).2.1
          rw [hce] at k3
          simp [g, k1, k3]
        have h00 : ∃ y, W.cell? (a'.add 0) = some y := by
          have := cell 0 hz 0 hpos
          rw [Nat.zero_mul, Nat.zero_add] at this
          exact ⟨(g 0)[0]'(by rw [hg 0 hz]; exact hpos), by rw [this]; simp [hg 0 hz, hpos]⟩
        obtain ⟨y, hy⟩ := h00
        have hspot : a'.spot = none := by
          have := World.cell?_spot hy
          simpa [Addr.add] using this
        obtain ⟨b, off, spot⟩ := a'
        simp only at hspot
        subst hspot
        have hadd : ∀ n, (⟨b, off, none⟩ : Addr).add n = ⟨b, off + n, none⟩ := addr_add b off
        have hb : b < W.heap.size := by
          rw [hadd] at hy
          unfold World.cell? at hy
          split at hy
          · rename_i hq; exact (Array.getElem?_eq_some_iff.1 hq).1
          · simp at hy
        refine .inr ⟨b, off, rfl, hb, fun i x hi => ⟨?_, hb⟩⟩
        -- the i-th of all cells
        have get : ∀ (n s i : Nat) (x : Value), (∀ j, s ≤ j → j < s + n → (g j).length = k) → ((List.range' s n).flatMap g)[i]? = some x → i / k < n ∧ (g (s + i / k))[i % k]? = some x := by
          intro n
          induction n with
          | zero => intro s i x _ h; simp at h
          | succ n ih =>
            intro s i x hgl h
            rw [List.range'_succ, List.flatMap_cons] at h
            have hs := hgl s (Nat.le_refl _) (by omega)
            rcases Nat.lt_or_ge i k with hik | hik
            · rw [List.getElem?_append_left (by omega)] at h
              rw [Nat.div_eq_of_lt hik, Nat.mod_eq_of_lt hik]
              exact ⟨by omega, h⟩
            · rw [List.getElem?_append_right (by omega), hs] at h
              obtain ⟨q1, q2⟩ := ih (s + 1) (i - k) x (fun j hj hj' => hgl j (by omega) (by omega)) h
              have e1 : i / k = (i - k) / k + 1 := by
                have : i = (i - k) + k := by omega
                conv => lhs; rw [this]
                rw [Nat.add_div_right _ hpos]
              have e2 : i % k = (i - k) % k := by
                have : i = (i - k) + k := by omega
                conv => lhs; rw [this]
                rw [Nat.add_mod_right]
              rw [e1, e2]
              exact ⟨by omega, by rw [show s + ((i - k) / k + 1) = s + 1 + (i - k) / k by omega]; exact q2⟩
        obtain ⟨q1, q2⟩ := get len 0 i x (fun j _ hj => hg j (by omega)) hi
        rw [Nat.zero_add] at q2
        have := cell (i / k) q1 (i % k) (Nat.mod_lt _ hpos)
        rw [q2, hadd] at this
        rw [show off + i = off + (i / k * k + i % k) by rw [Nat.mul_comm, Nat.div_add_mod]]
        exact this

/-- Bytes that come in. -/
theorem open_vec8 {t e : Nat} (ht : P.underlying t = some (.slice e)) (he : P.underlying e = some (.int .u8)) (hce : P.cellsOf e = 1) {v : Value} {d : DataW H} {p : List MemPlace}
    (hval : Value.okWide P W r b0 t v) (hd : DataW.Trod enc P W base sp held t v d p) : ∃ l : List UInt8, l.length ≤ maxLen ∧ rel noR (I0 W) W (.vec8 false l) v := by
  obtain ⟨l, h1, h2⟩ := open_rows (α := UInt8) (W := W) AV.u8 (k := 1) (fun _ => rfl) Nat.one_pos ht hce (fun fuel cs x h hl => by
    obtain ⟨n, h3, _, h4⟩ := DataW.trod_int he h
    obtain ⟨y, rfl⟩ := wf_u8 h4
    exact ⟨y, h3⟩) hval hd
  refine ⟨l, h1, rel_vec8.2 ?_⟩
  obtain ⟨_, vs, h3, h4⟩ := rel_vec.1 h2
  have : ∀ (l : List UInt8) (vs : List Value), RL noR (I0 W) W (l.map AV.u8) vs → vs = v8 l := by
    intro l
    induction l with
    | nil => intro vs h; exact h
    | cons x l ih =>
      intro vs h
      obtain ⟨ys, zs, rfl, h5, h6⟩ := RL_cons.1 h
      rw [ih zs h6]
      cases h5
      rfl
  rw [this l vs h3, List.length_map] at h4
  exact h4

/-- All arguments read behind the call as they did, if nothing below the heap's old size has turned. -/
theorem trodAll_kept {W' : World} (hl : laidOutB P = true) (hb : Below W.heap.size W W') {sp' : Nat → Bool} : ∀ {ts : List TypeId} {vs : List Value} {ds : List (DataW H)} {ps : List MemPlace},
    (∀ t ∈ ts, P.readableRec t = true ∧ t < P.types.size) → DataW.TrodAll enc P W 0 (fun _ => true) true ts vs ds ps → (∀ p ∈ ps, p.block < W.heap.size) → (∀ p ∈ ps, sp' p.block = true) → DataW.TrodAll enc P W' 0 sp' true ts vs ds ps
  | [], [], [], _, _, h, _, _ => h
  | t :: ts, v :: vs, d :: ds, ps, ht, ⟨p, q, h1, h2, e⟩, hlt, hs => by
    obtain ⟨k1, k2⟩ := ht t (by simp)
    refine ⟨p, q, WideElems.Trod_stays hl k1 k2 h1 (fun x hx => hb.same (hlt x (by rw [e]; simp [hx]))) (fun x hx => hs x (by rw [e]; simp [hx])), ?_, e⟩
    exact trodAll_kept hl hb (fun t h => ht t (by simp [h])) h2 (fun x hx => hlt x (by rw [e]; simp [hx])) (fun x hx => hs x (by rw [e]; simp [hx]))

/-- What a law's statement asks behind the call, where it has returned true and nothing old has turned. -/
theorem post_of_true {f : Func} {s : ChangeSpec} {apart fresh handsOn again : Bool} {W' : World} {args : Array Value} {ds gs : List (DataW H)} {before : List MemPlace} {tb : TypeId}
    (hW : DataW.Whole enc P f.params.toList s.vars apart W args.toList ds gs before) (hv : s.vars = []) (hfn : s.fn H (ds ++ gs) = { results := [.lit (.bool true)], args := ds })
    (hres : f.resultTypes = #[tb]) (hb : P.underlying tb = some .bool) (hl : laidOutB P = true) (hrd : ∀ t ∈ f.params.toList, P.readableRec t = true ∧ t < P.types.size) (hbelow : Below W.heap.size W W') :
    s.post enc P f apart fresh handsOn again W args (.bool true) W' := by
  have hW' := hW
  obtain ⟨pa, pv, h1, h2, rfl, h4, h5⟩ := hW
  rw [hv] at h2
  obtain ⟨rfl, rfl⟩ := trodVars_none h2
  have hlt : ∀ p ∈ pa, p.block < W.heap.size := fun p hp => hW'.lt p (by simp [hp])
  have hold : ∀ q ∈ pa ++ ([] : List MemPlace), (fun b => decide (b < W.heap.size)) q.block = true := fun q hq => by simpa using hlt q (by simpa using hq)
  have ha : ∀ sp' : Nat → Bool, (∀ q ∈ pa, sp' q.block = true) → DataW.TrodAll enc P W' 0 sp' true f.params.toList args.toList (s.fn H (ds ++ [])).args pa := fun sp' hs => by
    rw [hfn]; exact trodAll_kept hl hbelow hrd h1 hlt hs
  have hr : ∀ (b : Nat) (sp' : Nat → Bool) (hd : Bool), DataW.TrodAll enc P W' b sp' hd f.resultTypes.toList ((Value.bool true).resultList f.resultTypes.size) (s.fn H (ds ++ [])).results [] := fun b sp' hd => by
    rw [hfn, hres]; exact trodAll_mk1 (shut_bool hb _)
  have hg : ∀ sp' : Nat → Bool, DataW.TrodVars enc P W' sp' s.vars (s.fn H (ds ++ [])).vars [] := fun sp' => by
    rw [hfn, hv]; rfl
  refine ⟨ds, [], pa ++ [], [], pa, [], hW', hr _ _ _, ha _ (fun q hq => hold q (by simpa using hq)), hg _, World.keptBut_mono (fun q hq => ⟨hq, .inr (by simpa using hq)⟩) (hbelow.frame (· ∈ pa ++ [])), fun _ => ?_⟩
  refine ⟨ok_one hres rfl (okWide_bool_mk hb _), _, _, ([] ++ pa) ++ [], ⟨[] ++ pa, [], trodAll_append (ha _ fun _ _ => rfl) (hr _ _ _), hg _, rfl, ?_, ?_⟩, ?_⟩
  · intro b off hq
    have hq' : MemPlace.cell b off ∈ pa := by simpa using hq
    rw [hbelow.frozen (hlt _ hq')]
    exact h4 b off (by simpa using hq')
  · intro hh
    simpa using h5 hh
  · intro q hq _
    simpa using hq
end
end
end Go.V
