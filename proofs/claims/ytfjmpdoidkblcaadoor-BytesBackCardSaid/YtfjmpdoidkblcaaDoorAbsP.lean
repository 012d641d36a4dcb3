/- The abstract layer, part P: from a given statement to a contract: arguments opened, what is asked behind the call. -/
import Derived.Test.YtfjmpdoidkblcaaDoorAbsM
import Derived.ProofKit
import Derived.OpenShut
import Derived.Carry
import Derived.Deep.DeepHandedRow
import Derived.Lib.LaidTab
set_option linter.unusedSimpArgs false
set_option linter.unusedVariables false
namespace Go.Ab
open Go Go.ChangeShapes Go.WideShapes Go.RowKit

def I0 (W : World) : Imm := fun b _ => b < W.heap.size
def noR : Rho := fun _ => none

theorem base_conc {G : Glob} {W : World} (hg : ∀ g c, G.g g = some c → ∃ vs, relL noR (I0 W) W c vs ∧ Lies (I0 W) W g 0 vs) : Conc G noR (I0 W) [] W :=
  ⟨fun _ h => absurd rfl h, fun _ h => by simp at h, fun _ _ h => by simp [noR] at h, fun _ _ _ _ _ h => by simp at h, fun _ _ _ h => by simp at h, fun _ _ _ h => by simp at h,
    fun _ _ hb => ⟨hb, fun ⟨_, _, h, _⟩ => by simp at h⟩, hg⟩

theorem noMut {ρ : Rho} {b o : Nat} : ¬ Mut ρ ([] : Heap) b o := fun ⟨_, _, h, _⟩ => by simp at h

theorem Good.below {ρ : Rho} {I : Imm} {W : World} {ρ' : Rho} {I' : Imm} {H' : Heap} {W' : World} (g : Good ρ I [] W ρ' I' H' W') : Below W.heap.size W W' :=
  ⟨g.os, g.tape, g.out, g.size, fun b hb => g.block b hb fun _ => noMut⟩

theorem calls_of_fcall {P : Program} {G : Glob} {f : FuncId} {avs : List AV} {x : Value} {v : AV} {W : World} {args : Array Value} (hc : Conc G noR (I0 W) [] W) (hr : relL noR (I0 W) W avs args.toList)
    (h : FCall P G f avs v) (hv : ∀ ρ I w y, rel ρ I w v y → y = x) : Calls P f args W fun e W' => e = .returned x ∧ Below W.heap.size W W' := by
  have := h.2.2 noR (I0 W) W args.toList hc hr
  rw [Array.toArray_toList] at this
  refine this.mono ?_
  rintro e W' ⟨y, rfl, ρ', I', H', v', g, c', hr', rfl, rfl⟩
  exact ⟨by rw [hv _ _ _ _ hr'], g.below⟩

theorem glob_row {P : Program} {W : World} {name : String} {k : IntKind} {zs : List Int} {g : Nat} {c : List AV} (hg : P.globalNamed name = some g) (h : Lib.TabIs P W name k zs)
    (hc : ∀ ρ I w, relL ρ I w c (zs.map fun z => Value.int k z)) : ∃ vs, relL noR (I0 W) W c vs ∧ Lies (I0 W) W g 0 vs := by
  refine ⟨_, hc _ _ _, fun i x hx => ?_⟩
  unfold Lib.TabIs World.var? at h
  rw [hg] at h
  simp only [Option.bind_some] at h
  split at h
  · rename_i cs el fr hh
    simp only [Option.some.injEq] at h
    subst h
    refine ⟨?_, (Array.getElem?_eq_some_iff.1 hh).1⟩
    simp only [World.cell?, hh, Nat.zero_add]
    simpa using hx
  · simp at h

section
variable {H : Type} {enc : TypeId × Value → H} {P : Program} {W : World} {b0 base : Nat} {sp : Nat → Bool} {held : Bool} {r : Reach}

theorem relL_u8_of {ρ : Rho} {I : Imm} {w : World} : ∀ {cs : List Value}, (∀ v ∈ cs, ∃ n : Int, v = .int .u8 n ∧ (Lit.int .u8 n).wf = true) → ∃ l : List UInt8, l.length = cs.length ∧ ∀ ρ I w, relL ρ I w (u8s l) cs
  | [], _ => ⟨[], rfl, fun _ _ _ => by simp [u8s, relL]⟩
  | v :: cs, h => by
    obtain ⟨l, h1, h2⟩ := relL_u8_of (ρ := ρ) (I := I) (w := w) (cs := cs) fun v hv => h v (by simp [hv])
    obtain ⟨n, rfl, hn⟩ := h v (by simp)
    simp only [Lit.wf, Bool.and_eq_true, decide_eq_true_eq] at hn
    have e1 : IntKind.u8.min = 0 := rfl
    have e2 : IntKind.u8.max = 255 := rfl
    rw [e1, e2] at hn
    refine ⟨UInt8.ofNat n.toNat :: l, by simp [h1], fun ρ I w => relL_cons.2 ⟨_, _, rfl, ?_, h2 _ _ _⟩⟩
    simp only [rel, Value.int.injEq, true_and, UInt8.toNat_ofNat']
    omega

theorem cells_of_arr {t e n : Nat} {q : IntKind} {fuel : Nat} {cs : List Value} {x : DataW H × List MemPlace} (ht : P.underlying t = some (.array n e)) (he : P.underlying e = some (.int q)) (hce : P.cellsOf e = 1) (hct : P.cellsOf t = n)
    (h : DataW.trod enc P W base sp held fuel t cs = some x) : cs.length = n ∧ ∀ v ∈ cs, ∃ m : Int, v = .int q m ∧ (Lit.int q m).wf = true := by
  cases fuel with
  | zero => simp [DataW.trod] at h
  | succ fuel =>
    simp only [DataW.trod, ht, hce, hct, Nat.mul_one] at h
    split at h
    · rename_i hl
      obtain ⟨xs, hm, hx⟩ := Option.map_eq_some_iff.1 h
      refine ⟨hl, fun v hv => ?_⟩
      obtain ⟨i, hi, rfl⟩ := List.getElem_of_mem hv
      obtain ⟨b, hb, hf⟩ := Lib.mapM_at hm i i (by rw [List.getElem?_range (by omega)])
      obtain ⟨z, hc, _, hz⟩ := DataW.trod_int he hf
      have h1 : cs[i]? = some (.int q z) := by
        have := congrArg (·[0]?) hc
        simpa [List.getElem?_take, List.getElem?_drop] using this
      rw [List.getElem?_eq_getElem hi] at h1
      exact ⟨z, by simpa using h1, hz⟩
    · simp at h

/-- An array of bytes that comes in. -/
theorem open_arr8 {t e n : Nat} {v : Value} {d : DataW H} {p : List MemPlace} (ht : P.underlying t = some (.array n e)) (he : P.underlying e = some (.int .u8)) (hce : P.cellsOf e = 1) (hct : P.cellsOf t = n)
    (hval : Value.okWide P W r b0 t v) (hd : DataW.Trod enc P W base sp held t v d p) : ∃ l : List UInt8, l.length = n ∧ ∀ ρ I w, rel ρ I w (.agg (u8s l)) v := by
  simp only [Value.okWide, ht] at hval
  obtain ⟨cs, rfl, h2, _⟩ := hval
  obtain ⟨fuel, hf⟩ := hd
  obtain ⟨h3, h4⟩ := cells_of_arr ht he hce hct hf
  obtain ⟨l, h5, h6⟩ := relL_u8_of (ρ := noR) (I := I0 W) (w := W) h4
  exact ⟨l, by rw [h5, h3], fun ρ I w => ⟨cs, rfl, h6 _ _ _⟩⟩

/-- An int that comes in. -/
theorem open_i64 {t : Nat} {v : Value} {d : DataW H} {p : List MemPlace} (ht : P.underlying t = some (.int .i64)) (hval : Value.okWide P W r b0 t v) (hd : DataW.Trod enc P W base sp held t v d p) :
    ∃ n : Int, (-9223372036854775808 ≤ n ∧ n ≤ 9223372036854775807) ∧ ∀ ρ I w, rel ρ I w (.int .i64 n) v := by
  obtain ⟨n, rfl, _, _, hn⟩ := open_int ht hval hd
  refine ⟨n, ?_, fun _ _ _ => rfl⟩
  have e1 : IntKind.i64.min = -9223372036854775808 := rfl
  have e2 : IntKind.i64.max = 9223372036854775807 := rfl
  simp only [Lit.wf, Bool.and_eq_true, decide_eq_true_eq] at hn
  rw [e1, e2] at hn
  omega

/-- All arguments read behind the call as they did, if nothing below the heap's old size has turned. -/
theorem trodAll_kept {W' : World} (hl : laidOutB P = true) (hb : Below W.heap.size W W') {sp' : Nat → Bool} : ∀ {ts : List TypeId} {vs : List Value} {ds : List (DataW H)} {ps : List MemPlace},
    (∀ t ∈ ts, P.readableRec t = true ∧ t < P.types.size) → DataW.TrodAll enc P W 0 (fun _ => true) true ts vs ds ps → (∀ p ∈ ps, p.block < W.heap.size) → (∀ p ∈ ps, sp' p.block = true) → DataW.TrodAll enc P W' 0 sp' true ts vs ds ps
  | [], [], [], _, _, h, _, _ => h
  | t :: ts, v :: vs, d :: ds, ps, ht, ⟨p, q, h1, h2, e⟩, hlt, hs => by
    obtain ⟨k1, k2⟩ := ht t (by simp)
    refine ⟨p, q, WideElems.Trod_stays hl k1 k2 h1 (fun x hx => hb.same (hlt x (by rw [e]; simp [hx]))) (fun x hx => hs x (by rw [e]; simp [hx])), ?_, e⟩
    exact trodAll_kept hl hb (fun t h => ht t (by simp [h])) h2 (fun x hx => hlt x (by rw [e]; simp [hx])) (fun x hx => hs x (by rw [e]; simp [hx]))

/-- What a law's statement asks behind the call, where it has returned true and nothing old has turned. -/
theorem post_of_true {f : Func} {s : ChangeSpec} {apart fresh handsOn again : Bool} {W' : World} {args : Array Value} {ds gs : List (DataW H)} {before : List MemPlace} {tb : TypeId}
    (hW : DataW.Whole enc P f.params.toList s.vars apart W args.toList ds gs before) (hv : s.vars = []) (hfn : s.fn H (ds ++ gs) = { results := [.lit (.bool true)], args := ds })
    (hres : f.resultTypes = #[tb]) (hb : P.underlying tb = some .bool) (hl : laidOutB P = true) (hrd : ∀ t ∈ f.params.toList, P.readableRec t = true ∧ t < P.types.size) (hbelow : Below W.heap.size W W') :
    s.post enc P f apart fresh handsOn again W args (.bool true) W' := by
  have hW' := hW
  obtain ⟨pa, pv, h1, h2, rfl, h4, h5⟩ := hW
  rw [hv] at h2
  obtain ⟨rfl, rfl⟩ := trodVars_none h2
  have hlt : ∀ p ∈ pa, p.block < W.heap.size := fun p hp => hW'.lt p (by simp [hp])
  have hold : ∀ q ∈ pa ++ ([] : List MemPlace), (fun b => decide (b < W.heap.size)) q.block = true := fun q hq => by simpa using hlt q (by simpa using hq)
  have ha : ∀ sp' : Nat → Bool, (∀ q ∈ pa, sp' q.block = true) → DataW.TrodAll enc P W' 0 sp' true f.params.toList args.toList (s.fn H (ds ++ [])).args pa := fun sp' hs => by
    rw [hfn]; exact trodAll_kept hl hbelow hrd h1 hlt hs
  have hr : ∀ (b : Nat) (sp' : Nat → Bool) (hd : Bool), DataW.TrodAll enc P W' b sp' hd f.resultTypes.toList ((Value.bool true).resultList f.resultTypes.size) (s.fn H (ds ++ [])).results [] := fun b sp' hd => by
    rw [hfn, hres]; exact trodAll_mk1 (shut_bool hb _)
  have hg : ∀ sp' : Nat → Bool, DataW.TrodVars enc P W' sp' s.vars (s.fn H (ds ++ [])).vars [] := fun sp' => by
    rw [hfn, hv]; rfl
  refine ⟨ds, [], pa ++ [], [], pa, [], hW', hr _ _ _, ha _ (fun q hq => hold q (by simpa using hq)), hg _, World.keptBut_mono (fun q hq => ⟨hq, .inr (by simpa using hq)⟩) (hbelow.frame (· ∈ pa ++ [])), fun _ => ?_⟩
  refine ⟨ok_one hres rfl (okWide_bool_mk hb _), _, _, ([] ++ pa) ++ [], ⟨[] ++ pa, [], trodAll_append (ha _ fun _ _ => rfl) (hr _ _ _), hg _, rfl, ?_, ?_⟩, ?_⟩
  · intro b off hq
    have hq' : MemPlace.cell b off ∈ pa := by simpa using hq
    rw [hbelow.frozen (hlt _ hq')]
    exact h4 b off (by simpa using hq')
  · intro hh
    simpa using h5 hh
  · intro q hq _
    simpa using hq
end
end Go.Ab
