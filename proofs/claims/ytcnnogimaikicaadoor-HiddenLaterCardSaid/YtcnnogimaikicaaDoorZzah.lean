import Derived.Test.YtcnnogimaikicaaDoorZzae
import Derived.ProofKit
import Derived.OpenShut
import Derived.Carry
import Derived.Deep.DeepHandedRow
import Derived.Lib.LaidTab
import Derived.Deep.Slices
import Derived.ChangeMaps5
set_option linter.unusedSimpArgs false
set_option linter.unusedVariables false
namespace Go.V
open Go Go.ChangeShapes Go.WideShapes Go.RowKit Go.ChangeMaps Go.Deep
noncomputable section
def I0 (W : World) : Imm := fun b _ => b < W.heap.size
def noR : Rho := fun _ => none
theorem base_conc {g : Nat → Option (List AV)} {W : World} (hg : ∀ n c, g n = some c → ∃ vs, GL (I0 W) W c vs ∧ Lies (I0 W) W n 0 vs) : Conc g noR (I0 W) [] W :=
 ⟨fun _ h => absurd rfl h, fun _ h => by simp at h, fun _ _ h => by simp [noR] at h, fun _ _ _ _ _ h => by simp at h, fun _ _ _ h => by simp at h, fun _ _ h => by simp at h,
  fun _ _ hb => ⟨hb, fun ⟨_, _, h, _⟩ => by simp at h⟩, hg⟩
theorem Good.below {ρ : Rho} {I : Imm} {W : World} {ρ' : Rho} {I' : Imm} {H' : Heap} {W' : World} (g : Good ρ I [] W ρ' I' H' W') : Below W.heap.size W W' :=
 ⟨g.os, g.tape, g.out, g.size, fun b hb => g.block b hb fun _ => noMut⟩
theorem calls_of_law {P : Program} {G : Env P} {f : FuncId} {avs : List AV} {W : World} {args : Array Value} (hc : Conc G.g noR (I0 W) [] W) (hr : RV noR (I0 W) W avs args.toList)
  (h : HCall G f avs (.ret (.bool true) [])) : Calls P f args W fun e W' => e = .returned (.bool true) ∧ Below W.heap.size W W' := by
 have := h.call noR (I0 W) W args.toList hc hr
 rw [Array.toArray_toList] at this
 refine this.mono ?_
 rintro e W' ⟨y, rfl, ρ', I', v', H', g, c', hr', hv⟩
 obtain ⟨rfl, rfl⟩ := hv
 exact ⟨by rw [rel_bool.1 hr'], g.below⟩
section
variable {H : Type} {enc : TypeId × Value → H} {P : Program} {W : World} {b0 base : Nat} {sp : Nat → Bool} {held : Bool} {r : Reach}
theorem wf_i64 {n : Int} (h : (Lit.int .i64 n).wf = true) : -9223372036854775808 ≤ n ∧ n ≤ 9223372036854775807 := by
 simp only [Lit.wf, Bool.and_eq_true, decide_eq_true_eq] at h
 have e1 : IntKind.i64.min = -9223372036854775808 := rfl
 have e2 : IntKind.i64.max = 9223372036854775807 := rfl
 rw [e1, e2] at h
 exact h
theorem open_i64 {t : Nat} {v : Value} {d : DataW H} {p : List MemPlace} (ht : P.underlying t = some (.int .i64)) (hval : Value.okWide P W r b0 t v) (hd : DataW.Trod enc P W base sp held t v d p) :
  ∃ n : Int, (-9223372036854775808 ≤ n ∧ n ≤ 9223372036854775807) ∧ ∀ ρ I w, rel ρ I w (.int .i64 n) v := by
 obtain ⟨n, rfl, _, _, hn⟩ := open_int ht hval hd
 exact ⟨n, wf_i64 hn, fun _ _ _ => rel_int.2 rfl⟩
theorem trodAll_kept {W' : World} (hl : laidOutB P = true) (hb : Below W.heap.size W W') {sp' : Nat → Bool} : ∀ {ts : List TypeId} {vs : List Value} {ds : List (DataW H)} {ps : List MemPlace},
  (∀ t ∈ ts, P.readableRec t = true ∧ t < P.types.size) → DataW.TrodAll enc P W 0 (fun _ => true) true ts vs ds ps → (∀ p ∈ ps, p.block < W.heap.size) → (∀ p ∈ ps, sp' p.block = true) → DataW.TrodAll enc P W' 0 sp' true ts vs ds ps
 | [], [], [], _, _, h, _, _ => h
 | t :: ts, v :: vs, d :: ds, ps, ht, ⟨p, q, h1, h2, e⟩, hlt, hs => by
  obtain ⟨k1, k2⟩ := ht t (by simp)
  refine ⟨p, q, WideElems.Trod_stays hl k1 k2 h1 (fun x hx => hb.same (hlt x (by rw [e]; simp [hx]))) (fun x hx => hs x (by rw [e]; simp [hx])), ?_, e⟩
  exact trodAll_kept hl hb (fun t h => ht t (by simp [h])) h2 (fun x hx => hlt x (by rw [e]; simp [hx])) (fun x hx => hs x (by rw [e]; simp [hx]))
theorem post_of_true {f : Func} {s : ChangeSpec} {apart fresh handsOn again : Bool} {W' : World} {args : Array Value} {ds gs : List (DataW H)} {before : List MemPlace} {tb : TypeId}
  (hW : DataW.Whole enc P f.params.toList s.vars apart W args.toList ds gs before) (hv : s.vars = []) (hfn : s.fn H (ds ++ gs) = { results := [.lit (.bool true)], args := ds })
  (hres : f.resultTypes = #[tb]) (hb : P.underlying tb = some .bool) (hl : laidOutB P = true) (hrd : ∀ t ∈ f.params.toList, P.readableRec t = true ∧ t < P.types.size) (hbelow : Below W.heap.size W W') :
  s.post enc P f apart fresh handsOn again W args (.bool true) W' := by
 have hW' := hW
 obtain ⟨pa, pv, h1, h2, rfl, h4, h5⟩ := hW
 rw [hv] at h2
 obtain ⟨rfl, rfl⟩ := trodVars_none h2
 have hlt : ∀ p ∈ pa, p.block < W.heap.size := fun p hp => hW'.lt p (by simp [hp])
 have hold : ∀ q ∈ pa ++ ([] : List MemPlace), (fun b => decide (b < W.heap.size)) q.block = true := fun q hq => by simpa using hlt q (by simpa using hq)
 have ha : ∀ sp' : Nat → Bool, (∀ q ∈ pa, sp' q.block = true) → DataW.TrodAll enc P W' 0 sp' true f.params.toList args.toList (s.fn H (ds ++ [])).args pa := fun sp' hs => by
  rw [hfn]; exact trodAll_kept hl hbelow hrd h1 hlt hs
 have hr : ∀ (b : Nat) (sp' : Nat → Bool) (hd : Bool), DataW.TrodAll enc P W' b sp' hd f.resultTypes.toList ((Value.bool true).resultList f.resultTypes.size) (s.fn H (ds ++ [])).results [] := fun b sp' hd => by
  rw [hfn, hres]; exact trodAll_mk1 (shut_bool hb _)
 have hg : ∀ sp' : Nat → Bool, DataW.TrodVars enc P W' sp' s.vars (s.fn H (ds ++ [])).vars [] := fun sp' => by
  rw [hfn, hv]; rfl
 refine ⟨ds, [], pa ++ [], [], pa, [], hW', hr _ _ _, ha _ (fun q hq => hold q (by simpa using hq)), hg _, World.keptBut_mono (fun q hq => ⟨hq, .inr (by simpa using hq)⟩) (hbelow.frame (·∈ pa ++ [])), fun _ => ?_⟩
 refine ⟨ok_one hres rfl (okWide_bool_mk hb _), _, _, ([] ++ pa) ++ [], ⟨[] ++ pa, [], trodAll_append (ha _ fun _ _ => rfl) (hr _ _ _), hg _, rfl, ?_, ?_⟩, ?_⟩
 ·intro b off hq
  have hq' : MemPlace.cell b off ∈ pa := by simpa using hq
  rw [hbelow.frozen (hlt _ hq')]
  exact h4 b off (by simpa using hq')
 ·intro hh
  simpa using h5 hh
 ·intro q hq _
  simpa using hq
end
end
end Go.V
namespace Go.V
open Go Go.ChangeShapes Go.WideShapes Go.RowKit
structure Raw3 where
 kind : Int
 a : Int
 b : Int
 text : List UInt8
def inI (n : Int) : Prop := -9223372036854775808 ≤ n ∧ n ≤ 9223372036854775807
def Raw3.ok (r : Raw3) : Prop := inI r.kind ∧ inI r.a ∧ inI r.b ∧ r.text.length ≤ maxLen
section
variable {H : Type} {enc : TypeId × Value → H} {P : Program} {W : World} {b0 base : Nat} {sp : Nat → Bool} {held : Bool} {r : Reach}
end
def Raw3.cells (r : Raw3) : List AV := [.int .i64 r.kind, .int .i64 r.a, .int .i64 r.b, .str r.text]
end Go.V