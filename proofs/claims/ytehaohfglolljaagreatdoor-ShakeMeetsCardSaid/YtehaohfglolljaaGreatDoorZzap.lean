import Derived.Test.YtehaohfglolljaaGreatDoorZzaj
import Derived.Laws.Runes
set_option linter.unusedSimpArgs false
set_option linter.unusedVariables false
namespace Go.V
open Go
noncomputable section
section
variable {P : Program} (G : Env P)
def zak (op : Op) (ev : Operand → AV) : Option Eff :=
 match op with
 | .convert s d x => match G.ty s, G.ty d, ev x with
  | some ts, some td, .int _ n => match ts.kind, td.kind with
   | .int _, .string => some (.ck (decide (0 ≤ n) && decide (n < 128)) (.one true (.str [UInt8.ofNat n.toNat]) []))
   | _, _ => none
  | _, _, _ => none
 | _ => none
end
theorem z11r {n : Int} (h0 : 0 ≤ n) (h : n < 128) : Utf8.encode n = ⟨#[UInt8.ofNat n.toNat]⟩ := by
 have hv : Utf8.valid n = true := by
  unfold Utf8.valid;simp only [Bool.and_eq_true, Bool.or_eq_true, decide_eq_true_eq];omega
 have h2 : n.toNat < 128 := by omega
 unfold Utf8.encode;simp [hv, h2]
section
variable {P : Program} {G : Env P} {ρ : Rho} {I : Imm} {H : Heap} {w : World}
theorem zpc (c : Conc G.g ρ I H w) (ev : Operand → AV) (e : Operand → Value) (r : ∀ x, rel ρ I w (ev x) (e x)) (o : Oper) (E : Eff) (v : AV) (u : List (Nat × Ent)) (h : zak G o.op ev = some E) (hh : E.has v u) :
  EffOk G ρ I H w ((execOp e o).run P w) v u := by
 unfold zak at h
 split at h
 case h_2 => cases h
 rename_i s d x hop
 split at h
 case h_2 => cases h
 rename_i ts td k n hts htd hx;obtain ⟨js, ds, _, s2, _, _, s5, _⟩ := z1a hts;obtain ⟨jd, dd, _, d2, _, _, d5, _⟩ := z1a htd
 split at h
 case h_2 => cases h
 rename_i q hks hkd;rw [hkd] at d5;obtain rfl := TK.of_string d5;simp only [Option.some.injEq] at h;subst h;obtain ⟨h1, _, rfl, rfl⟩ := hh;simp only [Bool.and_eq_true, decide_eq_true_eq] at h1;have hv : e x = .int k n := by
  have := r x;rw [hx] at this;exact zj.1 this
 have hrun := run_convert_int_string (P := P) w s d k n (by rw [s2]; rfl) d2
 rw [z11r h1.1 h1.2] at hrun;refine ⟨.string ⟨#[UInt8.ofNat n.toNat]⟩, w, .inl ?_, ρ, I, Good.refl _ _ _ _, c, Mono.z1lu, zi.2 rfl⟩;simp only [execOp, hop, hv, Sem.run_bind, hrun, Result.andThen_ok];rfl
theorem zpo (op : Op) (ev ev' : Operand → AV) (he : ∀ x ∈ op.operands, ev' x = ev x) : zak G op ev' = zak G op ev := by
 cases op with
 | convert s d x => simp only [zak, he x (by simp [Op.operands])]
 | _ => rfl
end
def ROps.rune {P : Program} {G : Env P} (R : ROps G) : ROps G where
 f := fun op ev H nid => match R.f op ev H nid with
  | some E => some E
  | none => zak G op ev
 congr := fun op ev ev' H H' nid he hr => by rw [R.congr op ev ev' H H' nid he hr, zpo op ev ev' he]
 sound := fun ρ I H w c ev e r o nid E v u h hh => by
  split at h
  ·rename_i E' hE;simp only [Option.some.injEq] at h;subst h;exact R.sound ρ I H w c ev e r o nid E' v u hE hh
  ·exact zpc c ev e r o E v u h hh
 pre := R.pre
 preC := R.preC
 preR := R.preR
 preS := R.preS
def ROps.warm {P : Program} {G : Env P} (R : ROps G) : ROps G := { ROps.cold R with f := R.f, congr := R.congr, sound := R.sound }
end
end Go.V