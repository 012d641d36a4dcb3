import Derived.Test.YtehaohfglolljaaGreatDoorZzaj
import Derived.Test.YtehaohfglolljaaGreatDoorZzai
import Derived.Lib.Split
import Derived.Lib.Join
import Derived.Lib.Strings
set_option linter.unusedSimpArgs false
set_option linter.unusedVariables false
namespace Go.V
open Go Go.RowKit
noncomputable section
section
variable {P : Program} {G : Env P}
theorem HCall.of_same {f : FuncId} {args : List AV} {v : AV} (hp : zw args = true) (hv : z1b v = true)
  (h : ∀ (I : Imm) (w : World) (vs : List Value), Conc G.g (fun _ => none) I [] w → RV (fun _ => none) I w args vs → Calls P f vs.toArray w fun e w' => (∃ x, e = .returned x ∧ rel (fun _ => none) I w v x) ∧ w' = w) : HCall G f args (.ret v []) := by
 refine ⟨hp, by simp [Out.okB, z3p _ hv], fun ρ I w vs c r => ?_⟩
 have hnone : ∀ id, ρ id = none := fun id => Classical.byContradiction fun hn => by have := c.dom id hn; simp at this
 obtain rfl : ρ = fun _ => none := funext hnone
 refine (h I w vs c r).mono ?_;rintro e w' ⟨⟨x, rfl, hx⟩, rfl⟩;exact ⟨x, rfl, _, I, v, [], Good.refl _ _ _ _, c, hx, rfl, rfl⟩
theorem HCall.of_below {f : FuncId} {args : List AV} {v : AV} (hp : zw args = true) (hv : z1b v = true)
  (h : ∀ (I : Imm) (w : World) (vs : List Value), Conc G.g (fun _ => none) I [] w → RV (fun _ => none) I w args vs → Calls P f vs.toArray w fun e w' => (∃ x, e = .returned x ∧ ∀ I' w'', rel (fun _ => none) I' w'' v x) ∧ Below w.heap.size w w') : HCall G f args (.ret v []) := by
 refine ⟨hp, by simp [Out.okB, z3p _ hv], fun ρ I w vs c r => ?_⟩
 have hnone : ∀ id, ρ id = none := fun id => Classical.byContradiction fun hn => by have := c.dom id hn; simp at this
 obtain rfl : ρ = fun _ => none := funext hnone
 refine (h I w vs c r).mono ?_;rintro e w' ⟨⟨x, rfl, hx⟩, hb⟩;obtain ⟨g1, g2, g3⟩ := zqc c hb.size (fun b hb' => hb.block b hb') hb.os hb.tape hb.output
 exact ⟨x, rfl, _, I, v, [], g1, g2, hx _ _, rfl, rfl⟩
theorem zzq {ρ : Rho} {I : Imm} {w : World} : ∀ l : List (List UInt8), RL ρ I w (l.map AV.str) (l.map fun s => Value.string ⟨s.toArray⟩)
 | [] => rfl
 | s :: l => z12.2 ⟨[.string ⟨s.toArray⟩], _, rfl, rfl, zzq l⟩
theorem zjb : ∀ l : List (List UInt8), zw (l.map AV.str) = true
 | [] => rfl
 | _ :: l => zjb l
theorem HCall.z1my {f : FuncId} {args : List AV} {l : List (List UInt8)} (hp : zw args = true)
  (h : ∀ (I : Imm) (w : World) (vs : List Value), Conc G.g (fun _ => none) I [] w → RV (fun _ => none) I w args vs → ∃ el, Calls P f vs.toArray w fun e w' => e = .returned (.slice (some ⟨w.heap.size, 0, none⟩) l.length l.length) ∧ w' = w.alloc (.cells (l.map fun s => Value.string ⟨s.toArray⟩).toArray el)) :
  HCall G f args (.ret (.vec true 1 (l.map AV.str)) []) := by
 have hv : z1b (.vec true 1 (l.map AV.str)) = true := zjb l;refine ⟨hp, by simp [Out.okB, z3p _ hv], fun ρ I w vs c r => ?_⟩
 have hnone : ∀ id, ρ id = none := fun id => Classical.byContradiction fun hn => by have := c.dom id hn; simp at this
 obtain rfl : ρ = fun _ => none := funext hnone
 obtain ⟨el, hc⟩ := h I w vs c r;refine hc.mono ?_;rintro e w' ⟨rfl, rfl⟩;have hnew := z69 w (.cells (l.map fun s => Value.string ⟨s.toArray⟩).toArray el)
 obtain ⟨g1, g2, g3⟩ := zma (w' := w.alloc (.cells (l.map fun s => Value.string ⟨s.toArray⟩).toArray el)) c (by simp) (fun b hb => alloc_old w _ hb) (fun b o => b = w.heap.size) (fun b o h => by subst h; simp) rfl rfl rfl
 refine ⟨_, rfl, _, _, _, [], g1, g2, z2h.2 ⟨fun a ha => ?_, _, zzq l, some ⟨w.heap.size, 0, none⟩, l.length, by rw [List.length_map], by rw [List.length_map]; exact Nat.le_refl _, fun _ => by rw [List.length_map], .inr ⟨w.heap.size, 0, rfl, by simp, fun i x hx => ⟨?_, .inr rfl⟩⟩⟩, rfl, rfl⟩
 ·obtain ⟨s, _, rfl⟩ := List.mem_map.1 ha;rfl
 ·rw [Nat.zero_add, cell_of_heap hnew];exact hx
end
end
end Go.V