import Derived.Test.YtfjmpdoidkblcaaDoorGLawF
set_option linter.unusedSimpArgs false
set_option linter.unusedVariables false
namespace Go.Proofs.YtfjmpdoidkblcaaDoor
open Go Go.V Go.Fld
set_option maxRecDepth 100000

theorem hprm : (57896044618658097711785492504343953926634992332820282019728792003956564819949 : Nat) = prm := rfl

theorem fieldGroups_c (x y z : List UInt8) : HCall Tryd.E 4 [.b8 32 x, .b8 32 y, .b8 32 z] (.ret (.bool true) []) := by
  refine HCall.of_walk (R := RR) (T := T6) (fun _ _ => .unroll 6) 5 rfl rfl ?_
  rw [groups_eq]
  have e1 : ((fromN x + fromN y) % prm + fromN z) % prm = (fromN x + (fromN y + fromN z) % prm) % prm := by rw [Nat.mod_add_mod, Nat.add_mod_mod, Nat.add_assoc]
  have e2 : (fromN x + fromN y) % prm = (fromN y + fromN x) % prm := by rw [Nat.add_comm]
  have e3 : (fromN x * fromN y % prm * fromN z) % prm = (fromN x * (fromN y * fromN z % prm)) % prm := by rw [Nat.mod_mul_mod, Nat.mul_mod_mod, Nat.mul_assoc]
  have e4 : (fromN x * fromN y) % prm = (fromN y * fromN x) % prm := by rw [Nat.mul_comm]
  simp only [hprm, nv_from, nv_mod, ltN_mod, ltN_from, Bool.and_self, cnd_true, cond_true, e1, e3, beq_self_eq_true]
  rw [e2, e4]
  simp only [beq_self_eq_true, ite2, cond_true]
  exact ⟨rfl, rfl⟩

theorem fieldSpreads_c (x y z : List UInt8) : HCall Tryd.E 5 [.b8 32 x, .b8 32 y, .b8 32 z] (.ret (.bool true) []) := by
  refine HCall.of_walk (R := RR) (T := T6) (fun _ _ => .unroll 6) 5 rfl rfl ?_
  rw [spreads_eq]
  have e1 : ((fromN x + fromN y) % prm * fromN z) % prm = (fromN x * fromN z % prm + fromN y * fromN z % prm) % prm := by rw [Nat.mod_mul_mod, Nat.add_mul, Nat.add_mod]
  have e2 : ((fromN x + prm - fromN y) % prm + fromN y) % prm = fromN x := by
    have hx := fromN_lt x
    have hy := fromN_lt y
    rw [Nat.mod_add_mod, show fromN x + prm - fromN y + fromN y = fromN x + prm by omega, Nat.add_mod_right, Nat.mod_eq_of_lt hx]
  simp only [hprm, nv_from, nv_mod, ltN_mod, ltN_from, Bool.and_self, cnd_true, cond_true, e1, e2, beq_self_eq_true, ite2]
  exact ⟨rfl, rfl⟩

end Go.Proofs.YtfjmpdoidkblcaaDoor
