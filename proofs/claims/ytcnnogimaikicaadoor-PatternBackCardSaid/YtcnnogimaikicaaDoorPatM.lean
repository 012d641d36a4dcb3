/- Patterns of handshakes: arguments. -/
import Derived.Test.YtcnnogimaikicaaDoorPatT

set_option linter.unusedSimpArgs false
set_option linter.unusedVariables false
namespace Go.Pat
open Go Go.V
theorem okTs_pure {x : AV} (h : okTs x = true) : pureA x = true := by
  cases x with
  | vec b k l =>
    simp only [okTs, Bool.and_eq_true, List.all_eq_true] at h
    have key : ∀ m : List AV, (∀ a ∈ m, okIs a = true) → pureL m = true := by
      intro m
      induction m with
      | nil => intro _; rfl
      | cons a m ih => intro h; rw [pureL, ih (fun b hb => h b (by simp [hb])), okIs_pure (h a (by simp))]; rfl
    exact key l h.2
  | _ => first | rfl | simp [okTs] at h
theorem pureL_app : ∀ (l m : List AV), pureL (l ++ m) = (pureL l && pureL m)
  | [], m => by simp [pureL]
  | a :: l, m => by rw [List.cons_append, pureL, pureL, pureL_app l m, Bool.and_assoc]
mutual
theorem pureA_fl : ∀ a : AV, pureL (flA a) = pureA a
  | .agg l => pureL_fl l
  | .any | .raw _ | .int _ _ | .u8 _ | .u32 _ | .u64 _ | .bool _ | .str _ | .b8 _ _ | .w32 _ _ | .w64 _ _ | .n64 _ _ | .ptr _ _ | .pix _ _ _ _ | .sl _ _ _ _ | .vec8 _ _ | .vec _ _ _ | .vecr _ _ _ _ | .slv _ _ _ _ | .vp _ _ | .vpx _ _ _ _ | .fn _ _ _ | .tup _ => Bool.and_true _
theorem pureL_fl : ∀ l : List AV, pureL (flL l) = pureL l
  | [] => rfl
  | a :: l => by
    show pureL (flA a ++ flL l) = (pureA a && pureL l)
    rw [pureL_app, pureA_fl a, pureL_fl l]
end
theorem okPat_pure : ∀ {l : List AV}, okPat (flL l) = true → pureA (.agg l) = true := by
  have key : ∀ m : List AV, okPat m = true → pureL m = true
    | [.str b, .bool lt, x, y, z, t], h => by
      simp only [okPat, Bool.and_eq_true] at h
      simp [pureL, pureA, okIs_pure h.1, okIs_pure h.2.1, okIs_pure h.2.2.1, okTs_pure h.2.2.2]
  intro l h
  show pureL l = true
  rw [← pureL_fl]
  exact key _ h
end Go.Pat
