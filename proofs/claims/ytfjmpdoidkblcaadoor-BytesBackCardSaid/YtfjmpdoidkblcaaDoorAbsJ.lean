/- The abstract layer, part J: code walked through, and a function's body. -/
import Derived.Test.YtfjmpdoidkblcaaDoorAbsI
set_option linter.unusedSimpArgs false
set_option linter.unusedVariables false
namespace Go.Ab
open Go

section
variable {P : Program} {G : Glob} {H : Heap}

/-- Code without loops, walked through; a loop is left as it is. -/
def aw (P : Program) (G : Glob) : Code → (Exit → St → Prop) → St → Prop
  | .skip, Q, s => Q .normal s
  | .label _, Q, s => Q .normal s
  | .exit id, Q, s => Q (.exit id) s
  | .goto l, Q, s => Q (.goto l) s
  | .ret, Q, s => Q .ret s
  | .seq x y, Q, s => aw P G x (thenA (aw P G y Q) Q) s
  | .cond c x y, Q, s => ∃ b, evA G s.t c = .bool b ∧ (b = true → aw P G x Q s) ∧ (b = false → aw P G y Q s)
  | .block id c, Q, s => aw P G c (blockA id Q) s
  | .region _ ops false, Q, s => aops P G ops ops.toList s (Q .normal)
  | .region _ ops true, Q, s => P.follows .mixedOrders = true ∧ dops P G ops ops.toList s.H.length ⟨s.t, s.H ++ List.replicate (countAlloc ops) .res⟩ [] fun s' tr => indepB ops tr = true ∧ Q .normal s'
  | c, Q, s => Tri P G c Q s

theorem aw_sound : ∀ (c : Code) {Q : Exit → St → Prop} {s : St}, aw P G c Q s → Tri P G c Q s
  | .skip, _, _, h => Tri.skip h
  | .label _, _, _, h => Tri.label h
  | .exit _, _, _, h => Tri.exit h
  | .goto _, _, _, h => Tri.goto h
  | .ret, _, _, h => Tri.ret h
  | .seq x y, Q, s, h => Tri.seq ((aw_sound x h).mono fun e s' h' => by
      cases e with
      | normal => exact aw_sound y h'
      | _ => exact h')
  | .cond c x y, Q, s, ⟨b, h1, h2, h3⟩ => Tri.cond h1 (fun e => aw_sound x (h2 e)) (fun e => aw_sound y (h3 e))
  | .block id c, Q, s, h => Tri.block (aw_sound c h)
  | .region _ ops false, _, _, h => Tri.region h
  | .region _ ops true, _, _, ⟨hm, h⟩ => Tri.draw hm h
  | .loop c, _, _, h => h
  | .rangeFunc .., _, _, h => h
  | .scope _, _, _, h => h
  | .refuse _, _, _, h => h

/-- A function's body, walked through. -/
theorem ACall.of_body {f : FuncId} {fn : Func} {c : Code} (hf : P.funcs[f]? = some fn) (hb : fn.body = some c) {args : List AV} {R : AV → Heap → Prop}
    (h : aw P G c (aend P fn R) ⟨args ++ List.replicate (fn.ntmps - args.length) (.tup []), H⟩) : ACall P G f args H R := by
  intro ρ I w vs hc hr
  have hlen := relL_len hr
  refine calls_of_wp hf hb ?_
  refine wp_mono (aw_sound c h ρ I _ w hc ⟨?_, rfl⟩) ?_
  · simp only [Array.toList_append, Array.toList_replicate, List.size_toArray, ← hlen]
    exact relL_append hr (relL_replicate rel_undef _)
  · rintro e a' w' ⟨ρ', I', s', h1, h2, h3, h4, cnd, l, h5, h6, h7⟩
    obtain ⟨x, k1, k2⟩ := results_sound (p := (cnd, l)) h2 h3 h5 h6
    have post : a'.defers = [] ∧ ∃ v, (results fn a'.tmps).run P w' = .ok v w' ∧ ∃ y, Ending.returned v = .returned y ∧ Fin G ρ I H w y w' R :=
      ⟨h3.defers, x, k1, x, rfl, ρ', I', s'.H, _, h1, h2, k2, h7⟩
    rcases h4 with rfl | rfl
    · exact post
    · exact post

/-- A loop of so many rounds at most. -/
def awR (P : Program) (G : Glob) (c : Code) (Q : Exit → St → Prop) : Nat → St → Prop
  | 0, _ => False
  | n + 1, s => aw P G c (thenA (awR P G c Q n) Q) s

theorem Tri.rounds (n : Nat) {c : Code} {Q : Exit → St → Prop} {s : St} (h : awR P G c Q n s) : Tri P G (.loop c) Q s :=
  Tri.loop (fun m s => awR P G c Q m s) n h fun m s hm => by
    cases m with
    | zero => exact hm.elim
    | succ m =>
      refine (aw_sound c hm).mono fun e s' h => ?_
      cases e with
      | normal => exact ⟨m, Nat.lt_succ_self m, h⟩
      | _ => exact h

end
end Go.Ab
