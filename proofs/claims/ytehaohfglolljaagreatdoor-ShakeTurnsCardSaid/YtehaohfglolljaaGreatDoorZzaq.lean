import Derived.Test.YtehaohfglolljaaGreatDoorZzak
import Derived.Test.YtehaohfglolljaaGreatDoorZzao
import Derived.Test.YtehaohfglolljaaGreatDoorZzap
import Derived.Test.YtehaohfglolljaaGreatDoorZzal
import Derived.Test.YtehaohfglolljaaGreatDoorZzag
import Derived.Test.YtehaohfglolljaaGreatDoorZzah
import Derived.KernelRfl
set_option linter.unusedSimpArgs false
set_option linter.unusedVariables false
namespace Go.Proofs.YtehaohfglolljaaGreatDoor
open Go Go.V Go.Pat
set_option maxRecDepth 100000
noncomputable def R3 : ROps Tryz.E := ROps.warm (ROps.rune R2)
noncomputable def D4 : Ctr Tryz.E := Ctr.or Ustr D2
theorem show_w : wAll (fun x : AV × List UInt8 => walkH Tryz.E R3 D4.C (fun _ _ => .unroll 8) 4 33 [x.1] [] (leafB (qShow x.2))) tabS = tAll tabS := by kernel_rfl
theorem show_c (p : Pat) (h : p ∈ tabP) : HCall Tryz.E 33 [patL p] (.ret (.tup [.str (showP p), .int .i64 0]) []) :=
 HCall.of_walkB (R := R3) (T := D4) (fun _ _ => .unroll 8) 4 (by rw [pureL, pure_patL]; rfl) (wAll_of show_w _ (tabS_mem h)) (fun _ => qShow_le) rfl
theorem parse_w : wAll (fun x : List UInt8 × Pat => walkH Tryz.E R3 D4.C (fun _ _ => .unroll 8) 4 17 [.str x.1] [] (leafB (qWith x.2))) tabN = tAll tabN := by kernel_rfl
theorem parse_c (p : Pat) (h : p ∈ tabP) : HCall Tryz.E 17 [.str (showP p)] (.ret (.tup [patV p, .int .i64 0]) []) :=
 HCall.of_walkB (R := R3) (T := D4) (fun _ _ => .unroll 8) 4 rfl (wAll_of parse_w (showP p, p) (tabN_mem h)) (fun _ => qWith_le) rfl
theorem parse_l (p : Pat) (h : p ∈ tabP) : HCall Tryz.E 17 [.str (showP p)] (.ret (.tup [patL p, .int .i64 0]) []) :=
 HCall.weak (parse_c p h) (leV_tup (leRV_cons (leV_patL _) (leRV_cons (leV.refl _) leRV_nil))) (refsA_pure _ (by show pureL _ = true; rw [pureL, pure_patL]; rfl) _)
end Go.Proofs.YtehaohfglolljaaGreatDoor
namespace Go.Proofs.YtehaohfglolljaaGreatDoor
open Go Go.V Go.Pat Go.Fld Go.Pol Go.Cha Go.Bla
set_option maxRecDepth 100000
noncomputable def N1 : Ctr Tryz.E := (D3.add 33 (fun
  | [.agg l] => bif okPat (flL l) && tabP.contains (rdPat (flL l)) then some (true, .ret (.tup [.str (showP (rdPat (flL l))), .int .i64 0]) []) else none
  | _ => none) (by
   intro args pre out h hp
   split at h
   ·rename_i l
    cases hb : okPat (flL l) && tabP.contains (rdPat (flL l)) with
    | false => rw [hb] at h; simp at h
    | true =>
     rw [hb] at h
     simp only [cond_true, Option.some.injEq, Prod.mk.injEq] at h
     obtain ⟨rfl, rfl⟩ := h
     simp only [Bool.and_eq_true, List.contains_iff_mem] at hb
     exact HCall.args (show_c _ hb.2) (by rw [pureL, okPat_pure hb.1]; rfl) fun ρ I w vs r => by
      obtain ⟨x, xs, rfl, k1, k2⟩ := RV_cons.1 r
      exact RV_cons.2 ⟨x, xs, rfl, leV_patL _ _ _ _ _ (arg_pat hb.1 _ _ _ _ k1), k2⟩
   ·simp at h)).add 17 (fun
  | [.str s] => match findN s tabNA with
   | some o => some (true, o)
   | none => none
  | _ => none) (by
   intro args pre out h hp
   split at h
   ·split at h
    ·rename_i s o ho
     simp only [Option.some.injEq, Prod.mk.injEq] at h
     obtain ⟨rfl, rfl⟩ := h
     rw [tabNA_eq] at ho
     obtain ⟨p, h1, rfl, rfl⟩ := findN_some ho
     exact parse_l p h1
    ·simp at h
   ·simp at h)
noncomputable def MT : Ctr Tryz.E := ((Ctr.nil Tryz.E).add 22 (fun
  | [.b8 32 k, .b8 32 u] => some (tellS k u, .ret (.tup [.b8 32 (dhS k u), .bool true]) [])
  | _ => none) (by
   intro args pre out h hp
   split at h
   ·simp only [Option.some.injEq, Prod.mk.injEq] at h
    obtain ⟨rfl, rfl⟩ := h
    have := multM_c
    rename_i k u
    have h2 := multM_c k u
    rw [hp] at h2
    exact h2
   ·simp at h)).or M1
noncomputable def RSh : ROps Tryz.E := ROps.lit (ROps.cold0 Tryz.E).aggc
noncomputable def KS (k : Int) : Ctr Tryz.E := Ctr.or (pickK N1 k) (Ctr.or MT Y4)
end Go.Proofs.YtehaohfglolljaaGreatDoor
namespace Go.Proofs.YtehaohfglolljaaGreatDoor
open Go Go.V Go.Pat Go.Shk
set_option maxRecDepth 100000
def ks4 (p : Pat) (a b c d : List UInt8) : List (List UInt8) := List.take p.psks.length [a, b, c, d]
theorem ks4_of {p : Pat} {l : List (List UInt8)} (h : l.length = p.psks.length) (hp : p.psks.length ≤ 4) : ∃ a b c d, l = ks4 p a b c d := by
 unfold ks4
 rw [← h] at hp ⊢
 match l, hp with
 | [], _ => exact ⟨[], [], [], [], rfl⟩
 | [a], _ => exact ⟨a, [], [], [], rfl⟩
 | [a, b], _ => exact ⟨a, b, [], [], rfl⟩
 | [a, b, c], _ => exact ⟨a, b, c, [], rfl⟩
 | [a, b, c, d], _ => exact ⟨a, b, c, d, rfl⟩
 | _ :: _ :: _ :: _ :: _ :: _, h => simp at h
theorem tab_psks {p : Pat} (h : p ∈ tabP) : p.psks.length ≤ 4 := by
 have : (tabP.all fun p => decide (p.psks.length ≤ 4)) = true := by kernel_rfl
 have := List.all_eq_true.1 this p h
 simpa using this
theorem fresh_w (f de sh has knows saw : Bool) (turn used : Int) (n : UInt64) (ck ch hs own fr their newest a b c d : List UInt8) :
  wAll (fun p : Pat => walkH Tryz.E RSh (Ctr.nil Tryz.E).C (fun _ _ => .unroll 8) 4 24 [shA p ⟨f, turn, de, sh, ck, n, ch, hs, own, fr, has, their, knows, newest, saw, ks4 p a b c d, used⟩] [] (leafE (shA p ⟨f, turn, de, sh, ck, n, ch, hs, own, fr, has, their, knows, newest, saw, ks4 p a b c d, used⟩))) tabP
  = tAllE (fun p : Pat => shA p ⟨f, turn, de, sh, ck, n, ch, hs, own, fr, has, their, knows, newest, saw, ks4 p a b c d, used⟩) tabP := by kernel_rfl
theorem fresh_c (p : Pat) (s : Sh) (hp : p ∈ tabP) (hl : s.psks.length = p.psks.length) : HCall Tryz.E 24 [shA p s] (.ret (shA p s) []) := by
 obtain ⟨f, turn, de, sh, ck, n, ch, hs, own, fr, has, their, knows, newest, saw, psks, used⟩ := s
 obtain ⟨a, b, c, d, rfl⟩ := ks4_of hl (tab_psks hp)
 refine HCall.of_walkE (R := RSh) (T := Ctr.nil Tryz.E) (fun _ _ => .unroll 8) 4 (by rw [pureL, pure_shA]; rfl) ?_ (pure_shA _ _)
 exact wAllE_of (fresh_w f de sh has knows saw turn used n ck ch hs own fr their newest a b c d) p hp
theorem sh_args {l : List AV} {p : Pat} {s : Sh} {r r' : List AV} (h : rdSh (flL l) = some (p, s)) (hr : ∀ ρ I w vs, RV ρ I w r vs → RV ρ I w r' vs) : ∀ ρ I w vs, RV ρ I w (.agg l :: r) vs → RV ρ I w (shA p s :: r') vs := leRV_cons (rdSh_le h) hr
noncomputable def F1 : Ctr Tryz.E := (Ctr.nil Tryz.E).add 24 (fun
  | [.agg l] => match rdSh (flL l) with
   | some (p, s) => bif tabP.contains p && s.psks.length == p.psks.length then some (true, .ret (shA p s) []) else none
   | none => none
  | _ => none) (by
   intro args pre out h hp
   split at h
   ·rename_i l
    split at h
    ·rename_i p s hs
     cases hb : tabP.contains p && s.psks.length == p.psks.length with
     | false => rw [hb] at h; simp at h
     | true =>
      rw [hb] at h
      simp only [cond_true, Option.some.injEq, Prod.mk.injEq] at h
      obtain ⟨rfl, rfl⟩ := h
      simp only [Bool.and_eq_true, List.contains_iff_mem, beq_iff_eq] at hb
      exact HCall.args (fresh_c p s hb.1 hb.2) (by rw [pureL, rdSh_pure hs]; rfl) (sh_args hs leRV_nil)
    ·simp at h
   ·simp at h)
noncomputable def KW : Ctr Tryz.E := Ctr.or F1 (Ctr.or N1 (Ctr.or MT Y4))
def noR (p : Pat) (s : Sh) (e : Int) : AV := .tup [shA p s, .vec8 true [], .int .i64 e]
theorem pure_noR (p : Pat) (s : Sh) (e : Int) : pureA (noR p s e) = true := by
 show pureL [shA p s, .vec8 true [], .int .i64 e] = true
 rw [pureL, pure_shA]; rfl
theorem rdead_w (f fb sh has knows saw : Bool) (turn used : Int) (n : UInt64) (ck ch hs own fr their newest a b c d bb : List UInt8) :
  wAll (fun p : Pat => walkH Tryz.E RSh KW.C (fun _ _ => .unroll 8) 4 10 [shA p ⟨f, turn, true, sh, ck, n, ch, hs, own, fr, has, their, knows, newest, saw, ks4 p a b c d, used⟩, .vec8 fb bb] [] (leafE (noR p ⟨f, turn, true, sh, ck, n, ch, hs, own, fr, has, their, knows, newest, saw, ks4 p a b c d, used⟩ 9))) tabP
  = tAllE (fun p : Pat => noR p ⟨f, turn, true, sh, ck, n, ch, hs, own, fr, has, their, knows, newest, saw, ks4 p a b c d, used⟩ 9) tabP := by kernel_rfl
theorem rturn_w (fb sh has knows saw : Bool) (used : Int) (n : UInt64) (ck ch hs own fr their newest a b c d bb : List UInt8) :
  wAll (fun p : Pat => walkH Tryz.E RSh KW.C (fun _ _ => .unroll 8) 4 10 [shA p ⟨!p.late, 0, false, sh, ck, n, ch, hs, own, fr, has, their, knows, newest, saw, ks4 p a b c d, used⟩, .vec8 fb bb] [] (leafE (noR p ⟨!p.late, 0, false, sh, ck, n, ch, hs, own, fr, has, their, knows, newest, saw, ks4 p a b c d, used⟩ 9))) tabP
  = tAllE (fun p : Pat => noR p ⟨!p.late, 0, false, sh, ck, n, ch, hs, own, fr, has, their, knows, newest, saw, ks4 p a b c d, used⟩ 9) tabP := by kernel_rfl
theorem wturn_w (fb sh has knows saw : Bool) (used : Int) (n : UInt64) (ck ch hs own fr their newest a b c d bb sec : List UInt8) :
  wAll (fun p : Pat => walkH Tryz.E RSh KW.C (fun _ _ => .unroll 8) 4 8 [shA p ⟨p.late, 0, false, sh, ck, n, ch, hs, own, fr, has, their, knows, newest, saw, ks4 p a b c d, used⟩, .b8 32 sec, .vec8 fb bb] [] (leafE (noR p ⟨p.late, 0, false, sh, ck, n, ch, hs, own, fr, has, their, knows, newest, saw, ks4 p a b c d, used⟩ 9))) tabP
  = tAllE (fun p : Pat => noR p ⟨p.late, 0, false, sh, ck, n, ch, hs, own, fr, has, their, knows, newest, saw, ks4 p a b c d, used⟩ 9) tabP := by kernel_rfl
def tab7 : List Pat := [[78, 78], [78, 75], [88, 88], [73, 75], [88, 75], [75, 75], fallN].map fun s => withP s []
theorem rshort_w (fb sh has knows saw : Bool) (n : UInt64) (ck ch hs own fr their newest : List UInt8) :
  wAll (fun p : Pat => walkH Tryz.E RSh KW.C (fun _ _ => .unroll 8) 4 10 [shA p ⟨p.late, 0, false, sh, ck, n, ch, hs, own, fr, has, their, knows, newest, saw, [], 0⟩, .vec8 fb (List.replicate 31 0)] [] (leafE (noR p ⟨p.late, 0, true, sh, ck, n, ch, hs, own, fr, has, their, knows, newest, saw, [], 0⟩ 4))) tab7
  = tAllE (fun p : Pat => noR p ⟨p.late, 0, true, sh, ck, n, ch, hs, own, fr, has, their, knows, newest, saw, [], 0⟩ 4) tab7 := by kernel_rfl
theorem HCall.of_all {P : Program} {G : Env P} {R : ROps G} {T : Ctr G} (L : FuncId → Nat → LPlan) (n : Nat) {f : FuncId} {args : Pat → List AV} {w : Pat → AV} {l : List Pat} (h : wAll (fun p => walkH G R T.C L n f (args p) [] (leafE (w p))) l = tAllE w l) {p : Pat} (hp : p ∈ l) (ha : pureL (args p) = true) (hw : pureA (w p) = true) : HCall G f (args p) (.ret (w p) []) :=
 HCall.of_walkE L n ha (wAllE_of h p hp) hw
theorem rdead_c (p : Pat) (s : Sh) (fb : Bool) (b : List UInt8) (hp : p ∈ tabP) (hl : s.psks.length = p.psks.length) (hd : s.dead = true) :
  HCall Tryz.E 10 [shA p s, .vec8 fb b] (.ret (noR p s 9) []) := by
 obtain ⟨f, turn, de, sh, ck, n, ch, hs, own, fr, has, their, knows, newest, saw, psks, used⟩ := s
 obtain ⟨a1, b1, c1, d1, rfl⟩ := ks4_of hl (tab_psks hp)
 obtain rfl : de = true := hd
 have h := (rdead_w f fb sh has knows saw turn used n ck ch hs own fr their newest a1 b1 c1 d1 b)
 exact HCall.of_all _ _ h hp (by rw [pureL, pure_shA]; rfl) (pure_noR _ _ _)
theorem rturn_c (p : Pat) (s : Sh) (fb : Bool) (b : List UInt8) (hp : p ∈ tabP) (hl : s.psks.length = p.psks.length) (hd : s.dead = false) (ht : s.turn = 0) (hf : s.first = !p.late) :
  HCall Tryz.E 10 [shA p s, .vec8 fb b] (.ret (noR p s 9) []) := by
 obtain ⟨f, turn, de, sh, ck, n, ch, hs, own, fr, has, their, knows, newest, saw, psks, used⟩ := s
 obtain ⟨a1, b1, c1, d1, rfl⟩ := ks4_of hl (tab_psks hp)
 obtain rfl : de = false := hd
 obtain rfl : turn = 0 := ht
 obtain rfl : f = !p.late := hf
 have h := (rturn_w fb sh has knows saw used n ck ch hs own fr their newest a1 b1 c1 d1 b)
 exact HCall.of_all _ _ h hp (by rw [pureL, pure_shA]; rfl) (pure_noR _ _ _)
theorem wturn_c (p : Pat) (s : Sh) (k : List UInt8) (fb : Bool) (b : List UInt8) (hp : p ∈ tabP) (hl : s.psks.length = p.psks.length) (hd : s.dead = false) (ht : s.turn = 0) (hf : s.first = p.late) :
  HCall Tryz.E 8 [shA p s, .b8 32 k, .vec8 fb b] (.ret (noR p s 9) []) := by
 obtain ⟨f, turn, de, sh, ck, n, ch, hs, own, fr, has, their, knows, newest, saw, psks, used⟩ := s
 obtain ⟨a1, b1, c1, d1, rfl⟩ := ks4_of hl (tab_psks hp)
 obtain rfl : de = false := hd
 obtain rfl : turn = 0 := ht
 obtain rfl : f = p.late := hf
 have h := (wturn_w fb sh has knows saw used n ck ch hs own fr their newest a1 b1 c1 d1 b k)
 exact HCall.of_all _ _ h hp (by rw [pureL, pure_shA]; rfl) (pure_noR _ _ _)
theorem rshort_c (p : Pat) (s : Sh) (fb : Bool) (hp : p ∈ tab7) (hl : s.psks = []) (hu : s.used = 0) (hd : s.dead = false) (ht : s.turn = 0) (hf : s.first = p.late) :
  HCall Tryz.E 10 [shA p s, .vec8 fb (List.replicate 31 0)] (.ret (noR p { s with dead := true } 4) []) := by
 obtain ⟨f, turn, de, sh, ck, n, ch, hs, own, fr, has, their, knows, newest, saw, psks, used⟩ := s
 obtain rfl : psks = [] := hl
 obtain rfl : used = 0 := hu
 obtain rfl : de = false := hd
 obtain rfl : turn = 0 := ht
 obtain rfl : f = p.late := hf
 have h := (rshort_w fb sh has knows saw n ck ch hs own fr their newest)
 exact HCall.of_all _ _ h hp (by rw [pureL, pure_shA]; rfl) (pure_noR _ _ _)
def refR (p : Pat) (s : Sh) (b : List UInt8) : Option (Bool × Out) :=
 bif tabP.contains p && s.psks.length == p.psks.length then
  bif s.dead then some (true, .ret (noR p s 9) [])
  else bif s.turn == 0 && s.first == !p.late then some (true, .ret (noR p s 9) [])
  else bif s.turn == 0 && (s.first == p.late && (tab7.contains p && (s.psks.isEmpty && (s.used == 0 && b == List.replicate 31 0)))) then some (true, .ret (noR p { s with dead := true } 4) [])
  else none
 else none
def refW (p : Pat) (s : Sh) : Option (Bool × Out) :=
 bif tabP.contains p && s.psks.length == p.psks.length then
  bif !s.dead && (s.turn == 0 && s.first == p.late) then some (true, .ret (noR p s 9) [])
  else none
 else none
theorem refR_ok {p : Pat} {s : Sh} {fb : Bool} {b : List UInt8} {pre : Bool} {out : Out} (h : refR p s b = some (pre, out)) : HCall Tryz.E 10 [shA p s, .vec8 fb b] out := by
 unfold refR at h
 cases h0 : tabP.contains p && s.psks.length == p.psks.length with
 | false => rw [h0] at h; cases h
 | true =>
  rw [h0] at h
  simp only [Bool.and_eq_true, List.contains_iff_mem, beq_iff_eq] at h0
  simp only [cond_true] at h
  cases h1 : s.dead with
  | true =>
   rw [h1] at h
   simp only [cond_true, Option.some.injEq, Prod.mk.injEq] at h
   obtain ⟨rfl, rfl⟩ := h
   exact rdead_c p s fb b h0.1 h0.2 h1
  | false =>
   rw [h1] at h
   simp only [cond_false] at h
   cases h2 : s.turn == 0 && s.first == !p.late with
   | true =>
    rw [h2] at h
    simp only [cond_true, Option.some.injEq, Prod.mk.injEq] at h
    obtain ⟨rfl, rfl⟩ := h
    simp only [Bool.and_eq_true, beq_iff_eq] at h2
    exact rturn_c p s fb b h0.1 h0.2 h1 h2.1 h2.2
   | false =>
    rw [h2] at h
    simp only [cond_false] at h
    cases h3 : s.turn == 0 && (s.first == p.late && (tab7.contains p && (s.psks.isEmpty && (s.used == 0 && b == List.replicate 31 0)))) with
    | false => rw [h3] at h; cases h
    | true =>
     rw [h3] at h
     simp only [cond_true, Option.some.injEq, Prod.mk.injEq] at h
     obtain ⟨rfl, rfl⟩ := h
     simp only [Bool.and_eq_true, beq_iff_eq, List.contains_iff_mem, List.isEmpty_iff] at h3
     obtain ⟨g1, g2, g3, g4, g5, rfl⟩ := h3
     exact rshort_c p s fb g3 g4 g5 h1 g1 g2
noncomputable def F2 : Ctr Tryz.E := (F1.add 10 (fun
  | [.agg l, .vec8 _ b] => match rdSh (flL l) with
   | some (p, s) => refR p s b
   | none => none
  | _ => none) (by
   intro args pre out h hp
   split at h
   ·rename_i l fb b
    split at h
    ·rename_i p s hs
     exact HCall.args (refR_ok h) (by rw [pureL, rdSh_pure hs]; rfl) (sh_args hs fun _ _ _ _ h => h)
    ·simp at h
   ·simp at h)).add 8 (fun
  | [.agg l, .b8 32 k, .vec8 _ b] => match rdSh (flL l) with
   | some (p, s) => refW p s
   | none => none
  | _ => none) (by
   intro args pre out h hp
   split at h
   ·rename_i l k fb b
    split at h
    ·rename_i p s hs
     unfold refW at h
     cases h0 : tabP.contains p && s.psks.length == p.psks.length with
     | false => rw [h0] at h; cases h
     | true =>
      rw [h0] at h
      simp only [Bool.and_eq_true, List.contains_iff_mem, beq_iff_eq] at h0
      simp only [cond_true] at h
      cases h1 : !s.dead && (s.turn == 0 && s.first == p.late) with
      | false => rw [h1] at h; cases h
      | true =>
       rw [h1] at h
       simp only [cond_true, Option.some.injEq, Prod.mk.injEq] at h
       obtain ⟨rfl, rfl⟩ := h
       simp only [Bool.and_eq_true, beq_iff_eq, Bool.not_eq_true'] at h1
       exact HCall.args (wturn_c p s k fb b h0.1 h0.2 h1.1 h1.2.1 h1.2.2) (by rw [pureL, rdSh_pure hs]; rfl) (sh_args hs fun _ _ _ _ h => h)
    ·simp at h
   ·simp at h)
noncomputable def KT (k : Int) : Ctr Tryz.E := Ctr.or F2 (KS k)
end Go.Proofs.YtehaohfglolljaaGreatDoor
namespace Go.Proofs.YtehaohfglolljaaGreatDoor
open Go Go.V Go.Pat Go.Fld Go.Pol Go.Cha Go.Bla Go.Shk
set_option maxHeartbeats 0
set_option maxRecDepth 100000
theorem st0_eq (n : Int) (a b c : List UInt8) (K : AV → Heap → Prop) : walk Tryz.E RSh (KT 0).C (fun _ _ => .unroll 40) 9 5 [.int .i64 n, .b8 32 a, .b8 32 b, .b8 32 c] K = (
 let x0 : List UInt8 := (nameS (Pat.showP (Pat.withP [78, 78] [])))
 let x1 : Bool := leB ((List.length x0) + 0) 1000000
 let x2 : List UInt8 := (Bla.sumS (x0 ++ []))
 let x3 : List UInt8 := [0, 0, 0, 0, 0, 0, 0, 0, 0, 0, 0, 0, 0, 0, 0, 0, 0, 0, 0, 0, 0, 0, 0, 0, 0, 0, 0, 0, 0, 0, 0, 0]
 let x4 : List (List UInt8) := []
 cnd ((n % 6) == 0)
 (cnd (x1)
 (cnd (x1)
 (ite2 (cond true (true && (((Shk.Sh.ch (Shk.Sh.mk true 0 false false zero32' 0 x0 x2 a x3 false x3 false x3 false x4 0)) == x0) && (((Shk.Sh.hs (Shk.Sh.mk true 0 false false zero32' 0 x0 x2 a x3 false x3 false x3 false x4 0)) == x2) && true))) false)
 (ite2 (cond true (true && (((Shk.Sh.ch (Shk.Sh.mk false 0 false false zero32' 0 x0 x2 b x3 false x3 false x3 false x4 0)) == x0) && (((Shk.Sh.hs (Shk.Sh.mk false 0 false false zero32' 0 x0 x2 b x3 false x3 false x3 false x4 0)) == x2) && true))) false)
 (K (AV.bool true) [])
 (K (AV.bool false) []))
 (K (AV.bool false) []))))) := by kernel_rfl
theorem st1_eq (n : Int) (a b c : List UInt8) (K : AV → Heap → Prop) : walk Tryz.E RSh (KT 1).C (fun _ _ => .unroll 40) 9 5 [.int .i64 n, .b8 32 a, .b8 32 b, .b8 32 c] K = (
 let x0 : List UInt8 := (nameS (Pat.showP (Pat.withP [78, 75] [])))
 let x1 : Bool := leB ((List.length x0) + 0) 1000000
 let x2 : List UInt8 := (Bla.sumS (x0 ++ []))
 let x3 : Bool := leB ((List.length x2) + (List.length (pubS b))) 1000000
 let x4 : List UInt8 := (Bla.sumS (x2 ++ (pubS b)))
 let x5 : List UInt8 := [0, 0, 0, 0, 0, 0, 0, 0, 0, 0, 0, 0, 0, 0, 0, 0, 0, 0, 0, 0, 0, 0, 0, 0, 0, 0, 0, 0, 0, 0, 0, 0]
 let x6 : List (List UInt8) := []
 cnd ((n % 6) == 1)
 (cnd (x1)
 (cnd (x3)
 (cnd (x1)
 (cnd (x3)
 (ite2 (cond true (true && (((Shk.Sh.ch (Shk.Sh.mk true 0 false false zero32' 0 x0 x4 a x5 false (pubS b) true x5 false x6 0)) == x0) && (((Shk.Sh.hs (Shk.Sh.mk true 0 false false zero32' 0 x0 x4 a x5 false (pubS b) true x5 false x6 0)) == x4) && true))) false)
 (ite2 (cond true (true && (((Shk.Sh.ch (Shk.Sh.mk false 0 false false zero32' 0 x0 x4 b x5 false x5 false x5 false x6 0)) == x0) && (((Shk.Sh.hs (Shk.Sh.mk false 0 false false zero32' 0 x0 x4 b x5 false x5 false x5 false x6 0)) == x4) && true))) false)
 (K (AV.bool true) [])
 (K (AV.bool false) []))
 (K (AV.bool false) []))))))) := by kernel_rfl
theorem st2_eq (n : Int) (a b c : List UInt8) (K : AV → Heap → Prop) : walk Tryz.E RSh (KT 2).C (fun _ _ => .unroll 40) 9 5 [.int .i64 n, .b8 32 a, .b8 32 b, .b8 32 c] K = (
 let x0 : List UInt8 := (nameS (Pat.showP (Pat.withP [88, 88] [])))
 let x1 : Bool := leB ((List.length x0) + 0) 1000000
 let x2 : List UInt8 := (Bla.sumS (x0 ++ []))
 let x3 : List UInt8 := [0, 0, 0, 0, 0, 0, 0, 0, 0, 0, 0, 0, 0, 0, 0, 0, 0, 0, 0, 0, 0, 0, 0, 0, 0, 0, 0, 0, 0, 0, 0, 0]
 let x4 : List (List UInt8) := []
 cnd ((n % 6) == 2)
 (cnd (x1)
 (cnd (x1)
 (ite2 (cond true (true && (((Shk.Sh.ch (Shk.Sh.mk true 0 false false zero32' 0 x0 x2 a x3 false x3 false x3 false x4 0)) == x0) && (((Shk.Sh.hs (Shk.Sh.mk true 0 false false zero32' 0 x0 x2 a x3 false x3 false x3 false x4 0)) == x2) && true))) false)
 (ite2 (cond true (true && (((Shk.Sh.ch (Shk.Sh.mk false 0 false false zero32' 0 x0 x2 b x3 false x3 false x3 false x4 0)) == x0) && (((Shk.Sh.hs (Shk.Sh.mk false 0 false false zero32' 0 x0 x2 b x3 false x3 false x3 false x4 0)) == x2) && true))) false)
 (K (AV.bool true) [])
 (K (AV.bool false) []))
 (K (AV.bool false) []))))) := by kernel_rfl
theorem st3_eq (n : Int) (a b c : List UInt8) (K : AV → Heap → Prop) : walk Tryz.E RSh (KT 3).C (fun _ _ => .unroll 40) 9 5 [.int .i64 n, .b8 32 a, .b8 32 b, .b8 32 c] K = (
 let x0 : List UInt8 := (nameS (Pat.showP (Pat.withP [73, 75] [])))
 let x1 : Bool := leB ((List.length x0) + 0) 1000000
 let x2 : List UInt8 := (Bla.sumS (x0 ++ []))
 let x3 : Bool := leB ((List.length x2) + (List.length (pubS b))) 1000000
 let x4 : List UInt8 := (Bla.sumS (x2 ++ (pubS b)))
 let x5 : List UInt8 := [0, 0, 0, 0, 0, 0, 0, 0, 0, 0, 0, 0, 0, 0, 0, 0, 0, 0, 0, 0, 0, 0, 0, 0, 0, 0, 0, 0, 0, 0, 0, 0]
 let x6 : List (List UInt8) := []
 cnd ((n % 6) == 3)
 (cnd (x1)
 (cnd (x3)
 (cnd (x1)
 (cnd (x3)
 (ite2 (cond true (true && (((Shk.Sh.ch (Shk.Sh.mk true 0 false false zero32' 0 x0 x4 a x5 false (pubS b) true x5 false x6 0)) == x0) && (((Shk.Sh.hs (Shk.Sh.mk true 0 false false zero32' 0 x0 x4 a x5 false (pubS b) true x5 false x6 0)) == x4) && true))) false)
 (ite2 (cond true (true && (((Shk.Sh.ch (Shk.Sh.mk false 0 false false zero32' 0 x0 x4 b x5 false x5 false x5 false x6 0)) == x0) && (((Shk.Sh.hs (Shk.Sh.mk false 0 false false zero32' 0 x0 x4 b x5 false x5 false x5 false x6 0)) == x4) && true))) false)
 (K (AV.bool true) [])
 (K (AV.bool false) []))
 (K (AV.bool false) []))))))) := by kernel_rfl
theorem st4_eq (n : Int) (a b c : List UInt8) (K : AV → Heap → Prop) : walk Tryz.E RSh (KT 4).C (fun _ _ => .unroll 40) 9 5 [.int .i64 n, .b8 32 a, .b8 32 b, .b8 32 c] K = (
 let x0 : List UInt8 := (nameS (Pat.showP (Pat.withP [88, 75] [])))
 let x1 : Bool := leB ((List.length x0) + 0) 1000000
 let x2 : List UInt8 := (Bla.sumS (x0 ++ []))
 let x3 : Bool := leB ((List.length x2) + (List.length (pubS b))) 1000000
 let x4 : List UInt8 := (Bla.sumS (x2 ++ (pubS b)))
 let x5 : List UInt8 := [0, 0, 0, 0, 0, 0, 0, 0, 0, 0, 0, 0, 0, 0, 0, 0, 0, 0, 0, 0, 0, 0, 0, 0, 0, 0, 0, 0, 0, 0, 0, 0]
 let x6 : List (List UInt8) := []
 cnd ((n % 6) == 4)
 (cnd (x1)
 (cnd (x3)
 (cnd (x1)
 (cnd (x3)
 (ite2 (cond true (true && (((Shk.Sh.ch (Shk.Sh.mk true 0 false false zero32' 0 x0 x4 a x5 false (pubS b) true x5 false x6 0)) == x0) && (((Shk.Sh.hs (Shk.Sh.mk true 0 false false zero32' 0 x0 x4 a x5 false (pubS b) true x5 false x6 0)) == x4) && true))) false)
 (ite2 (cond true (true && (((Shk.Sh.ch (Shk.Sh.mk false 0 false false zero32' 0 x0 x4 b x5 false x5 false x5 false x6 0)) == x0) && (((Shk.Sh.hs (Shk.Sh.mk false 0 false false zero32' 0 x0 x4 b x5 false x5 false x5 false x6 0)) == x4) && true))) false)
 (K (AV.bool true) [])
 (K (AV.bool false) []))
 (K (AV.bool false) []))))))) := by kernel_rfl
theorem st5_eq (n : Int) (a b c : List UInt8) (K : AV → Heap → Prop) : walk Tryz.E RSh (KT 5).C (fun _ _ => .unroll 40) 9 5 [.int .i64 n, .b8 32 a, .b8 32 b, .b8 32 c] K = (
 let x0 : List UInt8 := (nameS (Pat.showP (Pat.withP [75, 75] [])))
 let x1 : Bool := leB ((List.length x0) + 0) 1000000
 let x2 : List UInt8 := (Bla.sumS (x0 ++ []))
 let x3 : Bool := leB ((List.length x2) + (List.length (pubS a))) 1000000
 let x4 : List UInt8 := (Bla.sumS (x2 ++ (pubS a)))
 let x5 : Bool := leB ((List.length x4) + (List.length (pubS b))) 1000000
 let x6 : List UInt8 := (Bla.sumS (x4 ++ (pubS b)))
 let x7 : List UInt8 := [0, 0, 0, 0, 0, 0, 0, 0, 0, 0, 0, 0, 0, 0, 0, 0, 0, 0, 0, 0, 0, 0, 0, 0, 0, 0, 0, 0, 0, 0, 0, 0]
 let x8 : List (List UInt8) := []
 cnd ((n % 6) == 5)
 (cnd (x1)
 (cnd (x3)
 (cnd (x5)
 (cnd (x1)
 (cnd (x3)
 (cnd (x5)
 (ite2 (cond true (true && (((Shk.Sh.ch (Shk.Sh.mk true 0 false false zero32' 0 x0 x6 a x7 false (pubS b) true x7 false x8 0)) == x0) && (((Shk.Sh.hs (Shk.Sh.mk true 0 false false zero32' 0 x0 x6 a x7 false (pubS b) true x7 false x8 0)) == x6) && true))) false)
 (ite2 (cond true (true && (((Shk.Sh.ch (Shk.Sh.mk false 0 false false zero32' 0 x0 x6 b x7 false (pubS a) true x7 false x8 0)) == x0) && (((Shk.Sh.hs (Shk.Sh.mk false 0 false false zero32' 0 x0 x6 b x7 false (pubS a) true x7 false x8 0)) == x6) && true))) false)
 (K (AV.bool true) [])
 (K (AV.bool false) []))
 (K (AV.bool false) []))))))))) := by kernel_rfl
theorem len_nameS (s : List UInt8) : (nameS s).length = 32 := by
 rw [nameS_eq]
 unfold nameF
 cases h : ltB 32 s.length with
 | true => exact length_sumS s
 | false =>
  have := of_ltB_no h
  rw [cond_false, List.length_append, List.length_take, List.length_drop, show zero32'.length = 32 from rfl]; omega
theorem shakeTurns_c (n : Int) (_hn : -9223372036854775808 ≤ n ∧ n ≤ 9223372036854775807) (a b c : List UInt8) : HCall Tryz.E 5 [.int .i64 n, .b8 32 a, .b8 32 b, .b8 32 c] (.ret (.bool true) []) := by
 have h : n % 6 = 0 ∨ n % 6 = 1 ∨ n % 6 = 2 ∨ n % 6 = 3 ∨ n % 6 = 4 ∨ n % 6 = 5 := by omega
 rcases h with h | h | h | h | h | h
 ·refine HCall.of_walk (R := RSh) (T := KT 0) (fun _ _ => .unroll 40) 9 rfl rfl ?_
  rw [st0_eq]
  dsimp only
  simp only [cnd_iff, h, len_nameS, length_sumS, length_pubS, beq_self_eq_true, Bool.and_self, cond_true, ite2_true]
  repeat' (first | exact trivial | exact rfl | apply And.intro)
 ·refine HCall.of_walk (R := RSh) (T := KT 1) (fun _ _ => .unroll 40) 9 rfl rfl ?_
  rw [st1_eq]
  dsimp only
  simp only [cnd_iff, h, len_nameS, length_sumS, length_pubS, beq_self_eq_true, Bool.and_self, cond_true, ite2_true]
  repeat' (first | exact trivial | exact rfl | apply And.intro)
 ·refine HCall.of_walk (R := RSh) (T := KT 2) (fun _ _ => .unroll 40) 9 rfl rfl ?_
  rw [st2_eq]
  dsimp only
  simp only [cnd_iff, h, len_nameS, length_sumS, length_pubS, beq_self_eq_true, Bool.and_self, cond_true, ite2_true]
  repeat' (first | exact trivial | exact rfl | apply And.intro)
 ·refine HCall.of_walk (R := RSh) (T := KT 3) (fun _ _ => .unroll 40) 9 rfl rfl ?_
  rw [st3_eq]
  dsimp only
  simp only [cnd_iff, h, len_nameS, length_sumS, length_pubS, beq_self_eq_true, Bool.and_self, cond_true, ite2_true]
  repeat' (first | exact trivial | exact rfl | apply And.intro)
 ·refine HCall.of_walk (R := RSh) (T := KT 4) (fun _ _ => .unroll 40) 9 rfl rfl ?_
  rw [st4_eq]
  dsimp only
  simp only [cnd_iff, h, len_nameS, length_sumS, length_pubS, beq_self_eq_true, Bool.and_self, cond_true, ite2_true]
  repeat' (first | exact trivial | exact rfl | apply And.intro)
 ·refine HCall.of_walk (R := RSh) (T := KT 5) (fun _ _ => .unroll 40) 9 rfl rfl ?_
  rw [st5_eq]
  dsimp only
  simp only [cnd_iff, h, len_nameS, length_sumS, length_pubS, beq_self_eq_true, Bool.and_self, cond_true, ite2_true]
  repeat' (first | exact trivial | exact rfl | apply And.intro)
end Go.Proofs.YtehaohfglolljaaGreatDoor